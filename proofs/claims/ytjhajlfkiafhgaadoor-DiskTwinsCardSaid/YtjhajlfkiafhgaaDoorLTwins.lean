/-
  DiskTwins: its walk.
-/
import Derived.Test.YtjhajlfkiafhgaaDoorLRenames
namespace Go.Proofs.YtjhajlfkiafhgaaDoor
open Go.RowKit
variable {F G : Nat → Prop} {w w' w0 : World} {db mb e f B : Nat} {D D' E E' : Dk}

/-- Two disks that were made behind the world w0. -/
structure DkT (F : Nat → Prop) (B : Nat) (w0 w : World) (db mb : Nat) (D : Dk) (e f : Nat) (E : Dk) : Prop where
  a : DkB F B w0 w db mb D
  b : DkB F B w0 w e f E
  n : ∀ q, two db mb q → ¬ two e f q
theorem DkT.go1 (h : DkT F B w0 w db mb D e f E) (h2 : DkAt F w' db mb D') (t : Tn (two db mb) w w') : DkT F B w0 w' db mb D' e f E :=
  have k := h.a.go h2 t
  ⟨k, ⟨h.b.d.frame t (fun q _ hq => ⟨two_F h.a.d q hq, fun e => h.n q hq (.inl e), fun e => h.n q hq (.inr e)⟩), k.b, h.b.hd, h.b.hm, k.hz⟩, h.n⟩
theorem DkT.go2 (h : DkT F B w0 w db mb D e f E) (h2 : DkAt F w' e f E') (t : Tn (two e f) w w') : DkT F B w0 w' db mb D e f E' :=
  have k := h.b.go h2 t
  ⟨⟨h.a.d.frame t (fun q _ hq => ⟨two_F h.b.d q hq, fun e => h.n q (.inl e) hq, fun e => h.n q (.inr e) hq⟩), k.b, h.a.hd, h.a.hm, k.hz⟩, k, h.n⟩
theorem DkT.stay (h : DkT F B w0 w db mb D e f E) (t : Below w.heap.size w w') : DkT F B w0 w' db mb D e f E := ⟨h.a.stay t, h.b.stay t, h.n⟩
theorem DkT.made (h : DkB F B w0 w db mb D) (h2 : DkAt G w' w.heap.size (w.heap.size + 1) D) (h3 : DkAt G w' db mb D) (b : Below w.heap.size w w') : DkT G B w0 w' db mb D w.heap.size (w.heap.size + 1) D := by
  have hb := h.b.trans (b.mono h.hz)
  have hz := Nat.le_trans h.hz b.size
  have := h.hz
  have h4 := h.d.ltd
  have h5 := h.d.m.lt
  refine ⟨⟨h3, hb, h.hd, h.hm, hz⟩, ⟨h2, hb, h.hz, by omega, hz⟩, fun q hq hq2 => ?_⟩
  rcases hq with rfl | rfl <;> rcases hq2 with e | e <;> omega

set_option maxRecDepth 100000 in
set_option maxHeartbeats 4000000 in
theorem twins_walk (a b : ByteArray) (cut : Int) (ya : a.size ≤ 140737488351232) (yb : b.size ≤ 140737488351232) (_ : (Lit.int IntKind.i64 cut).wf = true) (w : World) :
    Calls Tryd.prog 7 #[.string a, .string b, .int .i64 cut] w fun e w' => e = .returned (.bool true) ∧ Below w.heap.size w w' := by
  by_cases hl : 6000 < a.size + b.size
  · have hl1 : (6000 : Int) < (a.size : Int) + (b.size : Int) := by omega
    have HL := Lib.hid hl
    clear hl
    go_enter Tryd.func7, Tryd.ntmps7
    go_wp2_with (go_at_call 10; refine (alive_any _).mono ?_; rintro e v1 ⟨rfl, b2⟩)
    go_ret
    exact ⟨rfl, b2⟩
  · have hl0 : ¬ (6000 : Int) < (a.size : Int) + (b.size : Int) := by omega
    have hl1 : ByteArray.empty.size + a.size ≤ 1048576 := by show 0 + a.size ≤ _; omega
    have hl2 : a.size + b.size ≤ 1048576 := by omega
    have hp1 : setL [(nF, (⟨ByteArray.empty, 0⟩ : Fl))] nF ⟨ByteArray.empty ++ a, 0⟩ = [(nF, ⟨a, 0⟩)] := by rw [set_one, ByteArray.empty_append]
    have hp2 : setL [(nF, (⟨a, 0⟩ : Fl))] nF ⟨a ++ b, 0⟩ = [(nF, ⟨a ++ b, 0⟩)] := rfl
    have hu : (used [(nG, (⟨a ++ b, 0⟩ : Fl))] : Int) = (a.size : Int) + (b.size : Int) := by simp [used, ByteArray.size_append]
    obtain ⟨v, hv⟩ : ∃ v, a.extract 0 (min (max cut 0) (a.size : Int)).toNat = v := ⟨_, rfl⟩
    have hs : cutF ⟨a, 0⟩ cut 0 = ⟨v, v.size⟩ := by
      have h5 := cutF_app ByteArray.empty a cut
      rw [hv, ByteArray.empty_append, ByteArray.empty_append] at h5
      exact h5
    have hvs : v.size = (min (max cut 0) (a.size : Int)).toNat := by rw [← hv, ByteArray.size_extract]; omega
    have hv1 : (v.size : Int) = min (max cut 0) (a.size : Int) := by rw [hvs]; omega
    have hv2 : v.toList = (a.extract 0 v.size).toList := by rw [hvs, hv]
    have hv3 : (a.extract 0 v.size).toList = (a.extract 0 (min (max cut 0) (a.size : Int)).toNat).toList := by rw [hvs]
    have hvl : v.size ≤ a.size := by omega
    have hp6 : crashL [cut] 0 (sortB ([(nF, (⟨a, 0⟩ : Fl))].map (·.1))) 0 [(nF, ⟨a, 0⟩)] = [(nF, ⟨v, v.size⟩)] := by rw [← hs]; rfl
    clear hs hvs hv hl
    go_enter Tryd.func7, Tryd.ntmps7
    go_wp2_with (first
      | (go_at_call 16; refine (c_used H12.out.a.d (n := (a.size : Int) + (b.size : Int)) hu).mono ?_; rintro e v13 ⟨rfl, b2⟩; have H13 := Lib.hid (H12.out.stay b2); clear b2)
      | (go_at_call 10; refine (alive_any _).mono ?_; rintro e v12 ⟨rfl, b2⟩; have H12 := Lib.hid (H11.out.stay b2); clear b2)
      | (go_at_call 15; refine (c_read H10.out.b.d rfl (s := nF) rfl rfl).mono ?_; rintro e v11 ⟨rfl, b2⟩; have H11 := Lib.hid (H10.out.stay b2); clear b2)
      | (go_at_call 19; refine (c_restore H9.out.b.d).mono ?_; rintro e v10 ⟨rfl, h2, t2⟩; have H10 := Lib.hid (H9.out.go2 h2 t2); clear h2 t2)
      | (go_at_call 15; refine (c_read H8.out.a.d rfl (s := nG) rfl rfl).mono ?_; rintro e v9 ⟨rfl, b2⟩; have H9 := Lib.hid (H8.out.stay b2); clear b2)
      | (go_at_call 18; have hs := H7.out.stay ((Below.refl _ _).alloc (Nat.le_refl _) (.cells #[.int .i64 cut] 3)); refine (c_crash hs.b.d (rdC_one H7.out.b.d.lt) (by simp) 0 hp6).mono ?_; rintro e v8 ⟨rfl, h2, t2⟩; have H8 := Lib.hid (hs.go2 h2 t2); clear h2 t2 hs)
      | (go_at_call 15; refine (c_read H6.out.b.d rfl (s := nF) rfl rfl).mono ?_; rintro e v7 ⟨rfl, b2⟩; have H7 := Lib.hid (H6.out.stay b2); clear b2)
      | (go_at_call 22; refine (c_rename H5.out.a.d (s := nF) (t := nG) rfl rfl (by decide) rfl rfl).mono ?_; rintro e v6 ⟨rfl, h2, t2⟩; have H6 := Lib.hid (H5.out.go1 h2 t2); clear h2 t2)
      | (go_at_call 14; refine (c_append H4.out.a.d (s := nF) (data := b) rfl (by decide) yb rfl hl2 (.inl (by decide)) hp2).mono ?_; rintro e v5 ⟨rfl, h2, t2⟩; have H5 := Lib.hid (H4.out.go1 h2 t2); clear h2 t2)
      | (go_at_call 24; refine (twin_any H3.out.d).mono ?_; rintro e v4 ⟨rfl, h2, h3, b2, z2⟩; have H4 := Lib.hid (DkT.made H3.out h2 h3 b2); clear h2 h3 b2 z2)
      | (go_at_call 14; refine (c_append H2.out.d (s := nF) (data := a) rfl (by decide) ya rfl hl1 (.inl (by decide)) hp1).mono ?_; rintro e v3 ⟨rfl, h2, t2⟩; have H3 := Lib.hid (H2.out.go h2 t2); clear h2 t2)
      | (go_at_call 12; refine (c_create H1.out.d (s := nF) rfl (by decide) (by simp only [List.length_cons, List.length_nil]; omega) rfl (m' := [(nF, ⟨ByteArray.empty, 0⟩)]) rfl).mono ?_; rintro e v2 ⟨rfl, h2, t2⟩; have H2 := Lib.hid (H1.out.go h2 t2); clear h2 t2)
      | (go_at_call 11; refine (c_new (w0 := w) (Below.refl _ _)).mono ?_; rintro e v1 ⟨rfl, h1⟩; have H1 := Lib.hid h1; clear h1))

    go_ret
    exact ⟨rfl, H13.out.a.b⟩
end Go.Proofs.YtjhajlfkiafhgaaDoor
