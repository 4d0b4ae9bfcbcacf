/-
  DiskRenames: its walk.
-/
import Derived.Test.YtjhajlfkiafhgaaDoorLSynced
namespace Go.Proofs.YtjhajlfkiafhgaaDoor
open Go.RowKit

theorem kept_app (a b : ByteArray) (cut : Int) : (a ++ b).data.toList.take (a.size + keep ⟨a ++ b, a.size⟩ cut) = (a ++ b.extract 0 (min (max cut 0) (b.size : Int)).toNat).data.toList := by
  have hk : keep ⟨a ++ b, a.size⟩ cut = (min (max cut 0) (b.size : Int)).toNat := by
    unfold keep
    show min cut.toNat ((a ++ b).size - a.size) = _
    rw [ByteArray.size_append]
    omega
  rw [hk]
  have h1 : (a ++ b).data.toList = a.data.toList ++ b.data.toList := by simp
  have h2 : (a ++ b.extract 0 (min (max cut 0) (b.size : Int)).toNat).data.toList = a.data.toList ++ b.data.toList.take (min (max cut 0) (b.size : Int)).toNat := by simp [List.extract]
  have h3 : a.data.toList.length = a.size := by simp
  rw [h1, h2, ← h3, List.take_length_add_append]
theorem fl_of (X : ByteArray) : (⟨⟨X.data.toList.toArray⟩, X.data.toList.length⟩ : Fl) = ⟨X, X.size⟩ := by
  obtain ⟨d⟩ := X
  simp
  rfl
theorem cutF_app (a b : ByteArray) (cut : Int) : cutF ⟨a ++ b, a.size⟩ cut 0 = ⟨a ++ b.extract 0 (min (max cut 0) (b.size : Int)).toNat, (a ++ b.extract 0 (min (max cut 0) (b.size : Int)).toNat).size⟩ := by
  have h1 : kept ⟨a ++ b, a.size⟩ cut 0 = (a ++ b.extract 0 (min (max cut 0) (b.size : Int)).toNat).data.toList := by
    unfold kept
    rw [if_neg (by omega)]
    exact kept_app a b cut
  unfold cutF
  rw [h1]
  exact fl_of _

set_option maxRecDepth 100000 in
set_option maxHeartbeats 4000000 in
theorem renames_walk (a b c : ByteArray) (cut : Int) (ya : a.size ≤ 140737488351232) (yb : b.size ≤ 140737488351232) (yc : c.size ≤ 140737488351232) (_ : (Lit.int IntKind.i64 cut).wf = true) (w : World) :
    Calls Tryd.prog 6 #[.string a, .string b, .string c, .int .i64 cut] w fun e w' => e = .returned (.bool true) ∧ Below w.heap.size w w' := by
  by_cases hl : 6000 < a.size + b.size + c.size
  · have hl1 : (6000 : Int) < (a.size : Int) + (b.size : Int) + (c.size : Int) := by omega
    have HL := Lib.hid hl
    clear hl
    go_enter Tryd.func6, Tryd.ntmps6
    go_wp2_with (go_at_call 10; refine (alive_any _).mono ?_; rintro e v1 ⟨rfl, b2⟩)
    go_ret
    exact ⟨rfl, b2⟩
  · have hl0 : ¬ (6000 : Int) < (a.size : Int) + (b.size : Int) + (c.size : Int) := by omega
    have hl1 : ByteArray.empty.size + a.size ≤ 1048576 := by show 0 + a.size ≤ _; omega
    have hl2 : a.size + b.size ≤ 1048576 := by omega
    have hl3 : ByteArray.empty.size + c.size ≤ 1048576 := by show 0 + c.size ≤ _; omega
    have hp1 : setL [(nA, (⟨ByteArray.empty, 0⟩ : Fl)), (nB, ⟨ByteArray.empty, 0⟩)] nA ⟨ByteArray.empty ++ a, 0⟩ = [(nA, ⟨a, 0⟩), (nB, ⟨ByteArray.empty, 0⟩)] := by rw [ByteArray.empty_append]; rfl
    have hp2 : setL [(nA, (⟨a, a.size⟩ : Fl)), (nB, ⟨ByteArray.empty, 0⟩)] nA ⟨a ++ b, a.size⟩ = [(nA, ⟨a ++ b, a.size⟩), (nB, ⟨ByteArray.empty, 0⟩)] := rfl
    have hp3 : setL [(nA, (⟨a ++ b, a.size⟩ : Fl)), (nB, ⟨ByteArray.empty, 0⟩)] nB ⟨ByteArray.empty ++ c, 0⟩ = [(nA, ⟨a ++ b, a.size⟩), (nB, ⟨c, 0⟩)] := by rw [ByteArray.empty_append]; rfl
    have hp4 : setL (delL [(nA, (⟨a ++ b, a.size⟩ : Fl)), (nB, ⟨c, 0⟩)] nA) nB ⟨a ++ b, a.size⟩ = [(nB, ⟨a ++ b, a.size⟩)] := rfl
    have hp5 : setL (delL [(nB, (⟨a ++ b, a.size⟩ : Fl))] nB) nB ⟨a ++ b, a.size⟩ = [(nB, ⟨a ++ b, a.size⟩)] := rfl
    have hu : (used [(nB, (⟨a ++ b, a.size⟩ : Fl))] : Int) = (a.size : Int) + (b.size : Int) := by simp [used, ByteArray.size_append]
    obtain ⟨s, hs, hss⟩ := cutF_form ⟨a ++ b, a.size⟩ (by show a.size ≤ (a ++ b).size; rw [ByteArray.size_append]; omega) cut 0
    have hp6 : crashL [cut] 0 (sortB ([(nB, (⟨a ++ b, a.size⟩ : Fl))].map (·.1))) 0 [(nB, ⟨a ++ b, a.size⟩)] = [(nB, ⟨s, s.size⟩)] := by rw [← hs]; rfl
    have hp7 : ((dkL [(nB, (⟨s, s.size⟩ : Fl))] (-1) 8).list ByteArray.empty).length = 1 := rfl
    have hsT : s.toList = (a ++ b.extract 0 (min (max cut 0) (b.size : Int)).toNat).toList := by
      have h5 := cutF_app a b cut
      rw [hs] at h5
      injection h5 with h5
      rw [h5]
    clear hs hss hl
    go_enter Tryd.func6, Tryd.ntmps6
    go_wp2_with (first
      | (go_at_call 23; refine (c_list H16.out.d rfl ByteArray.empty (n := 1) hp7).mono ?_; rintro e v17 ⟨a17, n17, rfl, b2⟩; have H17 := Lib.hid (H16.out.stay b2); clear b2)
      | (go_at_call 10; refine (alive_any _).mono ?_; rintro e v16 ⟨rfl, b2⟩; have H16 := Lib.hid (H15.out.stay b2); clear b2)
      | (go_at_call 15; refine (c_read H14.out.d rfl (s := nB) rfl rfl).mono ?_; rintro e v15 ⟨rfl, b2⟩; have H15 := Lib.hid (H14.out.stay b2); clear b2)
      | (go_at_call 19; refine (c_restore H13.out.d).mono ?_; rintro e v14 ⟨rfl, h2, t2⟩; have H14 := Lib.hid (H13.out.go h2 t2); clear h2 t2)
      | (go_at_call 18; have hs := H12.out.stay ((Below.refl _ _).alloc (Nat.le_refl _) (.cells #[.int .i64 cut] 3)); refine (c_crash hs.d (rdC_one H12.out.d.lt) (by simp) 0 hp6).mono ?_; rintro e v13 ⟨rfl, h2, t2⟩; have H13 := Lib.hid (hs.go h2 t2); clear h2 t2 hs)
      | (go_at_call 15; refine (c_read H11.out.d rfl (s := nB) rfl rfl).mono ?_; rintro e v12 ⟨rfl, b2⟩; have H12 := Lib.hid (H11.out.stay b2); clear b2)
      | (go_at_call 22; refine (c_rename H10.out.d (s := nB) (t := nB) rfl rfl (by decide) rfl hp5).mono ?_; rintro e v11 ⟨rfl, h2, t2⟩; have H11 := Lib.hid (H10.out.go h2 t2); clear h2 t2)
      | (go_at_call 16; refine (c_used H9.out.d (n := (a.size : Int) + (b.size : Int)) hu).mono ?_; rintro e v10 ⟨rfl, b2⟩; have H10 := Lib.hid (H9.out.stay b2); clear b2)
      | (go_at_call 22; refine (c_rename_none H8.out.d (s := nA) (t := nB) rfl rfl (by decide) rfl).mono ?_; rintro e v9 ⟨rfl, h2, t2⟩; have H9 := Lib.hid (H8.out.go h2 t2); clear h2 t2)
      | (go_at_call 22; refine (c_rename H7.out.d (s := nA) (t := nB) rfl rfl (by decide) rfl hp4).mono ?_; rintro e v8 ⟨rfl, h2, t2⟩; have H8 := Lib.hid (H7.out.go h2 t2); clear h2 t2)
      | (go_at_call 14; refine (c_append H6.out.d (s := nB) (data := c) rfl (by decide) yc rfl hl3 (.inl (by decide)) hp3).mono ?_; rintro e v7 ⟨rfl, h2, t2⟩; have H7 := Lib.hid (H6.out.go h2 t2); clear h2 t2)
      | (go_at_call 14; refine (c_append H5.out.d (s := nA) (data := b) rfl (by decide) yb rfl hl2 (.inl (by decide)) hp2).mono ?_; rintro e v6 ⟨rfl, h2, t2⟩; have H6 := Lib.hid (H5.out.go h2 t2); clear h2 t2)
      | (go_at_call 20; refine (c_sync H4.out.d (s := nA) rfl (by decide) rfl rfl).mono ?_; rintro e v5 ⟨rfl, h2, t2⟩; have H5 := Lib.hid (H4.out.go h2 t2); clear h2 t2)
      | (go_at_call 14; refine (c_append H3.out.d (s := nA) (data := a) rfl (by decide) ya rfl hl1 (.inl (by decide)) hp1).mono ?_; rintro e v4 ⟨rfl, h2, t2⟩; have H4 := Lib.hid (H3.out.go h2 t2); clear h2 t2)
      | (go_at_call 12; refine (c_create H2.out.d (s := nB) rfl (by decide) (by simp only [List.length_cons, List.length_nil]; omega) rfl (m' := [(nA, ⟨ByteArray.empty, 0⟩), (nB, ⟨ByteArray.empty, 0⟩)]) rfl).mono ?_; rintro e v3 ⟨rfl, h2, t2⟩; have H3 := Lib.hid (H2.out.go h2 t2); clear h2 t2)
      | (go_at_call 12; refine (c_create H1.out.d (s := nA) rfl (by decide) (by simp only [List.length_cons, List.length_nil]; omega) rfl (m' := [(nA, ⟨ByteArray.empty, 0⟩)]) rfl).mono ?_; rintro e v2 ⟨rfl, h2, t2⟩; have H2 := Lib.hid (H1.out.go h2 t2); clear h2 t2)
      | (go_at_call 11; refine (c_new (w0 := w) (Below.refl _ _)).mono ?_; rintro e v1 ⟨rfl, h1⟩; have H1 := Lib.hid h1; clear h1))

    go_ret
    exact ⟨rfl, H17.out.b⟩
end Go.Proofs.YtjhajlfkiafhgaaDoor
