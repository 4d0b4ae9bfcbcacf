/-
  DiskSynced: its walk.
-/
import Derived.Test.YtjhajlfkiafhgaaDoorDkS
namespace Go.Proofs.YtjhajlfkiafhgaaDoor
open Go.RowKit
theorem rdC_one {F : Nat → Prop} {w : World} {c : Int} (h : ∀ q, F q → q < w.heap.size) : RdC F (w.alloc (.cells #[.int .i64 c] 3)) (.slice (some ⟨w.heap.size, 0, none⟩) 1 1) [c] :=
  ⟨_, _, rfl, .inr ⟨_, 0, rfl, fun hf => Nat.lt_irrefl _ (h _ hf), by simp, fun i hi => by
    have : i = 0 := by simp at hi; omega
    subst this
    simp [go_sem]⟩⟩
theorem rdC_nil (F : Nat → Prop) (w : World) : RdC F w (.slice none 0 0) [] := ⟨_, _, rfl, .inl rfl⟩
theorem cutF_form (f : Fl) (h : f.syn ≤ f.data.size) (cut flip : Int) : ∃ s : ByteArray, cutF f cut flip = ⟨s, s.size⟩ ∧ s.size ≤ f.data.size :=
  ⟨⟨(kept f cut flip).toArray⟩, rfl, by
    have h1 := kept_len f cut flip h
    have h2 := keep_le f cut h
    show (kept f cut flip).toArray.size ≤ _
    rw [List.size_toArray, h1]
    exact h2⟩
theorem set_one {n : ByteArray} {x y : Fl} : setL [(n, x)] n y = [(n, y)] := by simp [setL]
theorem size_app (a b : ByteArray) : (a ++ b).size = a.size + b.size := by rw [ByteArray.size_append]

set_option maxRecDepth 100000 in
set_option maxHeartbeats 4000000 in
theorem synced_walk (a : ByteArray) (cut flip : Int) (wa : a.size ≤ 9223372036854775807) (_ : (Lit.int IntKind.i64 cut).wf = true) (_ : (Lit.int IntKind.i64 flip).wf = true) (w : World) :
    Calls Tryd.prog 4 #[.string a, .int .i64 cut, .int .i64 flip] w fun e w' => e = .returned (.bool true) ∧ Below w.heap.size w w' := by
  by_cases hl : 6000 < a.size
  · have hl1 : (6000 : Int) < (a.size : Int) := by omega
    have HL := Lib.hid hl
    clear hl
    go_enter Tryd.func4, Tryd.ntmps4
    go_wp2_with (go_at_call 10; refine (alive_any _).mono ?_; rintro e v1 ⟨rfl, b2⟩)
    go_ret
    exact ⟨rfl, b2⟩
  · have hl0 : ¬ (6000 : Int) < (a.size : Int) := by omega
    have hl9 : a.size ≤ 140737488351232 := by omega
    have hl1 : ByteArray.empty.size + a.size ≤ 1048576 := by show 0 + a.size ≤ _; omega
    have hp1 : setL [(nF, (⟨ByteArray.empty, 0⟩ : Fl))] nF ⟨ByteArray.empty ++ a, 0⟩ = [(nF, ⟨a, 0⟩)] := by rw [set_one, ByteArray.empty_append]
    obtain ⟨s, hs, hss⟩ := cutF_form ⟨a, 0⟩ (Nat.zero_le _) cut flip
    have hss' : s.size ≤ a.size := hss
    have hl3 : s.size + tX.size ≤ 1048576 := by show s.size + 1 ≤ _; omega
    have hp2 : crashL [cut] flip (sortB ([(nF, (⟨a, 0⟩ : Fl))].map (·.1))) 0 [(nF, ⟨a, 0⟩)] = [(nF, ⟨s, s.size⟩)] := by rw [← hs]; rfl
    have hp3 : crashL [0] 255 (sortB ([(nF, (⟨s, s.size⟩ : Fl))].map (·.1))) 0 [(nF, ⟨s, s.size⟩)] = [(nF, ⟨s, s.size⟩)] := by
      have := cutF_syn s 0 255
      conv => rhs; rw [← this]
      rfl
    have hp4 : crashL [] 1 (sortB ([(nF, (⟨s ++ tX, (s ++ tX).size⟩ : Fl))].map (·.1))) 0 [(nF, ⟨s ++ tX, (s ++ tX).size⟩)] = [(nF, ⟨s ++ tX, (s ++ tX).size⟩)] := by
      have := cutF_syn (s ++ tX) 0 1
      conv => rhs; rw [← this]
      rfl
    have hcat : maxLen = 9223372036854775807 := rfl
    clear hs hss hl
    go_enter Tryd.func4, Tryd.ntmps4
    go_wp2_with (first
      | (go_at_call 10; refine (alive_any _).mono ?_; rintro e v16 ⟨rfl, b2⟩; have H16 := Lib.hid (H15.out.stay b2); clear b2)
      | (go_at_call 15; refine (c_read H14.out.d rfl (s := nF) rfl rfl).mono ?_; rintro e v15 ⟨rfl, b2⟩; have H15 := Lib.hid (H14.out.stay b2); clear b2)
      | (go_at_call 19; refine (c_restore H13.out.d).mono ?_; rintro e v14 ⟨rfl, h2, t2⟩; have H14 := Lib.hid (H13.out.go h2 t2); clear h2 t2)
      | (go_at_call 18; have hs := H12.out.stay ((Below.refl _ _).alloc (Nat.le_refl _) (.cells #[.int .i64 9] 3)); refine (crash_off (offAt hs.d rfl) _ 1).mono ?_; rintro e v13 ⟨rfl, rfl⟩; have H13 := Lib.hid hs; clear hs)
      | (go_at_call 18; refine (c_crash H11.out.d (rdC_nil _ _) (by simp) 1 hp4).mono ?_; rintro e v12 ⟨rfl, h2, t2⟩; have H12 := Lib.hid (H11.out.go h2 t2); clear h2 t2)
      | (go_at_call 20; refine (c_sync H10.out.d (s := nF) rfl (by decide) rfl rfl).mono ?_; rintro e v11 ⟨rfl, h2, t2⟩; have H11 := Lib.hid (H10.out.go h2 t2); clear h2 t2)
      | (go_at_call 14; refine (c_append H9.out.d (s := nF) (data := tX) rfl (by decide) (by decide) rfl hl3 (.inl (by decide)) rfl).mono ?_; rintro e v10 ⟨rfl, h2, t2⟩; have H10 := Lib.hid (H9.out.go h2 t2); clear h2 t2)
      | (go_at_call 15; refine (c_read H8.out.d rfl (s := nF) rfl rfl).mono ?_; rintro e v9 ⟨rfl, b2⟩; have H9 := Lib.hid (H8.out.stay b2); clear b2)
      | (go_at_call 19; refine (c_restore H7.out.d).mono ?_; rintro e v8 ⟨rfl, h2, t2⟩; have H8 := Lib.hid (H7.out.go h2 t2); clear h2 t2)
      | (go_at_call 18; have hs := H6.out.stay ((Below.refl _ _).alloc (Nat.le_refl _) (.cells #[.int .i64 0] 3)); refine (c_crash hs.d (rdC_one H6.out.d.lt) (by simp) 255 hp3).mono ?_; rintro e v7 ⟨rfl, h2, t2⟩; have H7 := Lib.hid (hs.go h2 t2); clear h2 t2 hs)
      | (go_at_call 15; refine (c_read H5.out.d rfl (s := nF) rfl rfl).mono ?_; rintro e v6 ⟨rfl, b2⟩; have H6 := Lib.hid (H5.out.stay b2); clear b2)
      | (go_at_call 19; refine (c_restore H4.out.d).mono ?_; rintro e v5 ⟨rfl, h2, t2⟩; have H5 := Lib.hid (H4.out.go h2 t2); clear h2 t2)
      | (go_at_call 18; have hs := H3.out.stay ((Below.refl _ _).alloc (Nat.le_refl _) (.cells #[.int .i64 cut] 3)); refine (c_crash hs.d (rdC_one H3.out.d.lt) (by simp) flip hp2).mono ?_; rintro e v4 ⟨rfl, h2, t2⟩; have H4 := Lib.hid (hs.go h2 t2); clear h2 t2 hs)
      | (go_at_call 14; refine (c_append H2.out.d (s := nF) (data := a) rfl (by decide) hl9 rfl hl1 (.inl (by decide)) hp1).mono ?_; rintro e v3 ⟨rfl, h2, t2⟩; have H3 := Lib.hid (H2.out.go h2 t2); clear h2 t2)
      | (go_at_call 12; refine (c_create H1.out.d (s := nF) rfl (by decide) (by simp only [List.length_cons, List.length_nil]; omega) rfl (m' := [(nF, ⟨ByteArray.empty, 0⟩)]) rfl).mono ?_; rintro e v2 ⟨rfl, h2, t2⟩; have H2 := Lib.hid (H1.out.go h2 t2); clear h2 t2)
      | (go_at_call 11; refine (c_new (w0 := w) (Below.refl _ _)).mono ?_; rintro e v1 ⟨rfl, h1⟩; have H1 := Lib.hid h1; clear h1))

    go_ret
    exact ⟨rfl, H16.out.b⟩
end Go.Proofs.YtjhajlfkiafhgaaDoor
