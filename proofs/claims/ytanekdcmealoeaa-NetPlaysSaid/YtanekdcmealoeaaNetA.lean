/-
  The walks of ways, lose, IsCut, Len, Lost, New.
-/
import Derived.Test.YtanekdcmealoeaaBase
namespace Go.Proofs.Ytanekdcmealoeaa
open Go.RowKit Go.Maps

theorem ret_b {a b : Bool} (h : a = b) : Ending.returned (.bool a) = .returned (.bool b) := by rw [h]

theorem ways_any {w : World} {nb mb : Nat} {lv : Value} {c : Nat} {s : St} (h : NetAt w nb mb lv c s) (a b : Int) :
    Calls Try.prog 26 #[.pointer (some ⟨nb, 0, none⟩), .int .i64 a, .int .i64 b] w fun e w' => e = .returned (.bool (s.way a b)) ∧ w = w' := by
  have h0 := h.c0
  obtain ⟨n, hn⟩ : ∃ n, n = s.n := ⟨_, rfl⟩
  have HW : Hid (s.way a b = (decide (0 ≤ a) && decide (a < n) && decide (0 ≤ b) && decide (b < n) && decide (a ≠ b))) := by unfold Hid St.way; rw [hn]
  rw [← hn] at h0
  clear hn h
  by_cases a1 : 0 ≤ a
  · by_cases a2 : a < n
    · by_cases a3 : 0 ≤ b
      · by_cases a4 : b < n
        · have hne : (a != b) = decide (a ≠ b) := by by_cases e : a = b <;> simp [e]
          have H : Hid (s.way a b = decide (a ≠ b)) := by unfold Hid; rw [HW.out]; simp [a1, a2, a3, a4]
          go_enter Try.func26, Try.ntmps26
          go_wp2
          go_ret
          exact ⟨ret_b (by rw [H.out]; simp), rfl⟩
        · have H : Hid (s.way a b = false) := by unfold Hid; rw [HW.out]; simp [a4]
          have t4 : decide (b < n) = false := by simpa using a4
          go_enter Try.func26, Try.ntmps26
          go_wp2
          go_ret
          exact ⟨ret_b (by rw [H.out]), rfl⟩
      · have H : Hid (s.way a b = false) := by unfold Hid; rw [HW.out]; simp [a3]
        have t3 : decide (0 ≤ b) = false := by simpa using a3
        go_enter Try.func26, Try.ntmps26
        go_wp2
        go_ret
        exact ⟨ret_b (by rw [H.out]), rfl⟩
    · have H : Hid (s.way a b = false) := by unfold Hid; rw [HW.out]; simp [a2]
      have t2 : decide (a < n) = false := by simpa using a2
      go_enter Try.func26, Try.ntmps26
      go_wp2
      go_ret
      exact ⟨ret_b (by rw [H.out]), rfl⟩
  · have H : Hid (s.way a b = false) := by unfold Hid; rw [HW.out]; simp [a1]
    have t1 : decide (0 ≤ a) = false := by simpa using a1
    go_enter Try.func26, Try.ntmps26
    go_wp2
    go_ret
    exact ⟨ret_b (by rw [H.out]), rfl⟩

theorem NetAt.setLost {w : World} {nb mb : Nat} {lv : Value} {c : Nat} {s : St} (h : NetAt w nb mb lv c s) (x : Int) (h0 : 0 ≤ x) (h1 : x ≤ 9223372036854775807) : NetAt (w.setCell ⟨nb, 3, none⟩ (.int .i64 x)) nb mb lv c { s with lost := x } := by
  have ne : ∀ j, j ≠ 3 → (⟨nb, j, none⟩ : Addr) ≠ ⟨nb, 3, none⟩ := fun j hj e => hj (by injection e)
  refine ⟨?_, ?_, ?_, ?_, fun j => by rw [World.frozen?_setCell]; exact h.fz j, ?_, ?_, h.nm, h.nl, h.ml, h.n0, h.n8, h.len, h0, h1⟩
  · rw [World.cell?_setCell_other _ _ _ _ (Ne.symm (ne 0 (by decide)))]; exact h.c0
  · rw [World.cell?_setCell_other _ _ _ _ (Ne.symm (ne 1 (by decide)))]; exact h.c1
  · rw [World.cell?_setCell_other _ _ _ _ (Ne.symm (ne 2 (by decide)))]; exact h.c2
  · exact World.cell?_setCell_same _ _ _ h.c3
  · exact (Tn.setCell (F := fun k => k = nb) w ⟨nb, 3, none⟩ _ rfl).row h.row (fun k hk e => h.nl (by rw [hk, e]))
  · obtain ⟨D, hD, hc⟩ := h.map
    exact ⟨D, hD.setCell (fun e => h.nm e.symm) _, hc⟩

theorem lose_any {w : World} {nb mb : Nat} {lv : Value} {c : Nat} {s : St} (h : NetAt w nb mb lv c s) :
    Calls Try.prog 27 #[.pointer (some ⟨nb, 0, none⟩)] w fun e w' => e = .returned (.tuple #[]) ∧ NetAt w' nb mb lv c s.lose ∧ Step nb mb lv w lv w' := by
  have h3 := h.c3
  have hf := h.fz 3
  have hl0 := h.l0
  have hl1 := h.l1
  have HN := Lib.hid h
  clear h
  by_cases hx : s.lost < 9223372036854775807
  · have H : Hid (s.lose = { s with lost := s.lost + 1 }) := by unfold Hid St.lose; rw [if_pos hx]
    go_enter Try.func27, Try.ntmps27
    go_wp2
    go_end0
    exact ⟨rfl, by rw [H.out]; exact HN.out.setLost _ (by omega) (by omega), Step.refl (Tn.setCell _ _ _ (Or.inl rfl))⟩
  · have H : Hid (s.lose = s) := by unfold Hid St.lose; rw [if_neg hx]
    go_enter Try.func27, Try.ntmps27
    go_wp2
    go_end0
    exact ⟨rfl, by rw [H.out]; exact HN.out, Step.refl (Tn.refl _ _)⟩

theorem lost_any {w : World} {nb mb : Nat} {lv : Value} {c : Nat} {s : St} (h : NetAt w nb mb lv c s) :
    Calls Try.prog 13 #[.pointer (some ⟨nb, 0, none⟩)] w fun e w' => e = .returned (.int .i64 s.lost) ∧ w = w' := by
  have h3 := h.c3
  clear h
  go_enter Try.func13, Try.ntmps13
  go_wp2
  go_ret
  exact ⟨rfl, rfl⟩

/-- The slice's form. -/
theorem NetAt.form {w : World} {nb mb : Nat} {lv : Value} {c : Nat} {s : St} (h : NetAt w nb mb lv c s) : ∃ a cap, lv = .slice a s.l.length cap ∧ s.l.length ≤ cap ∧ cap ≤ 9223372036854775807 := by
  obtain ⟨_, h2⟩ := h.row
  rcases h2 with ⟨rfl, h0⟩ | ⟨g, cap, cur, rfl, hg, hh, hn, hc, _⟩
  · exact ⟨none, 0, by rw [h0], by omega, by omega⟩
  · exact ⟨_, cap, rfl, hn, by unfold maxLen at hc; omega⟩

theorem len_any {w : World} {nb mb : Nat} {lv : Value} {c : Nat} {s : St} (h : NetAt w nb mb lv c s) :
    Calls Try.prog 12 #[.pointer (some ⟨nb, 0, none⟩)] w fun e w' => e = .returned (.int .i64 (s.l.length : Int)) ∧ w = w' := by
  have h1 := h.c1
  obtain ⟨a, cap, rfl, _, _⟩ := h.form
  clear h
  go_enter Try.func12, Try.ntmps12
  go_wp2
  go_ret
  exact ⟨rfl, rfl⟩

theorem iscut_any {w : World} {nb mb : Nat} {lv : Value} {c : Nat} {s : St} (h : NetAt w nb mb lv c s) (a b : Int) (ha : (Lit.int .i64 a).wf = true) (hb : (Lit.int .i64 b).wf = true) :
    Calls Try.prog 15 #[.pointer (some ⟨nb, 0, none⟩), .int .i64 a, .int .i64 b] w fun e w' => e = .returned (.bool (s.cut a b)) ∧ Below w.heap.size w w' := by
  have h2 := h.c2
  obtain ⟨D, hD, hc⟩ := h.map
  have HC := Lib.hid (hc a b ha hb)
  have HK := Lib.hid (keyOf_way ha hb)
  have HD := Lib.hid hD
  have hz := zero59
  clear hc hD ha hb h
  go_enter Try.func15, Try.ntmps15
  go_wp2_with (at_lookup; refine wpList_lookup_own_unit _ rfl _ _ 49 rfl 60 59 law60 Try.underlying49 (zero59 _) mb c D rfl HD.out _ _ rfl HK.out ?_)
  go_wp2
  go_ret
  refine ⟨ret_b HC.out, ?_⟩
  exact (Below.refl _ _).alloc (Nat.le_refl _) _
end Go.Proofs.Ytanekdcmealoeaa
