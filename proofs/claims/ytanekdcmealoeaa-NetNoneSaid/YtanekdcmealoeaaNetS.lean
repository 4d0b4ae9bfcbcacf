/-
  NetNone answers true.
-/
import Derived.Test.YtanekdcmealoeaaNetP
namespace Go.Proofs.Ytanekdcmealoeaa
open Go.RowKit Go.Maps

/-- A zero net stands at nb. -/
structure Zero (w : World) (nb : Nat) : Prop where
  c0 : w.cell? ⟨nb, 0, none⟩ = some (.int .i64 0)
  c1 : w.cell? ⟨nb, 1, none⟩ = some (.slice none 0 0)
  c2 : w.cell? ⟨nb, 2, none⟩ = some (.map none)
  c3 : w.cell? ⟨nb, 3, none⟩ = some (.int .i64 0)

theorem Zero.lt {w : World} {nb : Nat} (h : Zero w nb) : nb < w.heap.size := World.block_lt_of_cell? w _ h.c0
theorem Zero.below {w w' : World} {nb : Nat} (h : Zero w nb) (hb : Below w.heap.size w w') : Zero w' nb :=
  ⟨(hb.cell h.lt).trans h.c0, (hb.cell h.lt).trans h.c1, (hb.cell h.lt).trans h.c2, (hb.cell h.lt).trans h.c3⟩

set_option maxRecDepth 100000 in
theorem nil_peek (i : Int) (W : World) :
    Calls Try.prog 19 #[.pointer none, .int .i64 i] W fun e w' => e = .returned (.tuple #[.int .i64 0, .int .i64 0, .string ⟨#[]⟩, .int .i64 1]) ∧ Below W.heap.size W w' := by
  have hmf : ∀ (fn : Fn) (first cap : Array Value) (w : World), (Instr.makeFunc fn first cap).run Try.prog w = .ok (.func fn first cap) w := fun _ _ _ _ => rfl
  obtain ⟨W2, hW2⟩ : ∃ W2, W2 = W.alloc (.cells #[.int .i64 0, .int .i64 0, .string ⟨#[]⟩] 55) := ⟨_, rfl⟩
  have b2 : Below W.heap.size W W2 := by rw [hW2]; exact (Below.refl _ _).alloc (Nat.le_refl _) _
  have hm2 : MAt W2 W.heap.size msg0 := by rw [hW2]; exact new_msg W
  have hw := hW2.symm
  have hz := @zero55
  have HB := Lib.hid b2
  have HM := Lib.hid hm2
  clear b2 hW2 hm2
  go_enter Try.func19, Try.ntmps19
  go_wp2_with fail
  refine (asked_bad (.pointer none) i 35 #[.pointer (some ⟨W.heap.size, 0, none⟩)] W2 1 (fun W' _ => at_nil i W')).mono ?_
  rintro e w4 ⟨rfl, hb⟩
  have hm4 := HM.out.turn (Tn.ofBelow (F := fun _ => False) hb) (fun e => e)
  have HX := Lib.hid (HB.out.trans (hb.mono HB.out.size))
  have k0 := hm4.c0
  have k1 := hm4.c1
  have k2 := hm4.c2
  unfold msg0 at k0 k1 k2
  clear hb hm4 hw
  simp only []
  go_wp2_with fail
  go_quiet (fail)
  go_wp2
  refine ⟨rfl, _, ?_, rfl, HX.out.trans ((Tn.drewN (F := fun _ => False) _ _).below HX.out.size (fun _ e => e.elim))⟩
  simp [results, Try.results19, go_sem]

set_option maxRecDepth 100000 in
theorem zero_deliver {W : World} {nb : Nat} (h : Zero W nb) (i : Int) :
    Calls Try.prog 11 #[.pointer (some ⟨nb, 0, none⟩), .int .i64 i] W fun e w' => e = .returned (.tuple #[.int .i64 0, .int .i64 0, .string ⟨#[]⟩, .int .i64 1]) ∧ Below W.heap.size W w' := by
  have hmf : ∀ (fn : Fn) (first cap : Array Value) (w : World), (Instr.makeFunc fn first cap).run Try.prog w = .ok (.func fn first cap) w := fun _ _ _ _ => rfl
  obtain ⟨W2, hW2⟩ : ∃ W2, W2 = ((W.alloc (.cells #[.pointer (some ⟨nb, 0, none⟩)] 24)).alloc (.cells #[.int .i64 i] 3)).alloc (.cells #[.int .i64 0, .int .i64 0, .string ⟨#[]⟩] 55) := ⟨_, rfl⟩
  have b2 : Below W.heap.size W W2 := by rw [hW2]; exact (((Below.refl _ _).alloc (Nat.le_refl _) _).alloc (by simp) _).alloc (by simp; omega) _
  have hm2 : MAt W2 (W.heap.size + 1 + 1) msg0 := by
    have := new_msg ((W.alloc (.cells #[.pointer (some ⟨nb, 0, none⟩)] 24)).alloc (.cells #[.int .i64 i] 3))
    rw [← hW2] at this
    simpa using this
  have k0 : W2.cell? ⟨W.heap.size, 0, none⟩ = some (.pointer (some ⟨nb, 0, none⟩)) := by rw [hW2]; simp [go_sem]
  have k1 : W2.cell? ⟨W.heap.size + 1, 0, none⟩ = some (.int .i64 i) := by rw [hW2]; simp [go_sem]
  have hw := hW2.symm
  have hz := @zero55
  have HB := Lib.hid b2
  have HM := Lib.hid hm2
  have HZ := Lib.hid (h.below b2)
  clear b2 hW2 hm2 h
  go_enter Try.func11, Try.ntmps11
  go_wp2_with fail
  refine (asked_bad (.pointer (some ⟨nb, 0, none⟩)) i 30 #[.pointer (some ⟨W.heap.size + 1 + 1, 0, none⟩), .pointer (some ⟨W.heap.size, 0, none⟩), .pointer (some ⟨W.heap.size + 1, 0, none⟩)] W2 1 (fun W' hb => at_zero i nb W' (HZ.out.below hb).c0)).mono ?_
  rintro e w4 ⟨rfl, hb⟩
  have hm4 := HM.out.turn (Tn.ofBelow (F := fun _ => False) hb) (fun e => e)
  have HX := Lib.hid (HB.out.trans (hb.mono HB.out.size))
  have r0 := hm4.c0
  have r1 := hm4.c1
  have r2 := hm4.c2
  unfold msg0 at r0 r1 r2
  clear hb hm4 hw
  simp only []
  go_wp2_with fail
  go_quiet (fail)
  go_wp2
  refine ⟨rfl, _, ?_, rfl, HX.out.trans ((Tn.drewN (F := fun _ => False) _ _).below HX.out.size (fun _ e => e.elim))⟩
  simp [results, Try.results11, go_sem]

set_option maxRecDepth 100000 in
theorem nil_drop (i : Int) (W : World) :
    Calls Try.prog 16 #[.pointer none, .int .i64 i] W fun e w' => e = .returned (.int .i64 1) ∧ Below W.heap.size W w' := by
  have hmf : ∀ (fn : Fn) (first cap : Array Value) (w : World), (Instr.makeFunc fn first cap).run Try.prog w = .ok (.func fn first cap) w := fun _ _ _ _ => rfl
  obtain ⟨W2, hW2⟩ : ∃ W2, W2 = (W.alloc (.cells #[.pointer none] 24)).alloc (.cells #[.int .i64 i] 3) := ⟨_, rfl⟩
  have b2 : Below W.heap.size W W2 := by rw [hW2]; exact ((Below.refl _ _).alloc (Nat.le_refl _) _).alloc (by simp) _
  have k0 : W2.cell? ⟨W.heap.size, 0, none⟩ = some (.pointer none) := by rw [hW2]; simp [go_sem]
  have k1 : W2.cell? ⟨W.heap.size + 1, 0, none⟩ = some (.int .i64 i) := by rw [hW2]; simp [go_sem]
  have hw := hW2.symm
  have HB := Lib.hid b2
  clear b2 hW2
  go_enter Try.func16, Try.ntmps16
  go_wp2_with fail
  refine (asked_bad (.pointer none) i 32 #[.pointer (some ⟨W.heap.size, 0, none⟩), .pointer (some ⟨W.heap.size + 1, 0, none⟩)] W2 1 (fun W' _ => at_nil i W')).mono ?_
  rintro e w3 ⟨rfl, hb⟩
  have HX := Lib.hid (HB.out.trans (hb.mono HB.out.size))
  clear hb
  simp only []
  go_wp2_with fail
  refine ⟨rfl, _, ?_, rfl, HX.out⟩
  simp [results, Try.results16, go_sem]

set_option maxRecDepth 100000 in
theorem zero_twice {W : World} {nb : Nat} (h : Zero W nb) (i : Int) :
    Calls Try.prog 17 #[.pointer (some ⟨nb, 0, none⟩), .int .i64 i] W fun e w' => e = .returned (.int .i64 1) ∧ Below W.heap.size W w' := by
  have hmf : ∀ (fn : Fn) (first cap : Array Value) (w : World), (Instr.makeFunc fn first cap).run Try.prog w = .ok (.func fn first cap) w := fun _ _ _ _ => rfl
  obtain ⟨W2, hW2⟩ : ∃ W2, W2 = W.alloc (.cells #[.pointer (some ⟨nb, 0, none⟩)] 24) := ⟨_, rfl⟩
  have b2 : Below W.heap.size W W2 := by rw [hW2]; exact (Below.refl _ _).alloc (Nat.le_refl _) _
  have k0 : W2.cell? ⟨W.heap.size, 0, none⟩ = some (.pointer (some ⟨nb, 0, none⟩)) := by rw [hW2]; simp [go_sem]
  have hw := hW2.symm
  have HB := Lib.hid b2
  have HZ := Lib.hid (h.below b2)
  clear b2 hW2 h
  go_enter Try.func17, Try.ntmps17
  go_wp2_with fail
  refine (asked_bad (.pointer (some ⟨nb, 0, none⟩)) i 33 #[.pointer (some ⟨W.heap.size, 0, none⟩)] W2 1 (fun W' hb => at_zero i nb W' (HZ.out.below hb).c0)).mono ?_
  rintro e w3 ⟨rfl, hb⟩
  have HX := Lib.hid (HB.out.trans (hb.mono HB.out.size))
  clear hb
  simp only []
  go_wp2_with fail
  refine ⟨rfl, _, ?_, rfl, HX.out⟩
  simp [results, Try.results17, go_sem]

set_option maxRecDepth 100000 in
theorem zero_send {w : World} {nb : Nat} (h : Zero w nb) (a b : Int) (d : ByteArray) :
    Calls Try.prog 10 #[.pointer (some ⟨nb, 0, none⟩), .int .i64 a, .int .i64 b, .string d] w fun e w' => e = .returned (.int .i64 1) ∧ w = w' := by
  have h0 := h.c0
  clear h
  by_cases ha : 0 ≤ a
  · have t1 : decide (0 ≤ a) = true := by simpa using ha
    have t2 : decide (a < 0) = false := by simp; omega
    have t2n : ¬ a < 0 := by omega
    go_enter Try.func10, Try.ntmps10
    go_wp2
    go_ret
    exact ⟨rfl, rfl⟩
  · have t1 : decide (0 ≤ a) = false := by simpa using ha
    go_enter Try.func10, Try.ntmps10
    go_wp2
    go_ret
    exact ⟨rfl, rfl⟩

theorem zero_len {w : World} {nb : Nat} (h : Zero w nb) : Calls Try.prog 12 #[.pointer (some ⟨nb, 0, none⟩)] w fun e w' => e = .returned (.int .i64 0) ∧ w = w' := by
  have h0 := h.c1
  go_enter Try.func12, Try.ntmps12
  go_wp2
  go_ret
  exact ⟨rfl, rfl⟩
theorem zero_lost {w : World} {nb : Nat} (h : Zero w nb) : Calls Try.prog 13 #[.pointer (some ⟨nb, 0, none⟩)] w fun e w' => e = .returned (.int .i64 0) ∧ w = w' := by
  have h0 := h.c3
  go_enter Try.func13, Try.ntmps13
  go_wp2
  go_ret
  exact ⟨rfl, rfl⟩
theorem zero_iscut {w : World} {nb : Nat} (h : Zero w nb) (a b : Int) (ha : (Lit.int .i64 a).wf = true) (hb : (Lit.int .i64 b).wf = true) : Calls Try.prog 15 #[.pointer (some ⟨nb, 0, none⟩), .int .i64 a, .int .i64 b] w fun e w' => e = .returned (.bool false) ∧ Below w.heap.size w w' := by
  have h2 := h.c2
  have hl := fun (w : World) => Maps.look_nil (w := w) true law60 Try.underlying49 (zero59 w) (keyOf_way ha hb)
  clear h ha hb
  go_enter Try.func15, Try.ntmps15
  go_wp2
  go_ret
  exact ⟨rfl, (Below.refl _ _).alloc (Nat.le_refl _) _⟩
end Go.Proofs.Ytanekdcmealoeaa
