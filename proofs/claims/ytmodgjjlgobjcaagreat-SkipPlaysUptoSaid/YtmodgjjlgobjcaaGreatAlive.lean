/-
  alive answers true.
-/
import Derived.Test.YtmodgjjlgobjcaaGreatAbs
namespace Go.Proofs.YtmodgjjlgobjcaaGreat
open Go.RowKit

def al1 : List Nd := putL [] false ⟨#[98]⟩ ⟨#[50]⟩ 3
def al2 : List Nd := putL al1 false ⟨#[97]⟩ ⟨#[49]⟩ 0
theorem al_e1 : putE [] false ⟨#[98]⟩ ⟨#[50]⟩ = 0 := by decide
theorem al_e2 : putE al1 false ⟨#[97]⟩ ⟨#[49]⟩ = 0 := by decide
theorem al_e3 : putE al2 false ⟨#[97]⟩ ⟨#[120]⟩ = 23 := by decide
theorem al_l1 : al1.length = 1 := by decide
theorem al_l2 : al2.length = 2 := by decide
theorem al_3 : putL al2 false ⟨#[97]⟩ ⟨#[120]⟩ 1 = al2 := by unfold putL; rw [al_e3]; rfl
theorem al_g : getOf al2 ⟨#[97]⟩ = (⟨#[49]⟩, 0) := by rfl
theorem al_s : stepsOf al2 ⟨#[99]⟩ = 1 := by decide
theorem al_n : lanesOf al2 = [2, 1, 1] := by decide

set_option maxRecDepth 100000 in
theorem alive_any (w : World) : Calls Tryz.prog 4 #[] w fun e w' => e = .returned (.bool true) ∧ Below w.heap.size w w' := by
  go_enter Tryz.func4, Tryz.ntmps4
  go_wp2_with fail
  refine (new_s w).mono ?_
  rintro _ w0 ⟨F0, sb, rfl, hs0, hF0, hb0⟩
  simp only []
  go_wp2_with fail
  refine (put_s hs0 ⟨#[98]⟩ ⟨#[50]⟩ 3 (by simp)).mono ?_
  rintro _ w1 ⟨rfl, F1, hs1, ht1, hF1⟩
  have hb1 : Below w.heap.size w w1 := hb0.trans (ht1.below hb0.size hF0)
  have hG1 : ∀ q, F1 q → w.heap.size ≤ q := fun q h => (hF1 q h).elim (hF0 q) (fun h => by have := hb0.size; omega)
  simp only [al_e1]
  go_wp2_with fail
  refine (put_s (E := al1) hs1 ⟨#[97]⟩ ⟨#[49]⟩ 0 (by rw [al_l1]; omega)).mono ?_
  rintro _ w2 ⟨rfl, F2, hs2, ht2, hF2⟩
  have hb2 : Below w.heap.size w w2 := hb1.trans (ht2.below hb1.size hG1)
  have hG2 : ∀ q, F2 q → w.heap.size ≤ q := fun q h => (hF2 q h).elim (hG1 q) (fun h => by have := hb1.size; omega)
  simp only [al_e2]
  go_wp2_with fail
  refine (put_s (E := al2) hs2 ⟨#[97]⟩ ⟨#[120]⟩ 1 (by rw [al_l2]; omega)).mono ?_
  rintro _ w3 ⟨rfl, F3, hs3, ht3, hF3⟩
  rw [al_3] at hs3
  have hb3 : Below w.heap.size w w3 := hb2.trans (ht3.below hb2.size hG2)
  simp only [al_e3]
  go_wp2_with fail
  refine (get_s hs3 ⟨#[97]⟩).mono ?_
  rintro _ w4 ⟨rfl, hb4⟩
  have hs4 := hs3.below hb4
  have hB4 : Below w.heap.size w w4 := hb3.trans (hb4.mono hb3.size)
  simp only [al_g]
  have HS := Lib.hid (And.intro hs4 hB4)
  clear hs0 hF0 hb0 hs1 ht1 hF1 hb1 hG1 hs2 ht2 hF2 hb2 hG2 hs3 ht3 hF3 hb3 hb4 hs4 hB4
  go_wp2_with fail
  refine (count_s HS.out.1).mono ?_
  rintro _ _ ⟨rfl, rfl⟩
  simp only [al_l2]
  go_wp2_with fail
  refine (steps_s HS.out.1 ⟨#[99]⟩).mono ?_
  rintro _ _ ⟨rfl, rfl⟩
  simp only [al_s]
  go_wp2_with fail
  refine (lanes_s HS.out.1).mono ?_
  rintro _ w5 ⟨v, rfl, hr, hb5⟩
  rw [al_n] at hr
  obtain ⟨a, n, cap, rfl⟩ := row_form0 hr
  have hB5 : Below w.heap.size w w5 := HS.out.2.trans (hb5.mono HS.out.2.size)
  obtain rfl : n = 3 := by
    obtain ⟨_, h2⟩ := hr
    rcases h2 with ⟨h2, h3⟩ | ⟨g, cap2, cur, h2, _⟩
    · simp at h3
    · cases h2; rfl
  have HB := Lib.hid hB5
  clear hr hb5 hB5
  go_wp2
  go_ret
  exact ⟨rfl, HB.out⟩
end Go.Proofs.YtmodgjjlgobjcaaGreat
