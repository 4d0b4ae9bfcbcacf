/-
  Plain: the document's Lanes and Steps.
-/
import Derived.Test.YtmodgjjlgobjcaaGreatTwo
namespace Go.Proofs.YtmodgjjlgobjcaaGreat
open Go.RowKit

theorem pos_end {L : List Nd} {k : ByteArray} {h p : Nat} (hp : inLane L h p) (hb : p ≤ below L k) (hno : ∀ j n', p ≤ j → L[j]? = some n' → n'.h ≤ h) : IsPos L k h p := by
  refine ⟨hp, hb, fun j h1 h2 hj => ?_⟩
  rcases hj with rfl | ⟨n, hn, h3, h4⟩
  · omega
  · have := hno (j - 1) n (by omega) hn
    omega
theorem posOf_isPos (L : List Nd) (k : ByteArray) (h : Nat) : IsPos L k h (posOf L k h) := by
  have b := posUp_lane L h (below L k)
  exact ⟨b.1, b.2, fun j h1 h2 hj => by have := posUp_ge hj h2; unfold posOf at h1; omega⟩
theorem top_zero {E : List Nd} {k : ByteArray} {h : Nat} (h0 : laneN E h = 0) : posOf E k h = 0 := by
  rcases (posOf_isPos E k h).1 with h1 | ⟨n, hn, h1, h2⟩
  · exact h1
  · exfalso
    unfold laneN at h0
    have := List.countP_eq_zero.1 h0 n (List.mem_of_getElem? hn)
    simp at this
    omega
theorem laneN_take0 (E : List Nd) (h : Nat) : laneN (E.take 0) h = 0 := by simp [laneN]
theorem steps_top {E : List Nd} {k : ByteArray} {c : Nat} (hz : ∀ h, c ≤ h → h < 12 → laneN E h = 0) : ∀ d, d ≤ 12 - c → stepsFrom E (posOf E k) d = 0
  | 0, _ => rfl
  | d + 1, hd => by
    unfold stepsFrom
    rw [steps_top hz d (by omega), top_zero (hz (11 - d) (by omega) (by omega))]
    have e : lead (posOf E k) (11 - d) = 0 := by
      unfold lead
      split
      · rfl
      · exact top_zero (hz _ (by omega) (by omega))
    rw [e, laneN_take0]
    rfl
/-- The lanes that there are: how many; above them none. -/
theorem lanes_c (E : List Nd) : ∃ c, c ≤ 12 ∧ (lanesOf E).length = c ∧ lanesOf E = (List.range c).map (laneN E) ∧ (∀ j, j < c → laneN E j ≠ 0) ∧ ∀ h, c ≤ h → h < 12 → laneN E h = 0 := by
  obtain ⟨c, h1, h2, h3, h4⟩ := lanes_form E
  refine ⟨c, h1, by rw [h2]; simp, h2, h3, fun h ha hb => ?_⟩
  have := laneN_mono E ha
  have := h4 (by omega)
  omega
theorem steps_next (E : List Nd) (k : ByteArray) {h : Nat} (hh : h < 12) : stepsFrom E (posOf E k) (12 - h) = stepsFrom E (posOf E k) (11 - h) + ((laneN (E.take (posOf E k h)) h : Int) - (laneN (E.take (lead (posOf E k) h)) h : Int)) := by
  have e1 : 12 - h = (11 - h) + 1 := by omega
  have e2 : 11 - (11 - h) = h := by omega
  rw [e1, stepsFrom, e2]
/-- Where the lane h + 1 was left. -/
def leadP (E : List Nd) (k : ByteArray) (h : Nat) : Nat := if h = 12 then 0 else posOf E k h
theorem leadP_lane (E : List Nd) (k : ByteArray) {h : Nat} : inLane E h (leadP E k (h + 1)) ∧ leadP E k (h + 1) ≤ below E k := by
  unfold leadP
  split
  · exact ⟨Or.inl rfl, Nat.zero_le _⟩
  · have b := posOf_isPos E k (h + 1)
    exact ⟨b.1.mono (by omega), b.2.1⟩
theorem leadP_lead (E : List Nd) (k : ByteArray) (h : Nat) : lead (posOf E k) h = leadP E k (h + 1) := by
  unfold lead leadP
  by_cases e : h = 11
  · subst e; rfl
  · rw [if_neg e, if_neg (by omega)]
end Go.Proofs.YtmodgjjlgobjcaaGreat
