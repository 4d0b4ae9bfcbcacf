/-
  Lease: what is left where all that is over is taken away.
-/
import Derived.Test.YtmdhegmnfcodbaaLsH
namespace Go.Proofs.Ytmdhegmnfcodbaa
open Go.RowKit
variable {w w' w0 w1 w2 w3 : World} {mb lb B : Nat} {ob : Option Nat} {m : Lm} {last : Int}

/-- The leases that are not over. -/
def live (now : Int) (m : Lm) : Lm := m.filter (fun p => decide (now < p.2.till))
theorem getL_mem {k : Int} {x : Lv} (hn : (m.map (·.1)).Nodup) (h : (k, x) ∈ m) : getL m k = some x := by
  obtain ⟨y, h1, h2⟩ := getL_some (List.mem_map.2 ⟨(k, x), h, rfl⟩)
  obtain ⟨i, hi⟩ := List.getElem?_of_mem h
  obtain ⟨j, hj⟩ := List.getElem?_of_mem h2
  have e := at_one hn (i := i) (j := j) (a := k) (by rw [List.getElem?_map, hi]; rfl) (by rw [List.getElem?_map, hj]; rfl)
  subst e
  rw [hi] at hj
  injection hj with hj
  injection hj with _ hj
  rw [h1, hj]
theorem getL_in {k : Int} {x : Lv} (h : getL m k = some x) : (k, x) ∈ m := by
  unfold getL at h
  obtain ⟨p, hp, rfl⟩ := Option.map_eq_some_iff.1 h
  have h1 := List.find?_some hp
  have h2 := List.mem_of_find?_eq_some hp
  obtain rfl : p.1 = k := by simpa using h1
  exact h2
theorem sortM_mem (hn : (m.map (·.1)).Nodup) {x : Lv} : x ∈ sortM m ↔ ∃ p ∈ m, p.2 = x := by
  unfold sortM
  rw [List.mem_filterMap]
  constructor
  · rintro ⟨k, _, hk⟩
    exact ⟨(k, x), getL_in hk, rfl⟩
  · rintro ⟨p, hp, rfl⟩
    exact ⟨p.1, sortZ_mem.2 (List.mem_map.2 ⟨p, hp, rfl⟩), getL_mem hn hp⟩
theorem expF_eq (now : Int) (l : List (Int × List Int × Int)) (m : Lm) : expF now l m = m.filter (fun p => !l.any (fun c => decide (c.2.2 ≤ now) && decide (c.1 = p.1))) := by
  induction l generalizing m with
  | nil => exact (List.filter_eq_self.2 (fun _ _ => rfl)).symm
  | cons c l ih =>
    show expF now l _ = _
    rw [ih]
    by_cases h : c.2.2 ≤ now
    · rw [if_pos h]
      unfold delL
      rw [List.filter_filter]
      refine List.filter_congr (fun p _ => ?_)
      rw [List.any_cons, decide_eq_true h, Bool.true_and, Bool.not_or, Bool.and_comm]
      congr 1
      by_cases hp : p.1 = c.1
      · simp [hp]
      · simp [hp, Ne.symm hp]
    · rw [if_neg h]
      refine List.filter_congr (fun p _ => ?_)
      rw [List.any_cons, decide_eq_false h, Bool.false_and, Bool.false_or]
theorem exp_live (h : LOk m last) (hn : (m.map (·.1)).Nodup) (now : Int) : expF now ((sortM m).map core) m = live now m := by
  rw [expF_eq]
  unfold live
  refine List.filter_congr (fun p hp => ?_)
  by_cases hl : now < p.2.till
  · rw [decide_eq_true hl, Bool.not_eq_true', List.any_eq_false]
    intro c hc
    obtain ⟨x, hx, rfl⟩ := List.mem_map.1 hc
    obtain ⟨q, hq, rfl⟩ := (sortM_mem hn).1 hx
    intro h5
    rw [Bool.and_eq_true] at h5
    have h8 : q.2.till ≤ now := of_decide_eq_true h5.1
    have h9 : q.2.id = p.1 := of_decide_eq_true h5.2
    have h6 := getL_mem hn hp
    have h7 := getL_mem (k := q.1) (x := q.2) hn hq
    rw [← h.id q hq, h9, h6] at h7
    injection h7 with h7
    rw [← h7] at h8
    omega
  · rw [decide_eq_false hl, Bool.not_eq_false', List.any_eq_true]
    refine ⟨core p.2, List.mem_map.2 ⟨p.2, (sortM_mem hn).2 ⟨p, hp, rfl⟩, rfl⟩, ?_⟩
    rw [Bool.and_eq_true]
    exact ⟨decide_eq_true (show p.2.till ≤ now by omega), decide_eq_true (h.id p hp)⟩
theorem LsAt.nodup (h : LsAt w lb ob m last) : (m.map (·.1)).Nodup := by
  have := h.mp
  cases ob with
  | none => rw [show m = [] from this]; simp
  | some b => exact MapL.nodup this keyZ
end Go.Proofs.Ytmdhegmnfcodbaa
