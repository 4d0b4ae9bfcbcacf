/-
  SkipHeights: the plain law.
-/
import Derived.Test.YtnhieingcmnfaaaFoundP
namespace Go.Proofs.Ytnhieingcmnfaaa
open Go.RowKit

/-- Two rows in order that have the same keys are the same. -/
theorem sorted_ext : ∀ (A B : List ByteArray), A.Pairwise (fun a b => kcmp a b < 0) → B.Pairwise (fun a b => kcmp a b < 0) → (∀ x, x ∈ A ↔ x ∈ B) → A = B
  | [], [], _, _, _ => rfl
  | [], b :: B, _, _, h => absurd ((h b).2 (List.mem_cons_self)) (by simp)
  | a :: A, [], _, _, h => absurd ((h a).1 (List.mem_cons_self)) (by simp)
  | a :: A, b :: B, hA, hB, h => by
    rw [List.pairwise_cons] at hA hB
    have irr : ∀ x : ByteArray, ¬ kcmp x x < 0 := fun x => by rw [kcmp_self]; omega
    have e : a = b := by
      rcases List.mem_cons.1 ((h a).1 (List.mem_cons_self)) with e | h1
      · exact e
      · rcases List.mem_cons.1 ((h b).2 (List.mem_cons_self)) with e | h2
        · exact e.symm
        · exact absurd (kcmp_trans (hA.1 b h2) (hB.1 a h1)) (irr a)
    subst e
    congr 1
    refine sorted_ext A B hA.2 hB.2 (fun x => ⟨fun hx => ?_, fun hx => ?_⟩)
    · rcases List.mem_cons.1 ((h x).1 (List.mem_cons_of_mem _ hx)) with e | h1
      · subst e; exact absurd (hA.1 x hx) (irr x)
      · exact h1
    · rcases List.mem_cons.1 ((h x).2 (List.mem_cons_of_mem _ hx)) with e | h1
      · subst e; exact absurd (hB.1 x hx) (irr x)
      · exact h1

/-- What is so behind i Puts of the keys f. -/
def KsI (f : Nat → ByteArray) (i : Nat) (E : List Nd) : Prop := E.length ≤ i ∧ (∀ n ∈ E, n.v = n.k ∧ ∃ j, j < i ∧ n.k = f j) ∧ ∀ j, j < i → (f j).size ≤ 65536 → ∃ n ∈ E, n.k = f j
theorem KsI.zero (f : Nat → ByteArray) : KsI f 0 [] := ⟨by simp, by simp, by omega⟩
theorem KsI.step {f : Nat → ByteArray} {i : Nat} {E : List Nd} (h : KsI f i E) {T : ByteArray} (hT : f i = T) (hh : Int) : KsI f (i + 1) (putL E false T T hh) := by
  obtain ⟨h1, h2, h3⟩ := h
  refine ⟨by have := putL_len E false T T hh; omega, fun n hn => ?_, fun j hj hs => ?_⟩
  · rcases putL_from hn with h | rfl
    · obtain ⟨a, j, b, c⟩ := h2 n h
      exact ⟨a, j, by omega, c⟩
    · exact ⟨rfl, i, by omega, hT.symm⟩
  · by_cases e : j = i
    · subst e
      rw [hT] at hs ⊢
      exact putL_has hs hs
    · obtain ⟨n, hn, hk⟩ := h3 j (by omega) hs
      exact ⟨n, putL_sub hn, hk⟩
theorem ks_same {f g : Nat → ByteArray} {i : Nat} {Ea Eb : List Nd} (ha : KsI f i Ea) (hb : KsI g i Eb) (sa : Sorted Ea) (sb : Sorted Eb) (h1 : ∀ j, j < i → (f j).size ≤ 65536) (hfg : ∀ j, j < i → ∃ j', j' < i ∧ f j = g j') (hgf : ∀ j, j < i → ∃ j', j' < i ∧ g j = f j') : Ea.map kvOf = Eb.map kvOf := by
  have e : Ea.map (·.k) = Eb.map (·.k) := by
    refine sorted_ext _ _ (List.pairwise_map.2 sa) (List.pairwise_map.2 sb) (fun x => ⟨fun hx => ?_, fun hx => ?_⟩)
    · obtain ⟨n, hn, rfl⟩ := List.mem_map.1 hx
      obtain ⟨_, j, hj, hk⟩ := ha.2.1 n hn
      obtain ⟨j', hj', e⟩ := hfg j hj
      obtain ⟨m, hm, hmk⟩ := hb.2.2 j' hj' (by rw [← e]; exact h1 j hj)
      exact List.mem_map.2 ⟨m, hm, by rw [hmk, ← e, hk]⟩
    · obtain ⟨n, hn, rfl⟩ := List.mem_map.1 hx
      obtain ⟨_, j, hj, hk⟩ := hb.2.1 n hn
      obtain ⟨j', hj', e⟩ := hgf j hj
      obtain ⟨m, hm, hmk⟩ := ha.2.2 j' hj' (h1 j' hj')
      exact List.mem_map.2 ⟨m, hm, by rw [hmk, ← e, hk]⟩
  have e1 : ∀ (E : List Nd), (∀ n ∈ E, n.v = n.k) → E.map kvOf = (E.map (·.k)).map (fun k => (k, k)) := by
    intro E hE
    rw [List.map_map]
    refine List.map_congr_left (fun n hn => ?_)
    simp [kvOf, hE n hn]
  rw [e1 Ea (fun n hn => (ha.2.1 n hn).1), e1 Eb (fun n hn => (hb.2.1 n hn).1), e]
theorem bytes_kv (E : List Nd) : bytesOf E = ((E.map kvOf).map fun p => p.1.size + p.2.size).sum := by
  unfold bytesOf
  rw [List.map_map]
  rfl

theorem posUp_anti (E : List Nd) {h h' : Nat} (hh : h ≤ h') (m : Nat) : posUp E h' m ≤ posUp E h m :=
  posUp_ge ((posUp_lane E h' m).1.mono hh) (posUp_lane E h' m).2
theorem laneN_take_diff (E : List Nd) {p p' : Nat} (hp : p' ≤ p) (h : Nat) : (laneN (E.take p) h : Int) - laneN (E.take p') h ≤ (p : Int) - p' := by
  have e : E.take p = E.take p' ++ (E.drop p').take (p - p') := by
    rw [← List.take_add]
    congr 1
    omega
  unfold laneN
  rw [e, List.countP_append]
  have h1 : ((E.drop p').take (p - p')).countP (fun n => decide (h < n.h)) ≤ p - p' := Nat.le_trans List.countP_le_length (by rw [List.length_take]; omega)
  omega
theorem stepsFrom_le (E : List Nd) (f : Nat → Nat) (hf : ∀ j, j < 11 → f (j + 1) ≤ f j) : ∀ d, d < 12 → stepsFrom E f (d + 1) ≤ (f (11 - d) : Int)
  | 0, _ => by
    show (0 : Int) + _ ≤ _
    have h1 := laneN_take_diff E (Nat.zero_le (f 11)) 11
    have e : lead f 11 = 0 := rfl
    show (0 : Int) + ((laneN (E.take (f 11)) 11 : Int) - (laneN (E.take (lead f 11)) 11 : Int)) ≤ (f 11 : Int)
    rw [e]
    omega
  | d + 1, hd => by
    have ih := stepsFrom_le E f hf d (by omega)
    have hm := hf (11 - (d + 1)) (by omega)
    rw [show 11 - (d + 1) + 1 = 11 - d by omega] at hm
    have h1 := laneN_take_diff E hm (11 - (d + 1))
    have e : lead f (11 - (d + 1)) = f (11 - d) := by
      unfold lead
      rw [if_neg (by omega), show 11 - (d + 1) + 1 = 11 - d by omega]
    rw [stepsFrom, e]
    omega
theorem steps_le (E : List Nd) (k : ByteArray) : stepsOf E k ≤ below E k := by
  have h1 := stepsFrom_le E (posOf E k) (fun j _ => posUp_anti E (Nat.le_succ j) _) 11 (by omega)
  have h2 := (posUp_lane E 0 (below E k)).2
  have e : posOf E k (11 - 11) = posUp E 0 (below E k) := rfl
  have h3 : stepsFrom E (posOf E k) 12 ≤ ((posUp E 0 (below E k) : Nat) : Int) := by rw [← e]; exact h1
  unfold stepsOf
  omega
theorem stepsFrom_flat {E : List Nd} (hE : ∀ n ∈ E, n.h = 1) (f : Nat → Nat) : ∀ d, d ≤ 11 → stepsFrom E f d = 0
  | 0, _ => rfl
  | d + 1, hd => by
    have hz : ∀ p, laneN (E.take p) (11 - d) = 0 := by
      intro p
      unfold laneN
      rw [List.countP_eq_zero]
      intro n hn
      have := hE n (List.mem_of_mem_take hn)
      simp
      omega
    rw [stepsFrom, stepsFrom_flat hE f d (by omega), hz, hz]
    rfl
theorem posUp_full {E : List Nd} (hE : ∀ n ∈ E, 1 ≤ n.h) : ∀ m, m ≤ E.length → posUp E 0 m = m
  | 0, _ => rfl
  | m + 1, hm => by
    unfold posUp
    rw [List.getElem?_eq_getElem (show m < E.length by omega)]
    have := hE _ (List.getElem_mem (show m < E.length by omega))
    simp only []
    rw [if_pos (by simp; omega)]
theorem steps_flat {E : List Nd} (hE : ∀ n ∈ E, n.h = 1) (k : ByteArray) : stepsOf E k = below E k := by
  have hle := below_le E k
  unfold stepsOf
  rw [stepsFrom, stepsFrom_flat hE _ 11 (by omega)]
  have e0 : posOf E k (11 - 11) = below E k := posUp_full (fun n hn => by rw [hE n hn]; omega) _ hle
  have e1 : lead (posOf E k) (11 - 11) = 0 := by
    show posUp E 1 (below E k) = 0
    rcases (posUp_lane E 1 (below E k)).1 with h | ⟨n, hn, _, hh⟩
    · exact h
    · have := hE n (List.mem_of_getElem? hn)
      omega
  rw [e0, e1]
  have e2 : laneN (E.take (below E k)) (11 - 11) = below E k := by
    unfold laneN
    have h2 : (E.take (below E k)).countP (fun n => decide (11 - 11 < n.h)) = (E.take (below E k)).length := by
      rw [List.countP_eq_length]
      intro n hn
      have := hE n (List.mem_of_mem_take hn)
      simp
      omega
    rw [h2, List.length_take]
    omega
  rw [e2]
  simp [laneN]
theorem flat_put {E : List Nd} (hE : ∀ n ∈ E, n.h = 1) (fr : Bool) (k v : ByteArray) : ∀ n ∈ putL E fr k v 1, n.h = 1 := by
  intro n hn
  rcases putL_from hn with h | rfl
  · exact hE n h
  · rfl

/-- A row of pairs that is read at a. -/
def KvAt (w : World) (a : Option Addr) (l : List (ByteArray × ByteArray)) : Prop := l.length = 0 ∨ ∃ g, a = some ⟨g, 0, none⟩ ∧ g < w.heap.size ∧ ∀ j (hj : j < l.length), w.cell? ⟨g, j * 2, none⟩ = some (.string l[j].1) ∧ w.cell? ⟨g, j * 2 + 1, none⟩ = some (.string l[j].2)
theorem KvAt.below {w w' : World} {a : Option Addr} {l : List (ByteArray × ByteArray)} (h : KvAt w a l) (hb : Below w.heap.size w w') : KvAt w' a l := by
  rcases h with h | ⟨g, h1, h2, h3⟩
  · exact Or.inl h
  · exact Or.inr ⟨g, h1, Nat.lt_of_lt_of_le h2 hb.size, fun j hj => ⟨(hb.cell (p := ⟨g, j * 2, none⟩) h2).trans (h3 j hj).1, (hb.cell (p := ⟨g, j * 2 + 1, none⟩) h2).trans (h3 j hj).2⟩⟩
theorem row_kvAt {w : World} {base : Nat} {v : Value} {l : List (ByteArray × ByteArray)} (h : OwnKv w base v l) : ∃ a cap, v = .slice a l.length cap ∧ KvAt w a l := by
  obtain ⟨a, cap, h1, h2⟩ := row_kv h
  refine ⟨a, cap, h1, h2.imp id (fun ⟨g, e, _, h3, h4⟩ => ⟨g, e, h3, fun j hj => ?_⟩)⟩
  have := h4 j hj
  rw [Nat.mul_comm 2 j] at this
  exact this
end Go.Proofs.Ytnhieingcmnfaaa
