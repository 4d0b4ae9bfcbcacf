/-
  Two lists that stand apart; rows of numbers and of pairs, read; heights more by one.
-/
import Derived.Test.YtmodgjjlgobjcaaGreatPlain
namespace Go.Proofs.YtmodgjjlgobjcaaGreat
open Go.RowKit

/-- Two lists in blocks of their own. -/
def Two (B : Nat) (w : World) (sa : Nat) (Ea : List Nd) (sb : Nat) (Eb : List Nd) : Prop :=
  ∃ Fa Fb : Nat → Prop, SAt w Fa sa Ea false ∧ SAt w Fb sb Eb false ∧ (∀ q, Fa q → ¬ Fb q) ∧ (∀ q, Fa q → B ≤ q) ∧ ∀ q, Fb q → B ≤ q

theorem Two.swap {B : Nat} {w : World} {sa sb : Nat} {Ea Eb : List Nd} (h : Two B w sa Ea sb Eb) : Two B w sb Eb sa Ea := by
  obtain ⟨Fa, Fb, h1, h2, h3, h4, h5⟩ := h
  exact ⟨Fb, Fa, h2, h1, fun q hb ha => h3 q ha hb, h5, h4⟩
theorem Two.below {B : Nat} {w w' : World} {sa sb : Nat} {Ea Eb : List Nd} (h : Two B w sa Ea sb Eb) (hb : Below w.heap.size w w') : Two B w' sa Ea sb Eb := by
  obtain ⟨Fa, Fb, h1, h2, h3⟩ := h
  exact ⟨Fa, Fb, h1.below hb, h2.below hb, h3⟩
theorem Two.a {B : Nat} {w : World} {sa sb : Nat} {Ea Eb : List Nd} (h : Two B w sa Ea sb Eb) : NAt B w sa Ea false := by
  obtain ⟨Fa, Fb, h1, _, _, h4, _⟩ := h
  exact ⟨Fa, h1, h4⟩
theorem Two.b {B : Nat} {w : World} {sa sb : Nat} {Ea Eb : List Nd} (h : Two B w sa Ea sb Eb) : NAt B w sb Eb false := h.swap.a
theorem two_new (w : World) (B : Nat) {sa : Nat} (hB : B ≤ w.heap.size) (h : NAt B w sa [] false) : Calls Tryz.prog 5 #[] w fun e w' => ∃ sb, e = .returned (.pointer (some ⟨sb, 0, none⟩)) ∧ Two B w' sa [] sb [] ∧ Below w.heap.size w w' := by
  obtain ⟨Fa, ha, hFa⟩ := h
  refine (new_s w).mono ?_
  rintro e w' ⟨F, sb, he, hs, hF, hb⟩
  exact ⟨sb, he, ⟨Fa, F, ha.below hb, hs, fun q h1 h2 => by have := ha.lt q h1; have := hF q h2; omega, hFa, fun q h => by have := hF q h; omega⟩, hb⟩
theorem two_put {B : Nat} {w : World} {sa sb : Nat} {Ea Eb : List Nd} (h : Two B w sa Ea sb Eb) (hB : B ≤ w.heap.size) (k v : ByteArray) (hh : Int) (hlen : Ea.length < 100000) :
    Calls Tryz.prog 6 #[.pointer (some ⟨sa, 0, none⟩), .string k, .string v, .int .i64 hh] w fun e w' =>
      e = .returned (.int .i64 (putE Ea false k v)) ∧ Two B w' sa (putL Ea false k v hh) sb Eb ∧ Below B w w' := by
  obtain ⟨Fa, Fb, h1, h2, h3, h4, h5⟩ := h
  refine (put_s h1 k v hh hlen).mono ?_
  rintro e w' ⟨he, F', hs', ht, hF'⟩
  refine ⟨he, ⟨F', Fb, hs', h2.turn ht (fun q hb ha => h3 q ha hb), fun q hq hb => ?_, fun q hq => (hF' q hq).elim (h4 q) (fun h => by omega), h5⟩, ht.below hB h4⟩
  rcases hF' q hq with h | h
  · exact h3 q h hb
  · have := h2.lt q hb; omega

/-- A row of numbers, read. -/
theorem row_ints {w : World} {base : Nat} {v : Value} {xs : List Nat} (h : w.ownsRow base 3 1 v xs.length (iCells xs)) :
    ∃ a cap, v = .slice a xs.length cap ∧ (xs.length = 0 ∨ ∃ g, a = some ⟨g, 0, none⟩ ∧ base ≤ g ∧ g < w.heap.size ∧ ∀ j (hj : j < xs.length), w.cell? ⟨g, j, none⟩ = some (.int .i64 (xs[j] : Int))) := by
  obtain ⟨_, h2⟩ := h
  rcases h2 with ⟨rfl, h0⟩ | ⟨g, cap, cur, rfl, hg, hb, _, _, hsz, htk⟩
  · exact ⟨none, 0, by rw [h0], Or.inl h0⟩
  · refine ⟨_, cap, rfl, Or.inr ⟨g, rfl, hg, (Array.getElem?_eq_some_iff.1 hb).1, fun j hj => ?_⟩⟩
    rw [cell_of_row w g j cur _ _ hb]
    have h1 : (cur.toList.take (xs.length * 1))[j]? = some (.int .i64 (xs[j] : Int)) := by
      rw [htk]
      simp [iCells, hj]
    rw [List.getElem?_take, if_pos (by omega)] at h1
    simpa using h1
/-- A row of pairs, read. -/
theorem kvCells_get : ∀ (l : List (ByteArray × ByteArray)) (j : Nat) (hj : j < l.length), (kvCells l)[2 * j]? = some (.string l[j].1) ∧ (kvCells l)[2 * j + 1]? = some (.string l[j].2)
  | [], j, hj => by simp at hj
  | p :: l, 0, _ => by simp [kvCells, kvCell]
  | p :: l, j + 1, hj => by
    have h := kvCells_get l j (by simpa using hj)
    have e : kvCells (p :: l) = .string p.1 :: .string p.2 :: kvCells l := by simp [kvCells, kvCell]
    rw [e, show 2 * (j + 1) = 2 * j + 1 + 1 by omega]
    simpa using h
theorem row_kv {w : World} {base : Nat} {v : Value} {l : List (ByteArray × ByteArray)} (h : OwnKv w base v l) :
    ∃ a cap, v = .slice a l.length cap ∧ (l.length = 0 ∨ ∃ g, a = some ⟨g, 0, none⟩ ∧ base ≤ g ∧ g < w.heap.size ∧ ∀ j (hj : j < l.length), w.cell? ⟨g, 2 * j, none⟩ = some (.string l[j].1) ∧ w.cell? ⟨g, 2 * j + 1, none⟩ = some (.string l[j].2)) := by
  obtain ⟨_, h2⟩ := h
  rcases h2 with ⟨rfl, h0⟩ | ⟨g, cap, cur, rfl, hg, hb, _, _, hsz, htk⟩
  · exact ⟨none, 0, by rw [h0], Or.inl h0⟩
  · refine ⟨_, cap, rfl, Or.inr ⟨g, rfl, hg, (Array.getElem?_eq_some_iff.1 hb).1, fun j hj => ?_⟩⟩
    rw [cell_of_row w g _ cur _ _ hb, cell_of_row w g _ cur _ _ hb]
    have h1 := kvCells_get l j hj
    rw [← htk, List.getElem?_take, if_pos (by omega), List.getElem?_take, if_pos (by omega)] at h1
    simpa using h1

/-- A height more. -/
def up (n : Nd) : Nd := { n with h := min (n.h + 1) 12 }
theorem below_up (E : List Nd) (k : ByteArray) : below (E.map up) k = below E k := by
  unfold below
  induction E with
  | nil => rfl
  | cons a L ih =>
    simp only [List.map_cons, List.takeWhile_cons, up]
    split
    · simp [ih]
    · rfl
theorem putE_up (E : List Nd) (fr : Bool) (k v : ByteArray) : putE (E.map up) fr k v = putE E fr k v := by
  unfold putE hasK
  rw [below_up, List.getElem?_map]
  cases E[below E k]? <;> rfl
theorem putL_up (E : List Nd) (k v : ByteArray) {h : Int} (h1 : 1 ≤ h) (h2 : h ≤ 12) : putL (E.map up) false k v (h + 1) = (putL E false k v h).map up := by
  unfold putL
  rw [putE_up, below_up]
  split
  · unfold ins
    rw [List.map_append, List.map_cons, List.map_take, List.map_drop]
    congr 2
    unfold up clampH
    simp only [Nd.mk.injEq, true_and]
    omega
  · rfl
theorem laneN_up {E : List Nd} (ht : ∀ n ∈ E, 1 ≤ n.h ∧ n.h ≤ 12) (j : Nat) : laneN E j ≤ laneN (E.map up) j := by
  unfold laneN
  rw [List.countP_map]
  refine List.countP_mono_left (fun n hn h => ?_)
  have := ht n hn
  have h' : j < n.h := by simpa using h
  have e : (up n).h = min (n.h + 1) 12 := rfl
  show decide (j < (up n).h) = true
  rw [e]
  simp only [decide_eq_true_eq]
  omega
theorem laneN_mono (E : List Nd) {j j' : Nat} (h : j ≤ j') : laneN E j' ≤ laneN E j := by
  unfold laneN
  refine List.countP_mono_left (fun n _ h => ?_)
  simp only [decide_eq_true_eq] at h ⊢
  omega
theorem laneN_all {E : List Nd} (ht : ∀ n ∈ E, 1 ≤ n.h ∧ n.h ≤ 12) : laneN E 0 = E.length := by
  unfold laneN
  rw [List.countP_eq_length]
  intro n hn
  have := ht n hn
  simp
  omega
theorem first_zero (f : Nat → Nat) : ∀ n, ∃ c, c ≤ n ∧ (∀ j, j < c → f j ≠ 0) ∧ (c < n → f c = 0)
  | 0 => ⟨0, Nat.le_refl _, by omega, by omega⟩
  | n + 1 => by
    obtain ⟨c, h1, h2, h3⟩ := first_zero f n
    by_cases e : c < n
    · exact ⟨c, by omega, h2, fun _ => h3 e⟩
    · obtain rfl : c = n := by omega
      by_cases h0 : f c = 0
      · exact ⟨c, by omega, h2, fun _ => h0⟩
      · refine ⟨c + 1, Nat.le_refl _, fun j hj => ?_, by omega⟩
        by_cases e : j = c
        · subst e; exact h0
        · exact h2 j (by omega)
theorem lanes_form (E : List Nd) : ∃ c, c ≤ 12 ∧ lanesOf E = (List.range c).map (laneN E) ∧ (∀ j, j < c → laneN E j ≠ 0) ∧ (c < 12 → laneN E c = 0) := by
  obtain ⟨c, h1, h2, h3⟩ := first_zero (laneN E) 12
  exact ⟨c, h1, takeWhile_range _ 12 c h1 h2 h3, h2, h3⟩
theorem lanes_up {E : List Nd} (ht : ∀ n ∈ E, 1 ≤ n.h ∧ n.h ≤ 12) : (lanesOf E).length ≤ (lanesOf (E.map up)).length ∧ (lanesOf E).length ≤ 12 ∧ (lanesOf (E.map up)).length ≤ 12 ∧ ((lanesOf E).length = 0 ↔ E.length = 0) ∧
    (∀ j (hj : j < (lanesOf E).length), (lanesOf E)[j] = laneN E j ∧ laneN E j ≠ 0) ∧ ∀ j (hj : j < (lanesOf (E.map up)).length), (lanesOf (E.map up))[j] = laneN (E.map up) j := by
  obtain ⟨c, hc, e, h1, h2⟩ := lanes_form E
  obtain ⟨c', hc', e', h1', h2'⟩ := lanes_form (E.map up)
  have hle : c ≤ c' := by
    rcases Nat.lt_or_ge c' c with h | h
    · have a := h2' (by omega)
      have b := h1 c' h
      have := laneN_up ht c'
      omega
    · exact h
  refine ⟨by rw [e, e']; simpa using hle, by rw [e]; simpa using hc, by rw [e']; simpa using hc', ?_, ?_, ?_⟩
  · rw [e]
    simp only [List.length_map, List.length_range]
    have := laneN_all ht
    constructor
    · intro h0
      subst h0
      have := h2 (by omega)
      omega
    · intro h0
      rcases Nat.eq_zero_or_pos c with h | h
      · exact h
      · have := h1 0 h; omega
  · intro j hj
    have hj' : j < c := by rw [e] at hj; simpa using hj
    exact ⟨by simp [e], h1 j hj'⟩
  · intro j hj
    simp [e']
end Go.Proofs.YtmodgjjlgobjcaaGreat
