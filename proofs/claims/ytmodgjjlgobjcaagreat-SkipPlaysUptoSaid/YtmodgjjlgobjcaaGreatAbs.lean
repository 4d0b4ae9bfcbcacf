/-
  Lists without their blocks: what each call answers, of the pairs and heights alone.
-/
import Derived.Test.YtmodgjjlgobjcaaGreatSkM
namespace Go.Proofs.YtmodgjjlgobjcaaGreat
open Go.RowKit

def er (n : Nd) : Nd := { n with b := 0 }
def erase (L : List Nd) : List Nd := L.map er
theorem erase_len (L : List Nd) : (erase L).length = L.length := by simp [erase]
theorem erase_get (L : List Nd) (i : Nat) : (erase L)[i]? = (L[i]?).map er := by simp [erase]
theorem erase_take (L : List Nd) (p : Nat) : erase (L.take p) = (erase L).take p := by simp [erase]
theorem erase_drop (L : List Nd) (p : Nat) : erase (L.drop p) = (erase L).drop p := by simp [erase]
theorem erase_nil : erase [] = [] := rfl

theorem below_erase (L : List Nd) (k : ByteArray) : below (erase L) k = below L k := by
  unfold below erase
  induction L with
  | nil => rfl
  | cons a L ih =>
    simp only [List.map_cons, List.takeWhile_cons, er]
    split
    · simp [ih]
    · rfl
theorem laneN_erase (L : List Nd) (h : Nat) : laneN (erase L) h = laneN L h := by
  unfold laneN erase
  rw [List.countP_map]
  rfl
theorem bytesOf_erase (L : List Nd) : bytesOf (erase L) = bytesOf L := by
  unfold bytesOf erase
  rw [List.map_map]
  rfl
theorem hasK_erase (L : List Nd) (k : ByteArray) : hasK (erase L) k = hasK L k := by
  unfold hasK
  rw [below_erase, erase_get]
  cases L[below L k]? <;> rfl
theorem putE_erase (L : List Nd) (fr : Bool) (k v : ByteArray) : putE (erase L) fr k v = putE L fr k v := by
  unfold putE
  rw [hasK_erase]
theorem getOf_erase (L : List Nd) (k : ByteArray) : getOf (erase L) k = getOf L k := by
  unfold getOf
  rw [below_erase, erase_get]
  cases L[below L k]? <;> rfl
theorem fromOf_erase (L : List Nd) (k : ByteArray) (m : Int) : fromOf (erase L) k m = fromOf L k m := by
  unfold fromOf
  rw [below_erase, ← erase_drop, ← erase_take]
  unfold erase
  rw [List.map_map, List.map_map]
  rfl
theorem lastOf_erase (L : List Nd) (k : ByteArray) : lastOf (erase L) k = lastOf L k := by
  unfold lastOf
  rw [below_erase, erase_get]
  cases L[below L k - 1]? <;> cases below L k <;> rfl
theorem ins_erase (L : List Nd) (m : Nat) (x : Nd) : erase (ins L m x) = ins (erase L) m (er x) := by
  unfold ins
  rw [← erase_take, ← erase_drop]
  simp [erase]

/-- What Put leaves. -/
def putL (E : List Nd) (fr : Bool) (k v : ByteArray) (h : Int) : List Nd := if putE E fr k v = 0 then ins E (below E k) ⟨0, k, v, clampH h⟩ else E
theorem putL_len (E : List Nd) (fr : Bool) (k v : ByteArray) (h : Int) : (putL E fr k v h).length ≤ E.length + 1 := by
  unfold putL
  split
  · rw [ins_len _ _ (below_le E k)]; omega
  · omega

/-- What Lanes tells. -/
def lanesOf (E : List Nd) : List Nat := ((List.range 12).map (laneN E)).takeWhile (fun n => n != 0)
theorem takeWhile_range (f : Nat → Nat) : ∀ (n c : Nat), c ≤ n → (∀ j, j < c → f j ≠ 0) → (c < n → f c = 0) → ((List.range n).map f).takeWhile (fun n => n != 0) = (List.range c).map f
  | n, c, hc, h1, h2 => by
    have e : List.range n = List.range c ++ (List.range' c (n - c)) := by
      rw [List.range_eq_range', List.range_eq_range']
      have h := List.range'_append_1 (s := 0) (m := c) (n := n - c)
      rw [Nat.zero_add, show c + (n - c) = n by omega] at h
      exact h.symm
    rw [e, List.map_append, List.takeWhile_append_of_pos]
    · cases hk : n - c with
      | zero => simp
      | succ k =>
        rw [List.range'_succ]
        simp [h2 (by omega)]
    · intro x hx
      obtain ⟨j, hj, rfl⟩ := List.mem_map.1 hx
      simpa using h1 j (List.mem_range.1 hj)

/-- Where the way to a key leaves a lane. -/
def posUp (E : List Nd) (h : Nat) : Nat → Nat
  | 0 => 0
  | p + 1 => if (match E[p]? with
    | some n => decide (h < n.h)
    | none => false) = true then p + 1 else posUp E h p
def posOf (E : List Nd) (k : ByteArray) (h : Nat) : Nat := posUp E h (below E k)
def stepsOf (E : List Nd) (k : ByteArray) : Int := stepsFrom E (posOf E k) 12

theorem posUp_lane (L : List Nd) (h : Nat) : ∀ m, inLane L h (posUp L h m) ∧ posUp L h m ≤ m
  | 0 => ⟨Or.inl rfl, Nat.le_refl _⟩
  | m + 1 => by
    unfold posUp
    cases e : L[m]? with
    | none => simpa using ⟨(posUp_lane L h m).1, Nat.le_succ_of_le (posUp_lane L h m).2⟩
    | some n =>
      by_cases hn : h < n.h
      · simp only [hn, decide_true, if_true]
        exact ⟨Or.inr ⟨n, by simpa using e, by omega, hn⟩, Nat.le_refl _⟩
      · simp only [hn, decide_false, Bool.false_eq_true, if_false]
        exact ⟨(posUp_lane L h m).1, Nat.le_succ_of_le (posUp_lane L h m).2⟩
theorem posUp_ge {L : List Nd} {h p : Nat} (hp : inLane L h p) : ∀ {m}, p ≤ m → p ≤ posUp L h m
  | 0, hm => by have : p = 0 := by omega
                subst this; exact Nat.zero_le _
  | m + 1, hm => by
    unfold posUp
    by_cases e : p = m + 1
    · subst e
      rcases hp with hp | ⟨n, hn, _, hh⟩
      · omega
      · simp only [Nat.add_sub_cancel] at hn
        simp [hn, hh]
    · have := posUp_ge hp (m := m) (by omega)
      cases L[m]? with
      | none => simpa using this
      | some n =>
        by_cases hn : h < n.h
        · simp only [hn, decide_true, if_true]; omega
        · simpa [hn] using this
theorem isPos_eq {L : List Nd} {k : ByteArray} {h p : Nat} (hp : IsPos L k h p) : p = posOf L k h := by
  obtain ⟨h1, h2, h3⟩ := hp
  unfold posOf
  have a := posUp_ge h1 h2
  have b := posUp_lane L h (below L k)
  rcases Nat.lt_or_ge p (posUp L h (below L k)) with hlt | hge
  · exact absurd b.1 (h3 _ hlt b.2)
  · omega
theorem posUp_erase (L : List Nd) (h : Nat) : ∀ m, posUp (erase L) h m = posUp L h m
  | 0 => rfl
  | m + 1 => by
    unfold posUp
    rw [posUp_erase L h m, erase_get]
    cases L[m]? <;> rfl
theorem posOf_erase (L : List Nd) (k : ByteArray) (h : Nat) : posOf (erase L) k h = posOf L k h := by
  unfold posOf
  rw [below_erase, posUp_erase]
theorem stepsFrom_erase (L : List Nd) (f : Nat → Nat) : ∀ d, stepsFrom (erase L) f d = stepsFrom L f d
  | 0 => rfl
  | d + 1 => by
    unfold stepsFrom
    rw [stepsFrom_erase L f d, ← erase_take, ← erase_take, laneN_erase, laneN_erase]
theorem stepsFrom_congr2 {L : List Nd} {f f' : Nat → Nat} (hf : ∀ j, j < 12 → f j = f' j) : ∀ d, stepsFrom L f d = stepsFrom L f' d
  | 0 => rfl
  | d + 1 => by
    unfold stepsFrom
    rw [stepsFrom_congr2 hf d, hf (11 - d) (by omega)]
    have e : lead f (11 - d) = lead f' (11 - d) := by
      unfold lead
      split
      · rfl
      · exact hf _ (by omega)
    rw [e]
theorem stepsOf_erase (L : List Nd) (k : ByteArray) : stepsOf (erase L) k = stepsOf L k := by
  unfold stepsOf
  rw [stepsFrom_erase, stepsFrom_congr (f' := posOf L k) (fun j _ => posOf_erase L k j)]

/-- At sb stands a list with the pairs E, in the blocks F. -/
def SAt (w : World) (F : Nat → Prop) (sb : Nat) (E : List Nd) (fr : Bool) : Prop := ∃ L, SkAt w sb L fr ∧ erase L = E ∧ F = Feet sb L

theorem SAt.lt {w : World} {F : Nat → Prop} {sb : Nat} {E : List Nd} {fr : Bool} (s : SAt w F sb E fr) : ∀ q, F q → q < w.heap.size := by
  obtain ⟨L, h, _, rfl⟩ := s
  exact h.feet_lt
theorem SAt.turn {G F : Nat → Prop} {w w' : World} {sb : Nat} {E : List Nd} {fr : Bool} (s : SAt w F sb E fr) (ht : Tn G w w') (hg : ∀ q, F q → ¬ G q) : SAt w' F sb E fr := by
  obtain ⟨L, h, he, rfl⟩ := s
  exact ⟨L, h.turn ht (hg sb (Or.inl rfl)) (fun n hn => hg n.b (Or.inr ⟨n, hn, rfl⟩)), he, rfl⟩
theorem SAt.below {F : Nat → Prop} {w w' : World} {sb : Nat} {E : List Nd} {fr : Bool} (s : SAt w F sb E fr) (hb : Below w.heap.size w w') : SAt w' F sb E fr := s.turn (G := fun _ => False) (Tn.ofBelow hb) (fun _ _ e => e)
theorem SAt.sorted {F : Nat → Prop} {w : World} {sb : Nat} {E : List Nd} {fr : Bool} (s : SAt w F sb E fr) : E.Pairwise (fun a b => kcmp a.k b.k < 0) := by
  obtain ⟨L, h, rfl, rfl⟩ := s
  unfold erase
  rw [List.pairwise_map]
  exact h.sorted
theorem SAt.hts {F : Nat → Prop} {w : World} {sb : Nat} {E : List Nd} {fr : Bool} (s : SAt w F sb E fr) : ∀ n ∈ E, 1 ≤ n.h ∧ n.h ≤ 12 := by
  obtain ⟨L, h, rfl, rfl⟩ := s
  intro n hn
  obtain ⟨m, hm, rfl⟩ := List.mem_map.1 hn
  exact h.hts m hm

theorem new_s (w : World) : Calls Tryz.prog 5 #[] w fun e w' => ∃ F sb, e = .returned (.pointer (some ⟨sb, 0, none⟩)) ∧ SAt w' F sb [] false ∧ (∀ q, F q → w.heap.size ≤ q) ∧ Below w.heap.size w w' :=
  (newl_any w).mono fun e w' ⟨he, hs, hb⟩ => ⟨_, _, he, ⟨[], hs, rfl, rfl⟩, fun q hq => hq.elim (fun e => by omega) (fun ⟨n, hn, _⟩ => by cases hn), hb⟩

theorem put_s {w : World} {F : Nat → Prop} {sb : Nat} {E : List Nd} {fr : Bool} (s : SAt w F sb E fr) (k v : ByteArray) (h : Int) (hlen : E.length < 100000) :
    Calls Tryz.prog 6 #[.pointer (some ⟨sb, 0, none⟩), .string k, .string v, .int .i64 h] w fun e w' =>
      e = .returned (.int .i64 (putE E fr k v)) ∧ ∃ F', SAt w' F' sb (putL E fr k v h) fr ∧ Tn F w w' ∧ ∀ q, F' q → F q ∨ w.heap.size ≤ q := by
  obtain ⟨L, hs, rfl, rfl⟩ := s
  rw [erase_len] at hlen
  refine (Put_any hs k v h hlen).mono ?_
  rintro e w' ⟨he, nb, hnb, hs', ht⟩
  rw [putE_erase]
  refine ⟨he, _, ⟨_, hs', ?_, rfl⟩, ht, ?_⟩
  · unfold putL
    rw [putE_erase]
    split
    · rw [ins_erase, below_erase]; rfl
    · rfl
  · rintro q (rfl | ⟨n, hn, rfl⟩)
    · exact Or.inl (Or.inl rfl)
    · split at hn
      · rcases ins_mem hn with rfl | h2
        · exact Or.inr hnb
        · exact Or.inl (Or.inr ⟨n, h2, rfl⟩)
      · exact Or.inl (Or.inr ⟨n, hn, rfl⟩)

section
variable {w : World} {F : Nat → Prop} {sb : Nat} {E : List Nd} {fr : Bool} (s : SAt w F sb E fr)
include s
theorem count_s : Calls Tryz.prog 19 #[.pointer (some ⟨sb, 0, none⟩)] w fun e w' => e = .returned (.int .i64 (E.length : Int)) ∧ w = w' := by
  obtain ⟨L, hs, rfl, rfl⟩ := s
  rw [erase_len]
  exact count_any hs
theorem bytes_s : Calls Tryz.prog 25 #[.pointer (some ⟨sb, 0, none⟩)] w fun e w' => e = .returned (.int .i64 (bytesOf E : Int)) ∧ w = w' := by
  obtain ⟨L, hs, rfl, rfl⟩ := s
  rw [bytesOf_erase]
  exact bytes_any hs
theorem frozen_s : Calls Tryz.prog 20 #[.pointer (some ⟨sb, 0, none⟩)] w fun e w' => e = .returned (.bool fr) ∧ w = w' := by
  obtain ⟨L, hs, rfl, rfl⟩ := s
  exact frozen_any hs
theorem freeze_s : Calls Tryz.prog 16 #[.pointer (some ⟨sb, 0, none⟩)] w fun e w' => e = .returned (.tuple #[]) ∧ SAt w' F sb E true ∧ Tn F w w' := by
  obtain ⟨L, hs, rfl, rfl⟩ := s
  exact (freeze_any hs).mono fun e w' ⟨he, hs', ht⟩ => ⟨he, ⟨L, hs', rfl, rfl⟩, ht.mono (fun q e => Or.inl e)⟩
theorem get_s (k : ByteArray) : Calls Tryz.prog 8 #[.pointer (some ⟨sb, 0, none⟩), .string k] w fun e w' =>
      e = .returned (.tuple #[.string (getOf E k).1, .int .i64 (getOf E k).2]) ∧ Below w.heap.size w w' := by
  obtain ⟨L, hs, rfl, rfl⟩ := s
  rw [getOf_erase]
  exact get_any hs k
theorem from_s (k : ByteArray) (most : Int) (hm0 : -9223372036854775808 ≤ most) (hm1 : most ≤ 9223372036854775807) : Calls Tryz.prog 10 #[.pointer (some ⟨sb, 0, none⟩), .string k, .int .i64 most] w fun e w' =>
      ∃ v, e = .returned v ∧ OwnKv w' w.heap.size v (fromOf E k most) ∧ Below w.heap.size w w' := by
  obtain ⟨L, hs, rfl, rfl⟩ := s
  rw [fromOf_erase]
  exact from_any hs k most hm0 hm1
theorem last_s (k : ByteArray) : Calls Tryz.prog 14 #[.pointer (some ⟨sb, 0, none⟩), .string k] w fun e w' =>
      e = .returned (.tuple #[.string (lastOf E k).1, .string (lastOf E k).2.1, .bool (lastOf E k).2.2]) ∧ Below w.heap.size w w' := by
  obtain ⟨L, hs, rfl, rfl⟩ := s
  rw [lastOf_erase]
  exact last_any hs k
theorem steps_s (k : ByteArray) : Calls Tryz.prog 17 #[.pointer (some ⟨sb, 0, none⟩), .string k] w fun e w' => e = .returned (.int .i64 (stepsOf E k)) ∧ w = w' := by
  obtain ⟨L, hs, rfl, rfl⟩ := s
  rw [stepsOf_erase]
  refine (steps_any hs k).mono ?_
  rintro e w' ⟨f, hf, he, hw⟩
  refine ⟨?_, hw⟩
  rw [he, show stepsFrom L f 12 = stepsOf L k from stepsFrom_congr2 (fun j hj => isPos_eq (hf j hj)) 12]
theorem lanes_s : Calls Tryz.prog 21 #[.pointer (some ⟨sb, 0, none⟩)] w fun e w' => ∃ v, e = .returned v ∧ w'.ownsRow w.heap.size 3 1 v (lanesOf E).length (iCells (lanesOf E)) ∧ Below w.heap.size w w' := by
  obtain ⟨L, hs, rfl, rfl⟩ := s
  refine (lanes_any hs).mono ?_
  rintro e w' ⟨v, he, c, hc, hr, h1, h2, hb⟩
  have e1 : lanesOf (erase L) = (List.range c).map (laneN L) := by
    unfold lanesOf
    rw [show laneN (erase L) = laneN L from funext (laneN_erase L)]
    exact takeWhile_range _ 12 c hc h1 h2
  refine ⟨v, he, ?_, hb⟩
  rw [e1, List.length_map, List.length_range]
  exact hr
end
end Go.Proofs.YtmodgjjlgobjcaaGreat
