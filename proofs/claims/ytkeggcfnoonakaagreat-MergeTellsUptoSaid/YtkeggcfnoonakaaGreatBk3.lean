
/-
  Book: marks are laid, whatever the kind.
-/
import Derived.Test.YtkeggcfnoonakaaGreatBk2
set_option linter.unusedSimpArgs false
set_option linter.unusedVariables false
namespace Go.Proofs.YtkeggcfnoonakaaGreat
open Go.RowKit

section
variable {P : Program} {T E TS : TypeId} {k by_ : Nat} {α : Type} {cell : α → List Value} {e : Elm P T E k by_ cell} {eS : Elm P TS T 1 24 sCell}

def marks {α : Type} (mk : Nat → Nat → α) (i from_ n : Nat) : List α := (List.range n).map (fun t => mk i (from_ + t))
theorem marks_len {α : Type} (mk : Nat → Nat → α) (i from_ n : Nat) : (marks mk i from_ n).length = n := by simp [marks]
theorem marks_succ {α : Type} (mk : Nat → Nat → α) (i from_ n : Nat) : marks mk i from_ (n + 1) = marks mk i from_ n ++ [mk i (from_ + n)] := by
  unfold marks
  rw [List.range_succ, List.map_append]
  rfl
theorem marks_app {α : Type} (mk : Nat → Nat → α) (i n m : Nat) : marks mk i 0 n ++ marks mk i n m = marks mk i 0 (n + m) := by
  induction m with
  | zero => simp [marks]
  | succ m ih => rw [marks_succ, ← List.append_assoc, ih, ← Nat.add_assoc, marks_succ, Nat.zero_add]
theorem marks_get {α : Type} (mk : Nat → Nat → α) (i n j : Nat) (h : j < n) : (marks mk i 0 n)[j]? = some (mk i j) := by simp [marks, h]

theorem footL_congr {vo : Value} {S S' : List (Sl × List α)} (h : S.map (·.1) = S'.map (·.1)) (q : Nat) (hq : footL vo S q) : footL vo S' q := by
  rcases hq with hq | ⟨i, hi, hq⟩
  · exact .inl hq
  · have hl : S.length = S'.length := by simpa using congrArg List.length h
    have hi' : i < S'.length := hl ▸ hi
    refine .inr ⟨i, hi', ?_⟩
    have h1 := congrArg (fun l => l[i]?) h
    simp only [List.getElem?_map, List.getElem?_eq_getElem hi, List.getElem?_eq_getElem hi', Option.map_some, Option.some.injEq] at h1
    rw [← h1]
    exact hq

/-- The contents of the list number i are others now. -/
def relist {α : Type} (S : List (Sl × List α)) (i : Nat) (l : List α) : List (Sl × List α) := S.modify i (fun p => (p.1, l))
theorem relist_len {α : Type} (S : List (Sl × List α)) (i : Nat) (l : List α) : (relist S i l).length = S.length := by simp [relist]
theorem relist_fst {α : Type} (S : List (Sl × List α)) (i : Nat) (l : List α) : (relist S i l).map (·.1) = S.map (·.1) := by
  apply List.ext_getElem?
  intro j
  simp only [relist, List.getElem?_map, List.getElem?_modify]
  cases S[j]? with
  | none => rfl
  | some p => by_cases h : i = j <;> simp [h]
theorem relist_get {α : Type} (S : List (Sl × List α)) (i j : Nat) (l : List α) (hj : j < (relist S i l).length) (hj' : j < S.length) : (relist S i l)[j] = (S[j].1, if i = j then l else S[j].2) := by
  have h : (relist S i l)[j]? = some (S[j].1, if i = j then l else S[j].2) := by
    simp only [relist, List.getElem?_modify, List.getElem?_eq_getElem hj']
    by_cases h : i = j
    · subst h; simp
    · simp [h]
  exact (List.getElem?_eq_some_iff.1 h).2
theorem relist_twice {α : Type} (S : List (Sl × List α)) (i : Nat) (l l2 : List α) : relist (relist S i l) i l2 = relist S i l2 := by
  apply List.ext_getElem?
  intro j
  simp only [relist, List.getElem?_modify]
  cases S[j]? with
  | none => rfl
  | some p => by_cases h : i = j <;> simp [h]
theorem relist_same {α : Type} (S : List (Sl × List α)) (i : Nat) (hi : i < S.length) : relist S i S[i].2 = S := by
  apply List.ext_getElem?
  intro j
  simp only [relist, List.getElem?_modify]
  by_cases h : i = j
  · subst h; simp [List.getElem?_eq_getElem hi]
  · cases S[j]? <;> simp [h]

/-- What becomes of a stand when blocks of the list number i alone turn. -/
theorem Lst.relist {w w' : World} {B : Nat} {vo : Value} {S : List (Sl × List α)} (h : Lst e eS w B vo S) {i : Nat} (hi : i < S.length) (ht : Tn (fun q => S[i].1.val.ownBlock = some q) w w') {l : List α} (ho : Own e w' B S[i].1.val l) : Lst e eS w' B vo (relist S i l) := by
  have hlen := relist_len S i l
  refine ⟨?_, fun j hj => ?_, fun j hj q hq => ?_, fun j m hj hm hjm q hq => ?_⟩
  · rw [relist_fst]
    exact ht.row h.outer (fun q hq h2 => h.sepO i hi q hq h2)
  · rw [relist_get S i j l hj (hlen ▸ hj)]
    by_cases hij : i = j
    · subst hij; simpa using ho
    · simp only [hij, if_false]
      exact ht.row (h.each j (hlen ▸ hj)) (fun q hq h2 => h.sepE i j hi (hlen ▸ hj) hij q h2 hq)
  · rw [relist_get S i j l hj (hlen ▸ hj)]
    exact h.sepO j (hlen ▸ hj) q hq
  · rw [relist_get S i j l hj (hlen ▸ hj)] at hq
    rw [relist_get S i m l hm (hlen ▸ hm)]
    exact h.sepE j m (hlen ▸ hj) (hlen ▸ hm) hjm q hq

/-- The first i lists are marked. -/
def mset {α : Type} (mk : Nat → Nat → α) (i : Nat) (S : List (Sl × List α)) : List (Sl × List α) := S.mapIdx (fun j p => if j < i then (p.1, marks mk j 0 p.2.length) else p)
theorem mset_len {α : Type} (mk : Nat → Nat → α) (i : Nat) (S : List (Sl × List α)) : (mset mk i S).length = S.length := by simp [mset]
theorem mset_zero {α : Type} (mk : Nat → Nat → α) (S : List (Sl × List α)) : mset mk 0 S = S := by
  apply List.ext_getElem?
  intro j
  simp only [mset, List.getElem?_mapIdx]
  cases S[j]? <;> simp
theorem mset_get {α : Type} (mk : Nat → Nat → α) (i j : Nat) (S : List (Sl × List α)) (hj : j < (mset mk i S).length) (hj' : j < S.length) : (mset mk i S)[j] = (S[j].1, if j < i then marks mk j 0 S[j].2.length else S[j].2) := by
  simp only [mset, List.getElem_mapIdx]
  split <;> rfl
theorem mset_fst {α : Type} (mk : Nat → Nat → α) (i : Nat) (S : List (Sl × List α)) : (mset mk i S).map (·.1) = S.map (·.1) := by
  apply List.ext_getElem?
  intro j
  simp only [mset, List.getElem?_map, List.getElem?_mapIdx]
  cases S[j]? with
  | none => rfl
  | some p => simp only [Option.map_some]; split <;> rfl
theorem mset_succ {α : Type} (mk : Nat → Nat → α) (i : Nat) (S : List (Sl × List α)) (hi : i < S.length) : relist (mset mk i S) i (marks mk i 0 S[i].2.length) = mset mk (i + 1) S := by
  apply List.ext_getElem?
  intro j
  simp only [relist, mset, List.getElem?_modify, List.getElem?_mapIdx]
  by_cases hij : i = j
  · subst hij
    simp [List.getElem?_eq_getElem hi]
  · cases S[j]? with
    | none => rfl
    | some p =>
      simp only [Option.map_some, hij, if_false]
      by_cases h : j < i
      · simp [h, Nat.lt_succ_of_lt h]
      · have h2 : ¬ j < i + 1 := by omega
        simp [h, h2]
theorem mark_over {α : Type} (mk : Nat → Nat → α) (i j : Nat) (l : List α) (h : j < l.length) : (marks mk i 0 j ++ l.drop j).set j (mk i j) = marks mk i 0 (j + 1) ++ l.drop (j + 1) := by
  rw [List.set_append_right _ _ (by rw [marks_len]; omega), marks_len, Nat.sub_self, marks_succ, Nat.zero_add, List.append_assoc]
  congr 1
  rw [List.drop_eq_getElem_cons h]
  rfl
/-- Every list is marked. -/
def Mkd {α : Type} (mk : Nat → Nat → α) (S : List (Sl × List α)) : Prop := ∀ i (hi : i < S.length), S[i].2 = marks mk i 0 S[i].2.length
theorem mset_all {α : Type} (mk : Nat → Nat → α) (S : List (Sl × List α)) : Mkd mk (mset mk S.length S) := by
  intro i hi
  have hi' : i < S.length := by rwa [mset_len] at hi
  rw [mset_get mk S.length i S hi hi', if_pos hi', marks_len]
end
end Go.Proofs.YtkeggcfnoonakaaGreat
