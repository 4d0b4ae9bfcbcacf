
/-
  Book: lists that were kept, whatever their kind.
-/
import Derived.Test.YtkeggcfnoonakaaGreatApp2
set_option linter.unusedSimpArgs false
set_option linter.unusedVariables false
namespace Go.Proofs.YtkeggcfnoonakaaGreat
open Go.RowKit

/-- A slice, as a value that lies in one cell. -/
structure Sl where
  a : Option Addr
  n : Nat
  cap : Nat
def Sl.val (s : Sl) : Value := .slice s.a s.n s.cap
def sCell (s : Sl) : List Value := [s.val]
theorem sCell_one : ∀ (s : Sl), ∀ u ∈ sCell s, u.oneCell' = true := by
  intro s u hu
  unfold sCell at hu
  rw [List.mem_singleton] at hu
  subst hu
  rfl
theorem src_own {P : Program} {T E : TypeId} {k by_ : Nat} {α : Type} {cell : α → List Value} {e : Elm P T E k by_ cell} {w w' : World} {B : Nat} {v : Value} {l : List α} (h : Own e w B v l) (hb : Below w.heap.size w w') : Src e w' v l := by
  have h2 : Own e w' B v l := row_below h hb
  exact Own.src h2

section
variable {P : Program} {T E TS : TypeId} {k by_ : Nat} {α : Type} {cell : α → List Value}

/-- A slice of slices, and what each of them holds; all in blocks of their own. -/
structure Lst (e : Elm P T E k by_ cell) (eS : Elm P TS T 1 24 sCell) (w : World) (B : Nat) (vo : Value) (S : List (Sl × List α)) : Prop where
  outer : Own eS w B vo (S.map (·.1))
  each : ∀ i (hi : i < S.length), Own e w B S[i].1.val S[i].2
  sepO : ∀ i (hi : i < S.length) q, vo.ownBlock = some q → S[i].1.val.ownBlock ≠ some q
  sepE : ∀ i j (hi : i < S.length) (hj : j < S.length), i ≠ j → ∀ q, S[i].1.val.ownBlock = some q → S[j].1.val.ownBlock ≠ some q
/-- Its blocks. -/
def footL (vo : Value) (S : List (Sl × List α)) (q : Nat) : Prop := vo.ownBlock = some q ∨ ∃ i, ∃ hi : i < S.length, S[i].1.val.ownBlock = some q
variable {e : Elm P T E k by_ cell} {eS : Elm P TS T 1 24 sCell} {w w' : World} {B : Nat} {vo : Value} {S : List (Sl × List α)}
theorem Lst.lt (h : Lst e eS w B vo S) {q : Nat} (hq : footL vo S q) : B ≤ q ∧ q < w.heap.size := by
  rcases hq with hq | ⟨i, hi, hq⟩
  · exact h.outer.lt q hq
  · exact (h.each i hi).lt q hq
theorem Lst.tn (h : Lst e eS w B vo S) {G : Nat → Prop} (ht : Tn G w w') (hG : ∀ q, footL vo S q → ¬ G q) : Lst e eS w' B vo S :=
  ⟨ht.row h.outer (fun q hq => hG q (.inl hq)), fun i hi => ht.row (h.each i hi) (fun q hq => hG q (.inr ⟨i, hi, hq⟩)), h.sepO, h.sepE⟩
theorem Lst.below (h : Lst e eS w B vo S) (hb : Below w.heap.size w w') : Lst e eS w' B vo S := h.tn (Tn.ofBelow (F := fun _ => False) hb) (fun _ _ h => h)
theorem Lst.nil (w : World) (B : Nat) : Lst e eS w B (.slice none 0 0) [] :=
  ⟨World.ownsRow_nil _ _ _ _, fun i hi => by simp at hi, fun i hi => by simp at hi, fun i j hi => by simp at hi⟩
theorem Lst.mono (h : Lst e eS w B vo S) {B' : Nat} (hB : B' ≤ B) : Lst e eS w B' vo S :=
  ⟨row_mono h.outer hB, fun i hi => row_mono (h.each i hi) hB, h.sepO, h.sepE⟩
/-- The slice number i, as the walk reads it. -/
theorem Lst.read (h : Lst e eS w B vo S) {i : Nat} (hi : i < S.length) : ∃ g cap, vo = .slice (some ⟨g, 0, none⟩) S.length cap ∧ w.cell? ⟨g, i, none⟩ = some S[i].1.val := by
  have h0 := h.outer
  obtain ⟨h1, h2⟩ := h.outer
  rcases h2 with ⟨_, h3⟩ | ⟨g, cap', cur, h2, hg, hh, hn', hc, hcl, htk⟩
  · rw [List.length_map] at h3; omega
  · subst h2
    refine ⟨g, cap', by rw [List.length_map], ?_⟩
    have hj : i < (S.map (·.1)).length * 1 := by rw [List.length_map]; omega
    have := h0.cellAt i hj
    rw [this]
    have h4 := eS.get (S.map (·.1)) i 0 (by rw [List.length_map]; exact hi) (by omega)
    rw [Nat.mul_one, Nat.add_zero] at h4
    rw [h4, List.getElem_map]
    rfl
theorem Lst.form (h : Lst e eS w B vo S) : ∃ a cap, vo = .slice a S.length cap := by
  obtain ⟨a, cap, hv, _, _⟩ := row_form h.outer
  rw [List.length_map] at hv
  exact ⟨a, cap, hv⟩
theorem Lst.sl (h : Lst e eS w B vo S) {i : Nat} (hi : i < S.length) : S[i].1.n = S[i].2.length := by
  obtain ⟨a, cap, hv, _, _⟩ := row_form (h.each i hi)
  unfold Sl.val at hv
  injection hv
/-- One list more. -/
theorem Lst.add (h : Lst e eS w B vo S) {s : Sl} {l : List α} (hs : Own e w B s.val l) (hne : ∀ q, s.val.ownBlock = some q → ¬ footL vo S q) {vo' : Value} (hap : Appd eS w w' B vo vo' (S.map (·.1)) [s]) : Lst e eS w' B vo' (S ++ [(s, l)]) := by
  have hG : ∀ i (hi : i < S.length) q, S[i].1.val.ownBlock = some q → ¬ (vo.ownBlock = some q) := fun i hi q h1 h2 => h.sepO i hi q h2 h1
  have hfresh : ∀ q, vo'.ownBlock = some q → vo.ownBlock = some q ∨ w.heap.size ≤ q := fun q hq => by
    rcases hap.block with hb | hb
    · exact .inl (hb ▸ hq)
    · exact .inr (hb q hq)
  refine ⟨?_, fun i hi => ?_, fun i hi q hq => ?_, fun i j hi hj hij q hq => ?_⟩
  · rw [List.map_append]; exact hap.own
  · rcases Nat.lt_or_ge i S.length with h1 | h1
    · rw [List.getElem_append_left h1]
      exact hap.tn.row (h.each i h1) (fun q hq => hG i h1 q hq)
    · have hi' : i = S.length := by rw [List.length_append] at hi; simp at hi; omega
      subst hi'
      rw [List.getElem_append_right (Nat.le_refl _)]
      simp only [Nat.sub_self, List.getElem_cons_zero]
      exact hap.tn.row hs (fun q hq h2 => hne q hq (.inl h2))
  · rcases Nat.lt_or_ge i S.length with h1 | h1
    · rw [List.getElem_append_left h1]
      intro h2
      rcases hfresh q hq with h3 | h3
      · exact h.sepO i h1 q h3 h2
      · have := ((h.each i h1).lt q h2).2; omega
    · have hi' : i = S.length := by rw [List.length_append] at hi; simp at hi; omega
      subst hi'
      rw [List.getElem_append_right (Nat.le_refl _)]
      simp only [Nat.sub_self, List.getElem_cons_zero]
      intro h2
      rcases hfresh q hq with h3 | h3
      · exact hne q h2 (.inl h3)
      · have := (hs.lt q h2).2; omega
  · rcases Nat.lt_or_ge i S.length with h1 | h1
    · rw [List.getElem_append_left h1] at hq
      rcases Nat.lt_or_ge j S.length with h2 | h2
      · rw [List.getElem_append_left h2]; exact h.sepE i j h1 h2 hij q hq
      · have hj' : j = S.length := by rw [List.length_append] at hj; simp at hj; omega
        subst hj'
        rw [List.getElem_append_right (Nat.le_refl _)]
        simp only [Nat.sub_self, List.getElem_cons_zero]
        intro h3
        exact hne q h3 (.inr ⟨i, h1, hq⟩)
    · have hi' : i = S.length := by rw [List.length_append] at hi; simp at hi; omega
      subst hi'
      rw [List.getElem_append_right (Nat.le_refl _)] at hq
      simp only [Nat.sub_self, List.getElem_cons_zero] at hq
      have h2 : j < S.length := by rw [List.length_append] at hj; simp at hj; omega
      rw [List.getElem_append_left h2]
      intro h3
      exact hne q hq (.inr ⟨j, h2, h3⟩)
theorem footL_add {s : Sl} {l : List α} {vo' : Value} {n : Nat} (hf : ∀ q, vo'.ownBlock = some q → vo.ownBlock = some q ∨ n ≤ q) {q : Nat} (hq : footL vo' (S ++ [(s, l)]) q) : footL vo S q ∨ s.val.ownBlock = some q ∨ n ≤ q := by
  rcases hq with hq | ⟨i, hi, hq⟩
  · rcases hf q hq with h | h
    · exact .inl (.inl h)
    · exact .inr (.inr h)
  · rcases Nat.lt_or_ge i S.length with h1 | h1
    · rw [List.getElem_append_left h1] at hq; exact .inl (.inr ⟨i, h1, hq⟩)
    · have hi' : i = S.length := by rw [List.length_append] at hi; simp at hi; omega
      subst hi'
      rw [List.getElem_append_right (Nat.le_refl _)] at hq
      exact .inr (.inl (by simpa using hq))
/-- A kind of the book: what was kept, and the copies. -/
structure Kd (e : Elm P T E k by_ cell) (eS : Elm P TS T 1 24 sCell) (w : World) (bk off B : Nat) (vo vw : Value) (S Sw : List (Sl × List α)) : Prop where
  c0 : w.cell? ⟨bk, off, none⟩ = some vo
  c1 : w.cell? ⟨bk, off + 1, none⟩ = some vw
  l : Lst e eS w B vo S
  lw : Lst e eS w B vw Sw
  same : Sw.map (·.2) = S.map (·.2)
  apart : ∀ q, footL vo S q → ¬ footL vw Sw q
  bk0 : bk < B
  free : ∀ j, w.frozen? ⟨bk, j, none⟩ = false
theorem Kd.tn {bk off : Nat} {vw : Value} {Sw : List (Sl × List α)} (h : Kd e eS w bk off B vo vw S Sw) {G : Nat → Prop} (ht : Tn G w w') (hb : ¬ G bk) (hG : ∀ q, footL vo S q ∨ footL vw Sw q → ¬ G q) : Kd e eS w' bk off B vo vw S Sw :=
  ⟨ht.cell h.c0 hb, ht.cell h.c1 hb, h.l.tn ht (fun q hq => hG q (.inl hq)), h.lw.tn ht (fun q hq => hG q (.inr hq)), h.same, h.apart, h.bk0, fun j => (ht.frozen (p := ⟨bk, j, none⟩) (World.block_lt_of_cell? w ⟨bk, off, none⟩ h.c0) hb).trans (h.free j)⟩
end
end Go.Proofs.YtkeggcfnoonakaaGreat
