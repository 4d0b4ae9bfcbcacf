import Derived.Test.YtnegappgdpeabaaGreatLe1
import Derived.Deep.QuietTactic
set_option linter.unusedSimpArgs false
set_option linter.unusedVariables false
/-
  Book: lists that were kept, whatever their kind.
-/
namespace Go.Proofs.YtnegappgdpeabaaGreat
open Go.RowKit

/-- A slice, as a value that lies in one cell. -/
structure Sl where
  a : Option Addr
  n : Nat
  cap : Nat
def Sl.val (s : Sl) : Value := .slice s.a s.n s.cap
def sCell (s : Sl) : List Value := [s.val]
theorem sCell_one : ∀ (s : Sl), ∀ u ∈ sCell s, u.oneCell' = true := by
  intro s u hu
  unfold sCell at hu
  rw [List.mem_singleton] at hu
  subst hu
  rfl
theorem src_own {P : Program} {T E : TypeId} {k by_ : Nat} {α : Type} {cell : α → List Value} {e : Elm P T E k by_ cell} {w w' : World} {B : Nat} {v : Value} {l : List α} (h : Own e w B v l) (hb : Below w.heap.size w w') : Src e w' v l := by
  have h2 : Own e w' B v l := row_below h hb
  exact Own.src h2

section
variable {P : Program} {T E TS : TypeId} {k by_ : Nat} {α : Type} {cell : α → List Value}

/-- A slice of slices, and what each of them holds; all in blocks of their own. -/
structure Lst (e : Elm P T E k by_ cell) (eS : Elm P TS T 1 24 sCell) (w : World) (B : Nat) (vo : Value) (S : List (Sl × List α)) : Prop where
  outer : Own eS w B vo (S.map (·.1))
  each : ∀ i (hi : i < S.length), Own e w B S[i].1.val S[i].2
  sepO : ∀ i (hi : i < S.length) q, vo.ownBlock = some q → S[i].1.val.ownBlock ≠ some q
  sepE : ∀ i j (hi : i < S.length) (hj : j < S.length), i ≠ j → ∀ q, S[i].1.val.ownBlock = some q → S[j].1.val.ownBlock ≠ some q
/-- Its blocks. -/
def footL (vo : Value) (S : List (Sl × List α)) (q : Nat) : Prop := vo.ownBlock = some q ∨ ∃ i, ∃ hi : i < S.length, S[i].1.val.ownBlock = some q
variable {e : Elm P T E k by_ cell} {eS : Elm P TS T 1 24 sCell} {w w' : World} {B : Nat} {vo : Value} {S : List (Sl × List α)}
theorem Lst.lt (h : Lst e eS w B vo S) {q : Nat} (hq : footL vo S q) : B ≤ q ∧ q < w.heap.size := by
  rcases hq with hq | ⟨i, hi, hq⟩
  · exact h.outer.lt q hq
  · exact (h.each i hi).lt q hq
theorem Lst.tn (h : Lst e eS w B vo S) {G : Nat → Prop} (ht : Tn G w w') (hG : ∀ q, footL vo S q → ¬ G q) : Lst e eS w' B vo S :=
  ⟨ht.row h.outer (fun q hq => hG q (.inl hq)), fun i hi => ht.row (h.each i hi) (fun q hq => hG q (.inr ⟨i, hi, hq⟩)), h.sepO, h.sepE⟩
theorem Lst.below (h : Lst e eS w B vo S) (hb : Below w.heap.size w w') : Lst e eS w' B vo S := h.tn (Tn.ofBelow (F := fun _ => False) hb) (fun _ _ h => h)
theorem Lst.nil (w : World) (B : Nat) : Lst e eS w B (.slice none 0 0) [] :=
  ⟨World.ownsRow_nil _ _ _ _, fun i hi => by simp at hi, fun i hi => by simp at hi, fun i j hi => by simp at hi⟩
theorem Lst.mono (h : Lst e eS w B vo S) {B' : Nat} (hB : B' ≤ B) : Lst e eS w B' vo S :=
  ⟨row_mono h.outer hB, fun i hi => row_mono (h.each i hi) hB, h.sepO, h.sepE⟩
/-- The slice number i, as the walk reads it. -/
theorem Lst.read (h : Lst e eS w B vo S) {i : Nat} (hi : i < S.length) : ∃ g cap, vo = .slice (some ⟨g, 0, none⟩) S.length cap ∧ w.cell? ⟨g, i, none⟩ = some S[i].1.val := by
  have h0 := h.outer
  obtain ⟨h1, h2⟩ := h.outer
  rcases h2 with ⟨_, h3⟩ | ⟨g, cap', cur, h2, hg, hh, hn', hc, hcl, htk⟩
  · rw [List.length_map] at h3; omega
  · subst h2
    refine ⟨g, cap', by rw [List.length_map], ?_⟩
    have hj : i < (S.map (·.1)).length * 1 := by rw [List.length_map]; omega
    have := h0.cellAt i hj
    rw [this]
    have h4 := eS.get (S.map (·.1)) i 0 (by rw [List.length_map]; exact hi) (by omega)
    rw [Nat.mul_one, Nat.add_zero] at h4
    rw [h4, List.getElem_map]
    rfl
theorem Lst.form (h : Lst e eS w B vo S) : ∃ a cap, vo = .slice a S.length cap := by
  obtain ⟨a, cap, hv, _, _⟩ := row_form h.outer
  rw [List.length_map] at hv
  exact ⟨a, cap, hv⟩
theorem Lst.sl (h : Lst e eS w B vo S) {i : Nat} (hi : i < S.length) : S[i].1.n = S[i].2.length := by
  obtain ⟨a, cap, hv, _, _⟩ := row_form (h.each i hi)
  unfold Sl.val at hv
  injection hv
/-- One list more. -/
theorem Lst.add (h : Lst e eS w B vo S) {s : Sl} {l : List α} (hs : Own e w B s.val l) (hne : ∀ q, s.val.ownBlock = some q → ¬ footL vo S q) {vo' : Value} (hap : Appd eS w w' B vo vo' (S.map (·.1)) [s]) : Lst e eS w' B vo' (S ++ [(s, l)]) := by
  have hG : ∀ i (hi : i < S.length) q, S[i].1.val.ownBlock = some q → ¬ (vo.ownBlock = some q) := fun i hi q h1 h2 => h.sepO i hi q h2 h1
  have hfresh : ∀ q, vo'.ownBlock = some q → vo.ownBlock = some q ∨ w.heap.size ≤ q := fun q hq => by
    rcases hap.block with hb | hb
    · exact .inl (hb ▸ hq)
    · exact .inr (hb q hq)
  refine ⟨?_, fun i hi => ?_, fun i hi q hq => ?_, fun i j hi hj hij q hq => ?_⟩
  · rw [List.map_append]; exact hap.own
  · rcases Nat.lt_or_ge i S.length with h1 | h1
    · rw [List.getElem_append_left h1]
      exact hap.tn.row (h.each i h1) (fun q hq => hG i h1 q hq)
    · have hi' : i = S.length := by rw [List.length_append] at hi; simp at hi; omega
      subst hi'
      rw [List.getElem_append_right (Nat.le_refl _)]
      simp only [Nat.sub_self, List.getElem_cons_zero]
      exact hap.tn.row hs (fun q hq h2 => hne q hq (.inl h2))
  · rcases Nat.lt_or_ge i S.length with h1 | h1
    · rw [List.getElem_append_left h1]
      intro h2
      rcases hfresh q hq with h3 | h3
      · exact h.sepO i h1 q h3 h2
      · have := ((h.each i h1).lt q h2).2; omega
    · have hi' : i = S.length := by rw [List.length_append] at hi; simp at hi; omega
      subst hi'
      rw [List.getElem_append_right (Nat.le_refl _)]
      simp only [Nat.sub_self, List.getElem_cons_zero]
      intro h2
      rcases hfresh q hq with h3 | h3
      · exact hne q h2 (.inl h3)
      · have := (hs.lt q h2).2; omega
  · rcases Nat.lt_or_ge i S.length with h1 | h1
    · rw [List.getElem_append_left h1] at hq
      rcases Nat.lt_or_ge j S.length with h2 | h2
      · rw [List.getElem_append_left h2]; exact h.sepE i j h1 h2 hij q hq
      · have hj' : j = S.length := by rw [List.length_append] at hj; simp at hj; omega
        subst hj'
        rw [List.getElem_append_right (Nat.le_refl _)]
        simp only [Nat.sub_self, List.getElem_cons_zero]
        intro h3
        exact hne q h3 (.inr ⟨i, h1, hq⟩)
    · have hi' : i = S.length := by rw [List.length_append] at hi; simp at hi; omega
      subst hi'
      rw [List.getElem_append_right (Nat.le_refl _)] at hq
      simp only [Nat.sub_self, List.getElem_cons_zero] at hq
      have h2 : j < S.length := by rw [List.length_append] at hj; simp at hj; omega
      rw [List.getElem_append_left h2]
      intro h3
      exact hne q hq (.inr ⟨j, h2, h3⟩)
theorem footL_add {s : Sl} {l : List α} {vo' : Value} {n : Nat} (hf : ∀ q, vo'.ownBlock = some q → vo.ownBlock = some q ∨ n ≤ q) {q : Nat} (hq : footL vo' (S ++ [(s, l)]) q) : footL vo S q ∨ s.val.ownBlock = some q ∨ n ≤ q := by
  rcases hq with hq | ⟨i, hi, hq⟩
  · rcases hf q hq with h | h
    · exact .inl (.inl h)
    · exact .inr (.inr h)
  · rcases Nat.lt_or_ge i S.length with h1 | h1
    · rw [List.getElem_append_left h1] at hq; exact .inl (.inr ⟨i, h1, hq⟩)
    · have hi' : i = S.length := by rw [List.length_append] at hi; simp at hi; omega
      subst hi'
      rw [List.getElem_append_right (Nat.le_refl _)] at hq
      exact .inr (.inl (by simpa using hq))
/-- A kind of the book: what was kept, and the copies. -/
structure Kd (e : Elm P T E k by_ cell) (eS : Elm P TS T 1 24 sCell) (w : World) (bk off B : Nat) (vo vw : Value) (S Sw : List (Sl × List α)) : Prop where
  c0 : w.cell? ⟨bk, off, none⟩ = some vo
  c1 : w.cell? ⟨bk, off + 1, none⟩ = some vw
  l : Lst e eS w B vo S
  lw : Lst e eS w B vw Sw
  same : Sw.map (·.2) = S.map (·.2)
  apart : ∀ q, footL vo S q → ¬ footL vw Sw q
  bk0 : bk < B
  free : ∀ j, w.frozen? ⟨bk, j, none⟩ = false
theorem Kd.tn {bk off : Nat} {vw : Value} {Sw : List (Sl × List α)} (h : Kd e eS w bk off B vo vw S Sw) {G : Nat → Prop} (ht : Tn G w w') (hb : ¬ G bk) (hG : ∀ q, footL vo S q ∨ footL vw Sw q → ¬ G q) : Kd e eS w' bk off B vo vw S Sw :=
  ⟨ht.cell h.c0 hb, ht.cell h.c1 hb, h.l.tn ht (fun q hq => hG q (.inl hq)), h.lw.tn ht (fun q hq => hG q (.inr hq)), h.same, h.apart, h.bk0, fun j => (ht.frozen (p := ⟨bk, j, none⟩) (World.block_lt_of_cell? w ⟨bk, off, none⟩ h.c0) hb).trans (h.free j)⟩
end
end Go.Proofs.YtnegappgdpeabaaGreat
/-
  Book: one list more, whatever its kind: what becomes of a kind's two stands.
-/
namespace Go.Proofs.YtnegappgdpeabaaGreat
open Go.RowKit

section
variable {P : Program} {T E TS : TypeId} {k by_ : Nat} {α : Type} {cell : α → List Value} {e : Elm P T E k by_ cell} {eS : Elm P TS T 1 24 sCell}

/-- What one list more makes of a kind. -/
structure Added (e : Elm P T E k by_ cell) (eS : Elm P TS T 1 24 sCell) (w w' : World) (bk off B : Nat) (vo vw : Value) (S Sw : List (Sl × List α)) (s : Sl) (l : List α) (vo' vw' : Value) (s2 : Sl) : Prop where
  kd : Kd e eS w' bk off B vo' vw' (S ++ [(s, l)]) (Sw ++ [(s2, l)])
  other : ∀ o, o ≠ off → o ≠ off + 1 → w'.cell? ⟨bk, o, none⟩ = w.cell? ⟨bk, o, none⟩
  tn : Tn (fun q => q = bk ∨ footL vo S q ∨ footL vw Sw q) w w'
  foot : ∀ q, footL vo' (S ++ [(s, l)]) q ∨ footL vw' (Sw ++ [(s2, l)]) q → footL vo S q ∨ footL vw Sw q ∨ s.val.ownBlock = some q ∨ w.heap.size ≤ q
  tnO : Tn (fun q => q = bk ∨ vo.ownBlock = some q ∨ vw.ownBlock = some q) w w'
  new2 : ∀ q, s2.val.ownBlock = some q → w.heap.size ≤ q
  outO : ∀ q, vo'.ownBlock = some q → vo.ownBlock = some q ∨ w.heap.size ≤ q
  outW : ∀ q, vw'.ownBlock = some q → vw.ownBlock = some q ∨ w.heap.size ≤ q
/-- Half of it. -/
structure AddMid (e : Elm P T E k by_ cell) (eS : Elm P TS T 1 24 sCell) (w w' : World) (bk off B : Nat) (vo vw : Value) (S Sw : List (Sl × List α)) (s : Sl) (l : List α) (vo' : Value) : Prop where
  ls : Lst e eS w' B vo' (S ++ [(s, l)])
  lw : Lst e eS w' B vw Sw
  same : Sw.map (·.2) = S.map (·.2)
  c0 : w'.cell? ⟨bk, off, none⟩ = some vo'
  c1 : w'.cell? ⟨bk, off + 1, none⟩ = some vw
  bk0 : bk < B
  free : ∀ j, w'.frozen? ⟨bk, j, none⟩ = false
  hs : Own e w' B s.val l
  tn : Tn (fun q => q = bk ∨ footL vo S q) w w'
  foot : ∀ q, footL vo' (S ++ [(s, l)]) q → footL vo S q ∨ s.val.ownBlock = some q ∨ w.heap.size ≤ q
  apart : ∀ q, footL vo' (S ++ [(s, l)]) q → ¬ footL vw Sw q
  other : ∀ o, o ≠ off → w'.cell? ⟨bk, o, none⟩ = w.cell? ⟨bk, o, none⟩
  tnO : Tn (fun q => q = bk ∨ vo.ownBlock = some q) w w'
  outO : ∀ q, vo'.ownBlock = some q → vo.ownBlock = some q ∨ w.heap.size ≤ q

theorem add_mid {w W1 w3 : World} {bk off B : Nat} {vo vw v3 : Value} {S Sw : List (Sl × List α)} {s : Sl} {l : List α} (h : Kd e eS w bk off B vo vw S Sw) (hs : Own e w B s.val l) (hne : ∀ q, s.val.ownBlock = some q → ¬ footL vo S q ∧ ¬ footL vw Sw q)
    (hb1 : Below w.heap.size w W1) (hap : Appd eS W1 w3 B vo v3 (S.map (·.1)) [s]) : AddMid e eS w (w3.setCell ⟨bk, off, none⟩ v3) bk off B vo vw S Sw s l v3 := by
  have hbk : bk < w.heap.size := World.block_lt_of_cell? _ _ h.c0
  have h1 := h.tn (Tn.ofBelow (F := fun _ => False) hb1) (fun e => e) (fun _ _ e => e)
  have hs1 : Own e W1 B s.val l := row_below hs hb1
  have hvb : ∀ q, vo.ownBlock = some q → q ≠ bk := fun q hq e => by have := (h1.l.outer.lt q hq).1; have := h.bk0; omega
  have ht3 : Tn (fun q => vo.ownBlock = some q) W1 w3 := hap.tn
  have hbk1 : bk < W1.heap.size := Nat.lt_of_lt_of_le hbk hb1.size
  have hbkv : ¬ (vo.ownBlock = some bk) := fun hq => hvb bk hq rfl
  have ht4 : Tn (fun q => q = bk) w3 (w3.setCell ⟨bk, off, none⟩ v3) := Tn.setCell _ _ _ rfl
  have hl3 : Lst e eS w3 B v3 (S ++ [(s, l)]) := h1.l.add hs1 (fun q hq => (hne q hq).1) hap
  have hw3 : Lst e eS w3 B vw Sw := h1.lw.tn ht3 (fun q hq hv => h.apart q (.inl hv) hq)
  have hfresh : ∀ q, v3.ownBlock = some q → vo.ownBlock = some q ∨ w.heap.size ≤ q := fun q hq => by
    rcases hap.block with hb | hb
    · exact .inl (hb ▸ hq)
    · exact .inr (Nat.le_trans hb1.size (hb q hq))
  have hc3 : w3.cell? ⟨bk, off, none⟩ = some vo := ht3.cell h1.c0 hbkv
  have hfoot : ∀ q, footL v3 (S ++ [(s, l)]) q → footL vo S q ∨ s.val.ownBlock = some q ∨ w.heap.size ≤ q := fun q hq => footL_add hfresh hq
  refine ⟨hl3.tn ht4 (fun q hq e => ?_), hw3.tn ht4 (fun q hq e => ?_), h.same, World.cell?_setCell_same _ _ _ hc3, ?_, h.bk0, fun j => ?_, ?_, ?_, hfoot, fun q hq hw => ?_, fun o ho => ?_, ((Tn.ofBelow (F := fun q => q = bk ∨ vo.ownBlock = some q) hb1).trans (ht3.mono (fun q hq => .inr hq))).trans (ht4.mono (fun q hq => .inl hq)), hfresh⟩
  · have := (hl3.lt hq).1; have := h.bk0; omega
  · have := (hw3.lt hq).1; have := h.bk0; omega
  · rw [World.cell?_setCell_other _ _ _ _ (by intro e; injection e with _ e2; omega)]
    exact ht3.cell h1.c1 hbkv
  · rw [World.frozen?_setCell]
    exact (ht3.frozen (p := ⟨bk, j, none⟩) hbk1 hbkv).trans (h1.free j)
  · exact ht4.row (ht3.row hs1 (fun q hq hv => (hne q hq).1 (.inl hv))) (fun q hq e => by have := (hs1.lt q hq).1; have := h.bk0; omega)
  · exact ((Tn.ofBelow (F := fun q => q = bk ∨ footL vo S q) hb1).trans (ht3.mono (fun q hq => .inr (.inl hq)))).trans (ht4.mono (fun q hq => .inl hq))
  · rcases hfoot q hq with h9 | h9 | h9
    · exact h.apart q h9 hw
    · exact (hne q h9).2 hw
    · have := (h.lw.lt hw).2; omega
  · rw [World.cell?_setCell_other _ _ _ _ (by intro e; injection e with _ e2; exact ho e2.symm)]
    have g1 : w3.cell? ⟨bk, o, none⟩ = W1.cell? ⟨bk, o, none⟩ := World.cell?_of_block (ht3.block bk hbk1 hbkv)
    rw [g1]
    exact hb1.cell (p := ⟨bk, o, none⟩) hbk

theorem add_end {w w4 w5 w6 w7 : World} {bk off B : Nat} {vo vw v4 v7 : Value} {S Sw : List (Sl × List α)} {s s2 : Sl} {l : List α} (m : AddMid e eS w w4 bk off B vo vw S Sw s l v4) (hB : B ≤ w.heap.size)
    (hs2 : Own e w5 w4.heap.size s2.val l) (hb5 : Below w4.heap.size w4 w5) (hb6 : Below w5.heap.size w5 w6) (hap : Appd eS w6 w7 B vw v7 (Sw.map (·.1)) [s2]) :
    Added e eS w (w7.setCell ⟨bk, off + 1, none⟩ v7) bk off B vo vw S Sw s l v4 v7 s2 := by
  have hbk : bk < w4.heap.size := World.block_lt_of_cell? _ _ m.c0
  have hb46 : Below w4.heap.size w4 w6 := hb5.trans (hb6.mono hb5.size)
  have t46 : Tn (fun _ => False) w4 w6 := Tn.ofBelow hb46
  have hB4 : B ≤ w4.heap.size := Nat.le_trans hB m.tn.size
  have hl6 := m.ls.tn t46 (fun _ _ e => e)
  have hlw6 := m.lw.tn t46 (fun _ _ e => e)
  have hs6 : Own e w6 B s2.val l := row_mono (row_below hs2 hb6) hB4
  have hlt2 : ∀ q, s2.val.ownBlock = some q → w4.heap.size ≤ q := fun q hq => (hs2.lt q hq).1
  have ht7 : Tn (fun q => vw.ownBlock = some q) w6 w7 := hap.tn
  have hbkw : ¬ (vw.ownBlock = some bk) := fun hq => by have := (m.lw.outer.lt bk hq).1; have := m.bk0; omega
  have hbk6 : bk < w6.heap.size := Nat.lt_of_lt_of_le hbk hb46.size
  have ht8 : Tn (fun q => q = bk) w7 (w7.setCell ⟨bk, off + 1, none⟩ v7) := Tn.setCell _ _ _ rfl
  have hlw7 : Lst e eS w7 B v7 (Sw ++ [(s2, l)]) := hlw6.add hs6 (fun q hq hf => by have := (m.lw.lt hf).2; have := hlt2 q hq; omega) hap
  have hl7 := hl6.tn ht7 (fun q hq hv => m.apart q hq (.inl hv))
  have hfresh : ∀ q, v7.ownBlock = some q → vw.ownBlock = some q ∨ w4.heap.size ≤ q := fun q hq => by
    rcases hap.block with hb | hb
    · exact .inl (hb ▸ hq)
    · exact .inr (Nat.le_trans hb46.size (hb q hq))
  have hfw : ∀ q, footL v7 (Sw ++ [(s2, l)]) q → footL vw Sw q ∨ w4.heap.size ≤ q := fun q hq => by
    rcases footL_add hfresh hq with h | h | h
    · exact .inl h
    · exact .inr (hlt2 q h)
    · exact .inr h
  have hsz := m.tn.size
  have hc1 : w7.cell? ⟨bk, off + 1, none⟩ = some vw := ht7.cell (t46.cell m.c1 (fun e => e)) hbkw
  refine ⟨⟨?_, World.cell?_setCell_same _ _ _ hc1, hl7.tn ht8 (fun q hq e => ?_), hlw7.tn ht8 (fun q hq e => ?_), ?_, fun q hq hw => ?_, m.bk0, fun j => ?_⟩, fun o ho ho1 => ?_, ?_, fun q hq => ?_, (((m.tnO.mono (fun q hq => hq.elim .inl (fun h => .inr (.inl h)))).trans (t46.mono (fun _ e => e.elim))).trans (ht7.mono (fun q hq => .inr (.inr hq)))).trans (ht8.mono (fun q hq => .inl hq)), fun q hq => Nat.le_trans hsz (hlt2 q hq), m.outO, fun q hq => (hfresh q hq).imp id (fun h => Nat.le_trans hsz h)⟩
  · rw [World.cell?_setCell_other _ _ _ _ (by intro e; injection e with _ e2; omega)]
    exact ht7.cell (t46.cell m.c0 (fun e => e)) hbkw
  · have := (hl7.lt hq).1; have := m.bk0; omega
  · have := (hlw7.lt hq).1; have := m.bk0; omega
  · rw [List.map_append, List.map_append, m.same]; rfl
  · rcases hfw q hw with h | h
    · exact m.apart q hq h
    · have := (m.ls.lt hq).2; omega
  · rw [World.frozen?_setCell]
    exact (ht7.frozen (p := ⟨bk, j, none⟩) hbk6 hbkw).trans ((t46.frozen (p := ⟨bk, j, none⟩) hbk (fun e => e)).trans (m.free j))
  · rw [World.cell?_setCell_other _ _ _ _ (by intro e; injection e with _ e2; omega)]
    have g1 : w7.cell? ⟨bk, o, none⟩ = w6.cell? ⟨bk, o, none⟩ := World.cell?_of_block (ht7.block bk hbk6 hbkw)
    rw [g1, World.cell?_of_block (t46.block bk hbk (fun e => e))]
    exact m.other o ho
  · exact (((m.tn.mono (fun q hq => hq.elim .inl (fun h => .inr (.inl h)))).trans (t46.mono (fun _ e => e.elim))).trans (ht7.mono (fun q hq => .inr (.inr (.inl hq))))).trans (ht8.mono (fun q hq => .inl hq))
  · rcases hq with hq | hq
    · rcases m.foot q hq with h | h | h
      · exact .inl h
      · exact .inr (.inr (.inl h))
      · exact .inr (.inr (.inr h))
    · rcases hfw q hq with h | h
      · exact .inr (.inl h)
      · exact .inr (.inr (.inr (by omega)))
end
end Go.Proofs.YtnegappgdpeabaaGreat
/-
  Book: marks are laid, whatever the kind.
-/
namespace Go.Proofs.YtnegappgdpeabaaGreat
open Go.RowKit

section
variable {P : Program} {T E TS : TypeId} {k by_ : Nat} {α : Type} {cell : α → List Value} {e : Elm P T E k by_ cell} {eS : Elm P TS T 1 24 sCell}

def marks {α : Type} (mk : Nat → Nat → α) (i from_ n : Nat) : List α := (List.range n).map (fun t => mk i (from_ + t))
theorem marks_len {α : Type} (mk : Nat → Nat → α) (i from_ n : Nat) : (marks mk i from_ n).length = n := by simp [marks]
theorem marks_succ {α : Type} (mk : Nat → Nat → α) (i from_ n : Nat) : marks mk i from_ (n + 1) = marks mk i from_ n ++ [mk i (from_ + n)] := by
  unfold marks
  rw [List.range_succ, List.map_append]
  rfl
theorem marks_app {α : Type} (mk : Nat → Nat → α) (i n m : Nat) : marks mk i 0 n ++ marks mk i n m = marks mk i 0 (n + m) := by
  induction m with
  | zero => simp [marks]
  | succ m ih => rw [marks_succ, ← List.append_assoc, ih, ← Nat.add_assoc, marks_succ, Nat.zero_add]
theorem marks_get {α : Type} (mk : Nat → Nat → α) (i n j : Nat) (h : j < n) : (marks mk i 0 n)[j]? = some (mk i j) := by simp [marks, h]

theorem footL_congr {vo : Value} {S S' : List (Sl × List α)} (h : S.map (·.1) = S'.map (·.1)) (q : Nat) (hq : footL vo S q) : footL vo S' q := by
  rcases hq with hq | ⟨i, hi, hq⟩
  · exact .inl hq
  · have hl : S.length = S'.length := by simpa using congrArg List.length h
    have hi' : i < S'.length := hl ▸ hi
    refine .inr ⟨i, hi', ?_⟩
    have h1 := congrArg (fun l => l[i]?) h
    simp only [List.getElem?_map, List.getElem?_eq_getElem hi, List.getElem?_eq_getElem hi', Option.map_some, Option.some.injEq] at h1
    rw [← h1]
    exact hq

/-- The contents of the list number i are others now. -/
def relist {α : Type} (S : List (Sl × List α)) (i : Nat) (l : List α) : List (Sl × List α) := S.modify i (fun p => (p.1, l))
theorem relist_len {α : Type} (S : List (Sl × List α)) (i : Nat) (l : List α) : (relist S i l).length = S.length := by simp [relist]
theorem relist_fst {α : Type} (S : List (Sl × List α)) (i : Nat) (l : List α) : (relist S i l).map (·.1) = S.map (·.1) := by
  apply List.ext_getElem?
  intro j
  simp only [relist, List.getElem?_map, List.getElem?_modify]
  cases S[j]? with
  | none => rfl
  | some p => by_cases h : i = j <;> simp [h]
theorem relist_get {α : Type} (S : List (Sl × List α)) (i j : Nat) (l : List α) (hj : j < (relist S i l).length) (hj' : j < S.length) : (relist S i l)[j] = (S[j].1, if i = j then l else S[j].2) := by
  have h : (relist S i l)[j]? = some (S[j].1, if i = j then l else S[j].2) := by
    simp only [relist, List.getElem?_modify, List.getElem?_eq_getElem hj']
    by_cases h : i = j
    · subst h; simp
    · simp [h]
  exact (List.getElem?_eq_some_iff.1 h).2
theorem relist_twice {α : Type} (S : List (Sl × List α)) (i : Nat) (l l2 : List α) : relist (relist S i l) i l2 = relist S i l2 := by
  apply List.ext_getElem?
  intro j
  simp only [relist, List.getElem?_modify]
  cases S[j]? with
  | none => rfl
  | some p => by_cases h : i = j <;> simp [h]
theorem relist_same {α : Type} (S : List (Sl × List α)) (i : Nat) (hi : i < S.length) : relist S i S[i].2 = S := by
  apply List.ext_getElem?
  intro j
  simp only [relist, List.getElem?_modify]
  by_cases h : i = j
  · subst h; simp [List.getElem?_eq_getElem hi]
  · cases S[j]? <;> simp [h]

/-- What becomes of a stand when blocks of the list number i alone turn. -/
theorem Lst.relist {w w' : World} {B : Nat} {vo : Value} {S : List (Sl × List α)} (h : Lst e eS w B vo S) {i : Nat} (hi : i < S.length) (ht : Tn (fun q => S[i].1.val.ownBlock = some q) w w') {l : List α} (ho : Own e w' B S[i].1.val l) : Lst e eS w' B vo (relist S i l) := by
  have hlen := relist_len S i l
  refine ⟨?_, fun j hj => ?_, fun j hj q hq => ?_, fun j m hj hm hjm q hq => ?_⟩
  · rw [relist_fst]
    exact ht.row h.outer (fun q hq h2 => h.sepO i hi q hq h2)
  · rw [relist_get S i j l hj (hlen ▸ hj)]
    by_cases hij : i = j
    · subst hij; simpa using ho
    · simp only [hij, if_false]
      exact ht.row (h.each j (hlen ▸ hj)) (fun q hq h2 => h.sepE i j hi (hlen ▸ hj) hij q h2 hq)
  · rw [relist_get S i j l hj (hlen ▸ hj)]
    exact h.sepO j (hlen ▸ hj) q hq
  · rw [relist_get S i j l hj (hlen ▸ hj)] at hq
    rw [relist_get S i m l hm (hlen ▸ hm)]
    exact h.sepE j m (hlen ▸ hj) (hlen ▸ hm) hjm q hq

/-- The first i lists are marked. -/
def mset {α : Type} (mk : Nat → Nat → α) (i : Nat) (S : List (Sl × List α)) : List (Sl × List α) := S.mapIdx (fun j p => if j < i then (p.1, marks mk j 0 p.2.length) else p)
theorem mset_len {α : Type} (mk : Nat → Nat → α) (i : Nat) (S : List (Sl × List α)) : (mset mk i S).length = S.length := by simp [mset]
theorem mset_zero {α : Type} (mk : Nat → Nat → α) (S : List (Sl × List α)) : mset mk 0 S = S := by
  apply List.ext_getElem?
  intro j
  simp only [mset, List.getElem?_mapIdx]
  cases S[j]? <;> simp
theorem mset_get {α : Type} (mk : Nat → Nat → α) (i j : Nat) (S : List (Sl × List α)) (hj : j < (mset mk i S).length) (hj' : j < S.length) : (mset mk i S)[j] = (S[j].1, if j < i then marks mk j 0 S[j].2.length else S[j].2) := by
  simp only [mset, List.getElem_mapIdx]
  split <;> rfl
theorem mset_fst {α : Type} (mk : Nat → Nat → α) (i : Nat) (S : List (Sl × List α)) : (mset mk i S).map (·.1) = S.map (·.1) := by
  apply List.ext_getElem?
  intro j
  simp only [mset, List.getElem?_map, List.getElem?_mapIdx]
  cases S[j]? with
  | none => rfl
  | some p => simp only [Option.map_some]; split <;> rfl
theorem mset_succ {α : Type} (mk : Nat → Nat → α) (i : Nat) (S : List (Sl × List α)) (hi : i < S.length) : relist (mset mk i S) i (marks mk i 0 S[i].2.length) = mset mk (i + 1) S := by
  apply List.ext_getElem?
  intro j
  simp only [relist, mset, List.getElem?_modify, List.getElem?_mapIdx]
  by_cases hij : i = j
  · subst hij
    simp [List.getElem?_eq_getElem hi]
  · cases S[j]? with
    | none => rfl
    | some p =>
      simp only [Option.map_some, hij, if_false]
      by_cases h : j < i
      · simp [h, Nat.lt_succ_of_lt h]
      · have h2 : ¬ j < i + 1 := by omega
        simp [h, h2]
theorem mark_over {α : Type} (mk : Nat → Nat → α) (i j : Nat) (l : List α) (h : j < l.length) : (marks mk i 0 j ++ l.drop j).set j (mk i j) = marks mk i 0 (j + 1) ++ l.drop (j + 1) := by
  rw [List.set_append_right _ _ (by rw [marks_len]; omega), marks_len, Nat.sub_self, marks_succ, Nat.zero_add, List.append_assoc]
  congr 1
  rw [List.drop_eq_getElem_cons h]
  rfl
/-- Every list is marked. -/
def Mkd {α : Type} (mk : Nat → Nat → α) (S : List (Sl × List α)) : Prop := ∀ i (hi : i < S.length), S[i].2 = marks mk i 0 S[i].2.length
theorem mset_all {α : Type} (mk : Nat → Nat → α) (S : List (Sl × List α)) : Mkd mk (mset mk S.length S) := by
  intro i hi
  have hi' : i < S.length := by rwa [mset_len] at hi
  rw [mset_get mk S.length i S hi hi', if_pos hi', marks_len]
end
end Go.Proofs.YtnegappgdpeabaaGreat
/-
  Book: a slice of a stand; draws add up (whatever the kind).
-/
namespace Go.Proofs.YtnegappgdpeabaaGreat
open Go.RowKit

theorem quiet_add {P : Program} {f : FuncId} {args : Array Value} {w : World} {a n : Nat} {v : Value}
    (h : Calls P f args (w.drewN (a + n)) fun e w' => e = .returned v ∧ ∃ m, w' = (w.drewN (a + n)).drewN m) :
    Calls P f args (w.drewN (a + n)) fun e w'' => e = .returned v ∧ ∃ m, w'' = w.drewN (a + m) :=
  h.mono fun _ _ ⟨he, m, hm⟩ => ⟨he, n + m, by rw [hm, World.drewN_drewN, Nat.add_assoc]⟩

/-- The slice number i of a stand. -/
theorem Lst.at_ {P : Program} {T E TS : TypeId} {k by_ : Nat} {α : Type} {cell : α → List Value} {e : Elm P T E k by_ cell} {eS : Elm P TS T 1 24 sCell} {w : World} {B n cap : Nat} {a : Option Addr} {S : List (Sl × List α)} (h : Lst e eS w B (.slice a n cap) S) {i : Nat} (hi : i < S.length) :
    ∃ g sa sc, a = some ⟨g, 0, none⟩ ∧ w.cell? ⟨g, i, none⟩ = some (.slice sa S[i].2.length sc) ∧ S[i].1.val = .slice sa S[i].2.length sc := by
  obtain ⟨g, cap', hv, hc⟩ := h.read hi
  obtain ⟨sa, sc, hs, _, _⟩ := row_form (h.each i hi)
  exact ⟨g, sa, sc, (Value.slice.inj hv).1, by rw [hc, hs], hs⟩

end Go.Proofs.YtnegappgdpeabaaGreat
/-
  Book: lists are grown, whatever the kind.
-/
namespace Go.Proofs.YtnegappgdpeabaaGreat
open Go.RowKit

section
variable {P : Program} {T E TS : TypeId} {k by_ : Nat} {α : Type} {cell : α → List Value} {e : Elm P T E k by_ cell} {eS : Elm P TS T 1 24 sCell}

/-- A slice that is a longer one's beginning stays when that is appended to. -/
theorem keep_old {w w' : World} {B : Nat} {s v v' : Value} {l1 l2 l3 : List α} (hs : Own e w B s l1) (hv : Own e w B v (l1 ++ l2)) (hap : Appd e w w' B v v' (l1 ++ l2) l3) : Own e w' B s l1 := by
  by_cases hb : ∃ q, s.ownBlock = some q ∧ v.ownBlock = some q
  · obtain ⟨q, h1, h2⟩ := hb
    have hold := hap.old
    have hs0 := hs
    obtain ⟨hsl, hs⟩ := hs
    obtain ⟨hvl, hv⟩ := hv
    rcases hs with ⟨rfl, _⟩ | ⟨g1, c1, cur1, rfl, b1, o1, n1, m1, z1, t1⟩
    · cases h1
    · rcases hv with ⟨rfl, _⟩ | ⟨g2, c2, cur2, rfl, b2, o2, n2, m2, z2, t2⟩
      · cases h2
      · obtain rfl : g1 = q := by injection h1
        obtain rfl : g2 = g1 := by injection h2
        rw [o1] at o2
        injection o2 with o2
        injection o2 with o2
        subst o2
        have hcap : c1 = c2 := by
          have hk := e.pos
          have : c1 * k = c2 * k := z1.symm.trans z2
          exact Nat.eq_of_mul_eq_mul_right hk this
        subst hcap
        have hlen : (l1 ++ l2).length = l1.length + l2.length := List.length_append
        show World.ownsRow _ _ _ _ _ _ _
        have h9 : w'.ownsRow B E k (.slice (some ⟨g2, 0, none⟩) (l1.length + l2.length) c1) (l1.length + l2.length) (l1.flatMap cell ++ l2.flatMap cell) := by
          rw [← hlen, ← List.flatMap_append]
          exact hold
        exact row_prefix h9 (e.lens l1)
  · exact hap.tn.row hs (fun q hq h2 => hb ⟨q, hq, h2⟩)

/-- Lists are being grown: i of them are. -/
structure Grow (e : Elm P T E k by_ cell) (eS : Elm P TS T 1 24 sCell) (mk : Nat → Nat → α) (w0 wr : World) (B : Nat) (vo : Value) (S : List (Sl × List α)) (outv : Value) (Sg : List (Sl × List α)) (i : Nat) : Prop where
  l0 : Lst e eS w0 B vo S
  l : Lst e eS wr B vo S
  g : Lst e eS wr B outv Sg
  len : Sg.length = i
  mkd : ∀ j (hj : j < Sg.length) (hj' : j < S.length), Sg[j].2 = marks mk j 0 (S[j].2.length + 72)
  freshO : ∀ q, outv.ownBlock = some q → w0.heap.size ≤ q
  freshE : ∀ j (hj : j < Sg.length) q, Sg[j].1.val.ownBlock = some q → (∃ hj' : j < S.length, S[j].1.val.ownBlock = some q) ∨ w0.heap.size ≤ q
  tn : Tn (footL vo S) w0 wr
/-- The list number i is being grown: t marks more. -/
structure GrowIn (e : Elm P T E k by_ cell) (eS : Elm P TS T 1 24 sCell) (mk : Nat → Nat → α) (w0 wr : World) (B : Nat) (vo : Value) (S : List (Sl × List α)) (outv : Value) (Sg : List (Sl × List α)) (i : Nat) (lv : Value) (t : Nat) : Prop where
  gr : Grow e eS mk w0 wr B vo S outv Sg i
  hi : i < S.length
  own : Own e wr B lv (marks mk i 0 (S[i].2.length + t))
  pl : ∀ q, lv.ownBlock = some q → S[i].1.val.ownBlock = some q ∨ w0.heap.size ≤ q
  nf : ∀ q, lv.ownBlock = some q → ¬ footL outv Sg q

variable {mk : Nat → Nat → α} {w0 wr w' : World} {B : Nat} {vo outv : Value} {S Sg : List (Sl × List α)} {i : Nat}
theorem Grow.start (h : Lst e eS w0 B vo S) : Grow e eS mk w0 w0 B vo S (.slice none 0 0) [] 0 :=
  ⟨h, h, Lst.nil _ _, rfl, (fun j hj => by simp at hj), (fun q hq => by cases hq), (fun j hj => by simp at hj), Tn.refl _ _⟩
theorem Grow.below (h : Grow e eS mk w0 wr B vo S outv Sg i) (hb : Below wr.heap.size wr w') : Grow e eS mk w0 w' B vo S outv Sg i :=
  ⟨h.l0, h.l.below hb, h.g.below hb, h.len, h.mkd, h.freshO, h.freshE, h.tn.trans (Tn.ofBelow hb)⟩
theorem GrowIn.below {lv : Value} {t : Nat} (h : GrowIn e eS mk w0 wr B vo S outv Sg i lv t) (hb : Below wr.heap.size wr w') : GrowIn e eS mk w0 w' B vo S outv Sg i lv t :=
  ⟨h.gr.below hb, h.hi, row_below h.own hb, h.pl, h.nf⟩
theorem Grow.in_ (h : Grow e eS mk w0 wr B vo S outv Sg i) (hi : i < S.length) (hm : Mkd mk S) : GrowIn e eS mk w0 wr B vo S outv Sg i S[i].1.val 0 := by
  refine ⟨h, hi, ?_, fun q hq => .inl hq, fun q hq hf => ?_⟩
  · rw [Nat.add_zero, ← hm i hi]
    exact h.l.each i hi
  · have hlt := (h.l0.lt (.inr ⟨i, hi, hq⟩)).2
    rcases hf with hf | ⟨j, hj, hf⟩
    · have := h.freshO q hf; omega
    · rcases h.freshE j hj q hf with ⟨hj', h2⟩ | h2
      · exact h.l0.sepE i j hi hj' (by have := h.len; omega) q hq h2
      · omega
theorem GrowIn.step {lv lv' : Value} {t m : Nat} {w2 : World} (h : GrowIn e eS mk w0 wr B vo S outv Sg i lv t) (hmk : Mkd mk S) (hap : Appd e wr w2 B lv lv' (marks mk i 0 (S[i]'h.hi).2.length ++ marks mk i (S[i]'h.hi).2.length t) (marks mk i ((S[i]'h.hi).2.length + t) m)) :
    GrowIn e eS mk w0 w2 B vo S outv Sg i lv' (t + m) := by
  have hi := h.hi
  have hownv : Own e wr B lv (marks mk i 0 S[i].2.length ++ marks mk i S[i].2.length t) := by rw [marks_app]; exact h.own
  have hsep : ∀ q, lv.ownBlock = some q → vo.ownBlock ≠ some q ∧ ∀ j (hj : j < S.length), j ≠ i → S[j].1.val.ownBlock ≠ some q := fun q hq => by
    rcases h.pl q hq with h1 | h1
    · exact ⟨fun h2 => h.gr.l0.sepO i hi q h2 h1, fun j hj hji h2 => h.gr.l0.sepE j i hj hi hji q h2 h1⟩
    · exact ⟨fun h2 => by have := (h.gr.l0.lt (.inl h2)).2; omega, fun j hj hji h2 => by have := (h.gr.l0.lt (.inr ⟨j, hj, h2⟩)).2; omega⟩
  have hS : Lst e eS w2 B vo S := by
    refine ⟨hap.tn.row h.gr.l.outer (fun q hq h2 => (hsep q h2).1 hq), fun j hj => ?_, h.gr.l.sepO, h.gr.l.sepE⟩
    by_cases hji : j = i
    · subst hji
      have h5 := h.gr.l.each j hi
      rw [hmk j hi] at h5 ⊢
      exact keep_old h5 hownv hap
    · exact hap.tn.row (h.gr.l.each j hj) (fun q hq h2 => (hsep q h2).2 j hj hji hq)
  have hG : Lst e eS w2 B outv Sg := h.gr.g.tn hap.tn (fun q hq h2 => h.nf q h2 hq)
  refine ⟨⟨h.gr.l0, hS, hG, h.gr.len, h.gr.mkd, h.gr.freshO, h.gr.freshE, h.gr.tn.andThen hap.tn (fun q hq => (h.pl q hq).imp (fun h1 => .inr ⟨i, hi, h1⟩) id)⟩, hi, ?_, fun q hq => ?_, fun q hq hf => ?_⟩
  · have h6 := hap.own
    rw [marks_app, marks_app] at h6
    rw [← Nat.add_assoc]
    exact h6
  · rcases hap.block with hb | hb
    · exact h.pl q (hb ▸ hq)
    · exact .inr (Nat.le_trans h.gr.tn.size (hb q hq))
  · rcases hap.block with hb | hb
    · exact h.nf q (hb ▸ hq) hf
    · have := (h.gr.g.lt hf).2; have := hb q hq; omega
theorem GrowIn.done {s : Sl} {outv' : Value} {w2 : World} (h : GrowIn e eS mk w0 wr B vo S outv Sg i s.val 72) (hap : Appd eS wr w2 B outv outv' (Sg.map (·.1)) [s]) :
    Grow e eS mk w0 w2 B vo S outv' (Sg ++ [(s, marks mk i 0 ((S[i]'h.hi).2.length + 72))]) (i + 1) := by
  have hi := h.hi
  have hfr : ∀ q, outv.ownBlock = some q → w0.heap.size ≤ q := h.gr.freshO
  refine ⟨h.gr.l0, h.gr.l.tn hap.tn (fun q hq h2 => ?_), h.gr.g.add h.own h.nf hap, by rw [List.length_append, h.gr.len]; rfl, fun j hj hj' => ?_, fun q hq => ?_, fun j hj q hq => ?_, h.gr.tn.andThen hap.tn (fun q hq => .inr (hfr q hq))⟩
  · have := (h.gr.l0.lt hq).2; have := hfr q h2; omega
  · rcases Nat.lt_or_ge j Sg.length with h1 | h1
    · rw [List.getElem_append_left h1]; exact h.gr.mkd j h1 hj'
    · have hjl : j < Sg.length + 1 := by simpa using hj
      obtain rfl : j = i := by have := h.gr.len; omega
      rw [List.getElem_append_right (by rw [h.gr.len]; omega)]
      simp [h.gr.len]
  · rcases hap.block with hb | hb
    · exact hfr q (hb ▸ hq)
    · exact Nat.le_trans h.gr.tn.size (hb q hq)
  · rcases Nat.lt_or_ge j Sg.length with h1 | h1
    · rw [List.getElem_append_left h1] at hq; exact h.gr.freshE j h1 q hq
    · have hjl : j < Sg.length + 1 := by simpa using hj
      obtain rfl : j = i := by have := h.gr.len; omega
      rw [List.getElem_append_right (by rw [h.gr.len]; omega)] at hq
      simp only [h.gr.len, Nat.sub_self, List.getElem_cons_zero] at hq
      exact (h.pl q hq).imp (fun h2 => ⟨hi, h2⟩) id
/-- The grown lists are marked. -/
theorem Grow.mkd_all (h : Grow e eS mk w0 wr B vo S outv Sg S.length) : Mkd mk Sg := by
  intro j hj
  have hj' : j < S.length := h.len ▸ hj
  rw [h.mkd j hj hj', marks_len]
end
end Go.Proofs.YtnegappgdpeabaaGreat
