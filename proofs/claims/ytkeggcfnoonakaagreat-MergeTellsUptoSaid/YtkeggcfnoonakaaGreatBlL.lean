/-
  Book: the kind Lists: what was kept and the copies, the same but for where the lists in them lie.
-/
import Derived.Test.YtkeggcfnoonakaaGreatBk2
import Derived.Test.YtkeggcfnoonakaaGreatBkKeys
set_option linter.unusedSimpArgs false
set_option linter.unusedVariables false
namespace Go.Proofs.YtkeggcfnoonakaaGreat
open Go.RowKit

/-- A list in a list: its slice, and what it holds. -/
abbrev LK := Sl × List KV
def cLK (p : LK) : List Value := [p.1.val]
def coreK (p : LK) : List KV := p.2
section
variable {P : Program} {T E TS : TypeId} {k by_ : Nat} {cell : LK → List Value} {e : Elm P T E k by_ cell} {eS : Elm P TS T 1 24 sCell} {w w' : World} {B : Nat} {vo : Value} {S : List (Sl × List LK)}

/-- A kind of the book: what was kept, and the copies. -/
structure KdL (e : Elm P T E k by_ cell) (eS : Elm P TS T 1 24 sCell) (w : World) (bk off B : Nat) (vo vw : Value) (S Sw : List (Sl × List LK)) : Prop where
  c0 : w.cell? ⟨bk, off, none⟩ = some vo
  c1 : w.cell? ⟨bk, off + 1, none⟩ = some vw
  l : Lst e eS w B vo S
  lw : Lst e eS w B vw Sw
  same : Sw.map (fun p => p.2.map coreK) = S.map (fun p => p.2.map coreK)
  apart : ∀ q, footL vo S q → ¬ footL vw Sw q
  bk0 : bk < B
  free : ∀ j, w.frozen? ⟨bk, j, none⟩ = false
theorem KdL.tn {bk off : Nat} {vw : Value} {Sw : List (Sl × List LK)} (h : KdL e eS w bk off B vo vw S Sw) {G : Nat → Prop} (ht : Tn G w w') (hb : ¬ G bk) (hG : ∀ q, footL vo S q ∨ footL vw Sw q → ¬ G q) : KdL e eS w' bk off B vo vw S Sw :=
  ⟨ht.cell h.c0 hb, ht.cell h.c1 hb, h.l.tn ht (fun q hq => hG q (.inl hq)), h.lw.tn ht (fun q hq => hG q (.inr hq)), h.same, h.apart, h.bk0, fun j => (ht.frozen (p := ⟨bk, j, none⟩) (World.block_lt_of_cell? w ⟨bk, off, none⟩ h.c0) hb).trans (h.free j)⟩
/-- What one list more makes of a kind. -/
structure AddedL (e : Elm P T E k by_ cell) (eS : Elm P TS T 1 24 sCell) (w w' : World) (bk off B : Nat) (vo vw : Value) (S Sw : List (Sl × List LK)) (s : Sl) (l : List LK) (vo' vw' : Value) (s2 : Sl) (l2 : List LK) : Prop where
  kd : KdL e eS w' bk off B vo' vw' (S ++ [(s, l)]) (Sw ++ [(s2, l2)])
  other : ∀ o, o ≠ off → o ≠ off + 1 → w'.cell? ⟨bk, o, none⟩ = w.cell? ⟨bk, o, none⟩
  tn : Tn (fun q => q = bk ∨ footL vo S q ∨ footL vw Sw q) w w'
  foot : ∀ q, footL vo' (S ++ [(s, l)]) q ∨ footL vw' (Sw ++ [(s2, l2)]) q → footL vo S q ∨ footL vw Sw q ∨ s.val.ownBlock = some q ∨ w.heap.size ≤ q
  tnO : Tn (fun q => q = bk ∨ vo.ownBlock = some q ∨ vw.ownBlock = some q) w w'
  new2 : ∀ q, s2.val.ownBlock = some q → w.heap.size ≤ q
  outO : ∀ q, vo'.ownBlock = some q → vo.ownBlock = some q ∨ w.heap.size ≤ q
  outW : ∀ q, vw'.ownBlock = some q → vw.ownBlock = some q ∨ w.heap.size ≤ q
/-- Half of it. -/
structure AddMidL (e : Elm P T E k by_ cell) (eS : Elm P TS T 1 24 sCell) (w w' : World) (bk off B : Nat) (vo vw : Value) (S Sw : List (Sl × List LK)) (s : Sl) (l : List LK) (vo' : Value) : Prop where
  ls : Lst e eS w' B vo' (S ++ [(s, l)])
  lw : Lst e eS w' B vw Sw
  same : Sw.map (fun p => p.2.map coreK) = S.map (fun p => p.2.map coreK)
  c0 : w'.cell? ⟨bk, off, none⟩ = some vo'
  c1 : w'.cell? ⟨bk, off + 1, none⟩ = some vw
  bk0 : bk < B
  free : ∀ j, w'.frozen? ⟨bk, j, none⟩ = false
  hs : Own e w' B s.val l
  tn : Tn (fun q => q = bk ∨ footL vo S q) w w'
  foot : ∀ q, footL vo' (S ++ [(s, l)]) q → footL vo S q ∨ s.val.ownBlock = some q ∨ w.heap.size ≤ q
  apart : ∀ q, footL vo' (S ++ [(s, l)]) q → ¬ footL vw Sw q
  other : ∀ o, o ≠ off → w'.cell? ⟨bk, o, none⟩ = w.cell? ⟨bk, o, none⟩
  tnO : Tn (fun q => q = bk ∨ vo.ownBlock = some q) w w'
  outO : ∀ q, vo'.ownBlock = some q → vo.ownBlock = some q ∨ w.heap.size ≤ q

theorem add_midL {w W1 w3 : World} {bk off B : Nat} {vo vw v3 : Value} {S Sw : List (Sl × List LK)} {s : Sl} {l : List LK} (h : KdL e eS w bk off B vo vw S Sw) (hs : Own e w B s.val l) (hne : ∀ q, s.val.ownBlock = some q → ¬ footL vo S q ∧ ¬ footL vw Sw q)
    (hb1 : Below w.heap.size w W1) (hap : Appd eS W1 w3 B vo v3 (S.map (·.1)) [s]) : AddMidL e eS w (w3.setCell ⟨bk, off, none⟩ v3) bk off B vo vw S Sw s l v3 := by
  have hbk : bk < w.heap.size := World.block_lt_of_cell? _ _ h.c0
  have h1 := h.tn (Tn.ofBelow (F := fun _ => False) hb1) (fun e => e) (fun _ _ e => e)
  have hs1 : Own e W1 B s.val l := row_below hs hb1
  have hvb : ∀ q, vo.ownBlock = some q → q ≠ bk := fun q hq e => by have := (h1.l.outer.lt q hq).1; have := h.bk0; omega
  have ht3 : Tn (fun q => vo.ownBlock = some q) W1 w3 := hap.tn
  have hbk1 : bk < W1.heap.size := Nat.lt_of_lt_of_le hbk hb1.size
  have hbkv : ¬ (vo.ownBlock = some bk) := fun hq => hvb bk hq rfl
  have ht4 : Tn (fun q => q = bk) w3 (w3.setCell ⟨bk, off, none⟩ v3) := Tn.setCell _ _ _ rfl
  have hl3 : Lst e eS w3 B v3 (S ++ [(s, l)]) := h1.l.add hs1 (fun q hq => (hne q hq).1) hap
  have hw3 : Lst e eS w3 B vw Sw := h1.lw.tn ht3 (fun q hq hv => h.apart q (.inl hv) hq)
  have hfresh : ∀ q, v3.ownBlock = some q → vo.ownBlock = some q ∨ w.heap.size ≤ q := fun q hq => by
    rcases hap.block with hb | hb
    · exact .inl (hb ▸ hq)
    · exact .inr (Nat.le_trans hb1.size (hb q hq))
  have hc3 : w3.cell? ⟨bk, off, none⟩ = some vo := ht3.cell h1.c0 hbkv
  have hfoot : ∀ q, footL v3 (S ++ [(s, l)]) q → footL vo S q ∨ s.val.ownBlock = some q ∨ w.heap.size ≤ q := fun q hq => footL_add hfresh hq
  refine ⟨hl3.tn ht4 (fun q hq e => ?_), hw3.tn ht4 (fun q hq e => ?_), h.same, World.cell?_setCell_same _ _ _ hc3, ?_, h.bk0, fun j => ?_, ?_, ?_, hfoot, fun q hq hw => ?_, fun o ho => ?_, ((Tn.ofBelow (F := fun q => q = bk ∨ vo.ownBlock = some q) hb1).trans (ht3.mono (fun q hq => .inr hq))).trans (ht4.mono (fun q hq => .inl hq)), hfresh⟩
  · have := (hl3.lt hq).1; have := h.bk0; omega
  · have := (hw3.lt hq).1; have := h.bk0; omega
  · rw [World.cell?_setCell_other _ _ _ _ (by intro e; injection e with _ e2; omega)]
    exact ht3.cell h1.c1 hbkv
  · rw [World.frozen?_setCell]
    exact (ht3.frozen (p := ⟨bk, j, none⟩) hbk1 hbkv).trans (h1.free j)
  · exact ht4.row (ht3.row hs1 (fun q hq hv => (hne q hq).1 (.inl hv))) (fun q hq e => by have := (hs1.lt q hq).1; have := h.bk0; omega)
  · exact ((Tn.ofBelow (F := fun q => q = bk ∨ footL vo S q) hb1).trans (ht3.mono (fun q hq => .inr (.inl hq)))).trans (ht4.mono (fun q hq => .inl hq))
  · rcases hfoot q hq with h9 | h9 | h9
    · exact h.apart q h9 hw
    · exact (hne q h9).2 hw
    · have := (h.lw.lt hw).2; omega
  · rw [World.cell?_setCell_other _ _ _ _ (by intro e; injection e with _ e2; exact ho e2.symm)]
    have g1 : w3.cell? ⟨bk, o, none⟩ = W1.cell? ⟨bk, o, none⟩ := World.cell?_of_block (ht3.block bk hbk1 hbkv)
    rw [g1]
    exact hb1.cell (p := ⟨bk, o, none⟩) hbk

theorem add_endL {w w4 w5 w6 w7 : World} {bk off B : Nat} {vo vw v4 v7 : Value} {S Sw : List (Sl × List LK)} {s s2 : Sl} {l l2 : List LK} (hcr : l2.map coreK = l.map coreK) (m : AddMidL e eS w w4 bk off B vo vw S Sw s l v4) (hB : B ≤ w.heap.size)
    (hs2 : Own e w5 w4.heap.size s2.val l2) (hb5 : Below w4.heap.size w4 w5) (hb6 : Below w5.heap.size w5 w6) (hap : Appd eS w6 w7 B vw v7 (Sw.map (·.1)) [s2]) :
    AddedL e eS w (w7.setCell ⟨bk, off + 1, none⟩ v7) bk off B vo vw S Sw s l v4 v7 s2 l2 := by
  have hbk : bk < w4.heap.size := World.block_lt_of_cell? _ _ m.c0
  have hb46 : Below w4.heap.size w4 w6 := hb5.trans (hb6.mono hb5.size)
  have t46 : Tn (fun _ => False) w4 w6 := Tn.ofBelow hb46
  have hB4 : B ≤ w4.heap.size := Nat.le_trans hB m.tn.size
  have hl6 := m.ls.tn t46 (fun _ _ e => e)
  have hlw6 := m.lw.tn t46 (fun _ _ e => e)
  have hs6 : Own e w6 B s2.val l2 := row_mono (row_below hs2 hb6) hB4
  have hlt2 : ∀ q, s2.val.ownBlock = some q → w4.heap.size ≤ q := fun q hq => (hs2.lt q hq).1
  have ht7 : Tn (fun q => vw.ownBlock = some q) w6 w7 := hap.tn
  have hbkw : ¬ (vw.ownBlock = some bk) := fun hq => by have := (m.lw.outer.lt bk hq).1; have := m.bk0; omega
  have hbk6 : bk < w6.heap.size := Nat.lt_of_lt_of_le hbk hb46.size
  have ht8 : Tn (fun q => q = bk) w7 (w7.setCell ⟨bk, off + 1, none⟩ v7) := Tn.setCell _ _ _ rfl
  have hlw7 : Lst e eS w7 B v7 (Sw ++ [(s2, l2)]) := hlw6.add hs6 (fun q hq hf => by have := (m.lw.lt hf).2; have := hlt2 q hq; omega) hap
  have hl7 := hl6.tn ht7 (fun q hq hv => m.apart q hq (.inl hv))
  have hfresh : ∀ q, v7.ownBlock = some q → vw.ownBlock = some q ∨ w4.heap.size ≤ q := fun q hq => by
    rcases hap.block with hb | hb
    · exact .inl (hb ▸ hq)
    · exact .inr (Nat.le_trans hb46.size (hb q hq))
  have hfw : ∀ q, footL v7 (Sw ++ [(s2, l2)]) q → footL vw Sw q ∨ w4.heap.size ≤ q := fun q hq => by
    rcases footL_add hfresh hq with h | h | h
    · exact .inl h
    · exact .inr (hlt2 q h)
    · exact .inr h
  have hsz := m.tn.size
  have hc1 : w7.cell? ⟨bk, off + 1, none⟩ = some vw := ht7.cell (t46.cell m.c1 (fun e => e)) hbkw
  refine ⟨⟨?_, World.cell?_setCell_same _ _ _ hc1, hl7.tn ht8 (fun q hq e => ?_), hlw7.tn ht8 (fun q hq e => ?_), ?_, fun q hq hw => ?_, m.bk0, fun j => ?_⟩, fun o ho ho1 => ?_, ?_, fun q hq => ?_, (((m.tnO.mono (fun q hq => hq.elim .inl (fun h => .inr (.inl h)))).trans (t46.mono (fun _ e => e.elim))).trans (ht7.mono (fun q hq => .inr (.inr hq)))).trans (ht8.mono (fun q hq => .inl hq)), fun q hq => Nat.le_trans hsz (hlt2 q hq), m.outO, fun q hq => (hfresh q hq).imp id (fun h => Nat.le_trans hsz h)⟩
  · rw [World.cell?_setCell_other _ _ _ _ (by intro e; injection e with _ e2; omega)]
    exact ht7.cell (t46.cell m.c0 (fun e => e)) hbkw
  · have := (hl7.lt hq).1; have := m.bk0; omega
  · have := (hlw7.lt hq).1; have := m.bk0; omega
  · rw [List.map_append, List.map_append, m.same]
    show _ ++ [l2.map coreK] = _ ++ [l.map coreK]
    rw [hcr]
  · rcases hfw q hw with h | h
    · exact m.apart q hq h
    · have := (m.ls.lt hq).2; omega
  · rw [World.frozen?_setCell]
    exact (ht7.frozen (p := ⟨bk, j, none⟩) hbk6 hbkw).trans ((t46.frozen (p := ⟨bk, j, none⟩) hbk (fun e => e)).trans (m.free j))
  · rw [World.cell?_setCell_other _ _ _ _ (by intro e; injection e with _ e2; omega)]
    have g1 : w7.cell? ⟨bk, o, none⟩ = w6.cell? ⟨bk, o, none⟩ := World.cell?_of_block (ht7.block bk hbk6 hbkw)
    rw [g1, World.cell?_of_block (t46.block bk hbk (fun e => e))]
    exact m.other o ho
  · exact (((m.tn.mono (fun q hq => hq.elim .inl (fun h => .inr (.inl h)))).trans (t46.mono (fun _ e => e.elim))).trans (ht7.mono (fun q hq => .inr (.inr (.inl hq))))).trans (ht8.mono (fun q hq => .inl hq))
  · rcases hq with hq | hq
    · rcases m.foot q hq with h | h | h
      · exact .inl h
      · exact .inr (.inr (.inl h))
      · exact .inr (.inr (.inr h))
    · rcases hfw q hq with h | h
      · exact .inr (.inl h)
      · exact .inr (.inr (.inr (by omega)))
end
end Go.Proofs.YtkeggcfnoonakaaGreat
