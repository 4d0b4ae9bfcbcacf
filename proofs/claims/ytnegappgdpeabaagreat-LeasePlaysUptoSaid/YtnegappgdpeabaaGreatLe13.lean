import Derived.Test.YtnegappgdpeabaaGreatLe10
import Derived.Test.YtnegappgdpeabaaGreatLe2
import Derived.Test.YtnegappgdpeabaaGreatLe1
import Derived.Test.YtnegappgdpeabaaGreatLe9
import Derived.StillTailTactics
set_option linter.unusedSimpArgs false
set_option linter.unusedVariables false
/-
  Book: the kind Leases: what was kept and the copies, the same but for where the vectors lie.
-/
namespace Go.Proofs.YtnegappgdpeabaaGreat
open Go.RowKit

section
variable {P : Program} {T E TS : TypeId} {k by_ : Nat} {cell : Lv → List Value} {e : Elm P T E k by_ cell} {eS : Elm P TS T 1 24 sCell} {w w' : World} {B : Nat} {vo : Value} {S : List (Sl × List Lv)}

/-- A kind of the book: what was kept, and the copies. -/
structure KdL (e : Elm P T E k by_ cell) (eS : Elm P TS T 1 24 sCell) (w : World) (bk off B : Nat) (vo vw : Value) (S Sw : List (Sl × List Lv)) : Prop where
  c0 : w.cell? ⟨bk, off, none⟩ = some vo
  c1 : w.cell? ⟨bk, off + 1, none⟩ = some vw
  l : Lst e eS w B vo S
  lw : Lst e eS w B vw Sw
  same : Sw.map (fun p => p.2.map core) = S.map (fun p => p.2.map core)
  apart : ∀ q, footL vo S q → ¬ footL vw Sw q
  bk0 : bk < B
  free : ∀ j, w.frozen? ⟨bk, j, none⟩ = false
theorem KdL.tn {bk off : Nat} {vw : Value} {Sw : List (Sl × List Lv)} (h : KdL e eS w bk off B vo vw S Sw) {G : Nat → Prop} (ht : Tn G w w') (hb : ¬ G bk) (hG : ∀ q, footL vo S q ∨ footL vw Sw q → ¬ G q) : KdL e eS w' bk off B vo vw S Sw :=
  ⟨ht.cell h.c0 hb, ht.cell h.c1 hb, h.l.tn ht (fun q hq => hG q (.inl hq)), h.lw.tn ht (fun q hq => hG q (.inr hq)), h.same, h.apart, h.bk0, fun j => (ht.frozen (p := ⟨bk, j, none⟩) (World.block_lt_of_cell? w ⟨bk, off, none⟩ h.c0) hb).trans (h.free j)⟩
/-- What one list more makes of a kind. -/
structure AddedL (e : Elm P T E k by_ cell) (eS : Elm P TS T 1 24 sCell) (w w' : World) (bk off B : Nat) (vo vw : Value) (S Sw : List (Sl × List Lv)) (s : Sl) (l : List Lv) (vo' vw' : Value) (s2 : Sl) (l2 : List Lv) : Prop where
  kd : KdL e eS w' bk off B vo' vw' (S ++ [(s, l)]) (Sw ++ [(s2, l2)])
  other : ∀ o, o ≠ off → o ≠ off + 1 → w'.cell? ⟨bk, o, none⟩ = w.cell? ⟨bk, o, none⟩
  tn : Tn (fun q => q = bk ∨ footL vo S q ∨ footL vw Sw q) w w'
  foot : ∀ q, footL vo' (S ++ [(s, l)]) q ∨ footL vw' (Sw ++ [(s2, l2)]) q → footL vo S q ∨ footL vw Sw q ∨ s.val.ownBlock = some q ∨ w.heap.size ≤ q
  tnO : Tn (fun q => q = bk ∨ vo.ownBlock = some q ∨ vw.ownBlock = some q) w w'
  new2 : ∀ q, s2.val.ownBlock = some q → w.heap.size ≤ q
  outO : ∀ q, vo'.ownBlock = some q → vo.ownBlock = some q ∨ w.heap.size ≤ q
  outW : ∀ q, vw'.ownBlock = some q → vw.ownBlock = some q ∨ w.heap.size ≤ q
/-- Half of it. -/
structure AddMidL (e : Elm P T E k by_ cell) (eS : Elm P TS T 1 24 sCell) (w w' : World) (bk off B : Nat) (vo vw : Value) (S Sw : List (Sl × List Lv)) (s : Sl) (l : List Lv) (vo' : Value) : Prop where
  ls : Lst e eS w' B vo' (S ++ [(s, l)])
  lw : Lst e eS w' B vw Sw
  same : Sw.map (fun p => p.2.map core) = S.map (fun p => p.2.map core)
  c0 : w'.cell? ⟨bk, off, none⟩ = some vo'
  c1 : w'.cell? ⟨bk, off + 1, none⟩ = some vw
  bk0 : bk < B
  free : ∀ j, w'.frozen? ⟨bk, j, none⟩ = false
  hs : Own e w' B s.val l
  tn : Tn (fun q => q = bk ∨ footL vo S q) w w'
  foot : ∀ q, footL vo' (S ++ [(s, l)]) q → footL vo S q ∨ s.val.ownBlock = some q ∨ w.heap.size ≤ q
  apart : ∀ q, footL vo' (S ++ [(s, l)]) q → ¬ footL vw Sw q
  other : ∀ o, o ≠ off → w'.cell? ⟨bk, o, none⟩ = w.cell? ⟨bk, o, none⟩
  tnO : Tn (fun q => q = bk ∨ vo.ownBlock = some q) w w'
  outO : ∀ q, vo'.ownBlock = some q → vo.ownBlock = some q ∨ w.heap.size ≤ q

theorem add_midL {w W1 w3 : World} {bk off B : Nat} {vo vw v3 : Value} {S Sw : List (Sl × List Lv)} {s : Sl} {l : List Lv} (h : KdL e eS w bk off B vo vw S Sw) (hs : Own e w B s.val l) (hne : ∀ q, s.val.ownBlock = some q → ¬ footL vo S q ∧ ¬ footL vw Sw q)
    (hb1 : Below w.heap.size w W1) (hap : Appd eS W1 w3 B vo v3 (S.map (·.1)) [s]) : AddMidL e eS w (w3.setCell ⟨bk, off, none⟩ v3) bk off B vo vw S Sw s l v3 := by
  have hbk : bk < w.heap.size := World.block_lt_of_cell? _ _ h.c0
  have h1 := h.tn (Tn.ofBelow (F := fun _ => False) hb1) (fun e => e) (fun _ _ e => e)
  have hs1 : Own e W1 B s.val l := row_below hs hb1
  have hvb : ∀ q, vo.ownBlock = some q → q ≠ bk := fun q hq e => by have := (h1.l.outer.lt q hq).1; have := h.bk0; omega
  have ht3 : Tn (fun q => vo.ownBlock = some q) W1 w3 := hap.tn
  have hbk1 : bk < W1.heap.size := Nat.lt_of_lt_of_le hbk hb1.size
  have hbkv : ¬ (vo.ownBlock = some bk) := fun hq => hvb bk hq rfl
  have ht4 : Tn (fun q => q = bk) w3 (w3.setCell ⟨bk, off, none⟩ v3) := Tn.setCell _ _ _ rfl
  have hl3 : Lst e eS w3 B v3 (S ++ [(s, l)]) := h1.l.add hs1 (fun q hq => (hne q hq).1) hap
  have hw3 : Lst e eS w3 B vw Sw := h1.lw.tn ht3 (fun q hq hv => h.apart q (.inl hv) hq)
  have hfresh : ∀ q, v3.ownBlock = some q → vo.ownBlock = some q ∨ w.heap.size ≤ q := fun q hq => by
    rcases hap.block with hb | hb
    · exact .inl (hb ▸ hq)
    · exact .inr (Nat.le_trans hb1.size (hb q hq))
  have hc3 : w3.cell? ⟨bk, off, none⟩ = some vo := ht3.cell h1.c0 hbkv
  have hfoot : ∀ q, footL v3 (S ++ [(s, l)]) q → footL vo S q ∨ s.val.ownBlock = some q ∨ w.heap.size ≤ q := fun q hq => footL_add hfresh hq
  refine ⟨hl3.tn ht4 (fun q hq e => ?_), hw3.tn ht4 (fun q hq e => ?_), h.same, World.cell?_setCell_same _ _ _ hc3, ?_, h.bk0, fun j => ?_, ?_, ?_, hfoot, fun q hq hw => ?_, fun o ho => ?_, ((Tn.ofBelow (F := fun q => q = bk ∨ vo.ownBlock = some q) hb1).trans (ht3.mono (fun q hq => .inr hq))).trans (ht4.mono (fun q hq => .inl hq)), hfresh⟩
  · have := (hl3.lt hq).1; have := h.bk0; omega
  · have := (hw3.lt hq).1; have := h.bk0; omega
  · rw [World.cell?_setCell_other _ _ _ _ (by intro e; injection e with _ e2; omega)]
    exact ht3.cell h1.c1 hbkv
  · rw [World.frozen?_setCell]
    exact (ht3.frozen (p := ⟨bk, j, none⟩) hbk1 hbkv).trans (h1.free j)
  · exact ht4.row (ht3.row hs1 (fun q hq hv => (hne q hq).1 (.inl hv))) (fun q hq e => by have := (hs1.lt q hq).1; have := h.bk0; omega)
  · exact ((Tn.ofBelow (F := fun q => q = bk ∨ footL vo S q) hb1).trans (ht3.mono (fun q hq => .inr (.inl hq)))).trans (ht4.mono (fun q hq => .inl hq))
  · rcases hfoot q hq with h9 | h9 | h9
    · exact h.apart q h9 hw
    · exact (hne q h9).2 hw
    · have := (h.lw.lt hw).2; omega
  · rw [World.cell?_setCell_other _ _ _ _ (by intro e; injection e with _ e2; exact ho e2.symm)]
    have g1 : w3.cell? ⟨bk, o, none⟩ = W1.cell? ⟨bk, o, none⟩ := World.cell?_of_block (ht3.block bk hbk1 hbkv)
    rw [g1]
    exact hb1.cell (p := ⟨bk, o, none⟩) hbk

theorem add_endL {w w4 w5 w6 w7 : World} {bk off B : Nat} {vo vw v4 v7 : Value} {S Sw : List (Sl × List Lv)} {s s2 : Sl} {l l2 : List Lv} (hcr : l2.map core = l.map core) (m : AddMidL e eS w w4 bk off B vo vw S Sw s l v4) (hB : B ≤ w.heap.size)
    (hs2 : Own e w5 w4.heap.size s2.val l2) (hb5 : Below w4.heap.size w4 w5) (hb6 : Below w5.heap.size w5 w6) (hap : Appd eS w6 w7 B vw v7 (Sw.map (·.1)) [s2]) :
    AddedL e eS w (w7.setCell ⟨bk, off + 1, none⟩ v7) bk off B vo vw S Sw s l v4 v7 s2 l2 := by
  have hbk : bk < w4.heap.size := World.block_lt_of_cell? _ _ m.c0
  have hb46 : Below w4.heap.size w4 w6 := hb5.trans (hb6.mono hb5.size)
  have t46 : Tn (fun _ => False) w4 w6 := Tn.ofBelow hb46
  have hB4 : B ≤ w4.heap.size := Nat.le_trans hB m.tn.size
  have hl6 := m.ls.tn t46 (fun _ _ e => e)
  have hlw6 := m.lw.tn t46 (fun _ _ e => e)
  have hs6 : Own e w6 B s2.val l2 := row_mono (row_below hs2 hb6) hB4
  have hlt2 : ∀ q, s2.val.ownBlock = some q → w4.heap.size ≤ q := fun q hq => (hs2.lt q hq).1
  have ht7 : Tn (fun q => vw.ownBlock = some q) w6 w7 := hap.tn
  have hbkw : ¬ (vw.ownBlock = some bk) := fun hq => by have := (m.lw.outer.lt bk hq).1; have := m.bk0; omega
  have hbk6 : bk < w6.heap.size := Nat.lt_of_lt_of_le hbk hb46.size
  have ht8 : Tn (fun q => q = bk) w7 (w7.setCell ⟨bk, off + 1, none⟩ v7) := Tn.setCell _ _ _ rfl
  have hlw7 : Lst e eS w7 B v7 (Sw ++ [(s2, l2)]) := hlw6.add hs6 (fun q hq hf => by have := (m.lw.lt hf).2; have := hlt2 q hq; omega) hap
  have hl7 := hl6.tn ht7 (fun q hq hv => m.apart q hq (.inl hv))
  have hfresh : ∀ q, v7.ownBlock = some q → vw.ownBlock = some q ∨ w4.heap.size ≤ q := fun q hq => by
    rcases hap.block with hb | hb
    · exact .inl (hb ▸ hq)
    · exact .inr (Nat.le_trans hb46.size (hb q hq))
  have hfw : ∀ q, footL v7 (Sw ++ [(s2, l2)]) q → footL vw Sw q ∨ w4.heap.size ≤ q := fun q hq => by
    rcases footL_add hfresh hq with h | h | h
    · exact .inl h
    · exact .inr (hlt2 q h)
    · exact .inr h
  have hsz := m.tn.size
  have hc1 : w7.cell? ⟨bk, off + 1, none⟩ = some vw := ht7.cell (t46.cell m.c1 (fun e => e)) hbkw
  refine ⟨⟨?_, World.cell?_setCell_same _ _ _ hc1, hl7.tn ht8 (fun q hq e => ?_), hlw7.tn ht8 (fun q hq e => ?_), ?_, fun q hq hw => ?_, m.bk0, fun j => ?_⟩, fun o ho ho1 => ?_, ?_, fun q hq => ?_, (((m.tnO.mono (fun q hq => hq.elim .inl (fun h => .inr (.inl h)))).trans (t46.mono (fun _ e => e.elim))).trans (ht7.mono (fun q hq => .inr (.inr hq)))).trans (ht8.mono (fun q hq => .inl hq)), fun q hq => Nat.le_trans hsz (hlt2 q hq), m.outO, fun q hq => (hfresh q hq).imp id (fun h => Nat.le_trans hsz h)⟩
  · rw [World.cell?_setCell_other _ _ _ _ (by intro e; injection e with _ e2; omega)]
    exact ht7.cell (t46.cell m.c0 (fun e => e)) hbkw
  · have := (hl7.lt hq).1; have := m.bk0; omega
  · have := (hlw7.lt hq).1; have := m.bk0; omega
  · rw [List.map_append, List.map_append, m.same]
    show _ ++ [l2.map core] = _ ++ [l.map core]
    rw [hcr]
  · rcases hfw q hw with h | h
    · exact m.apart q hq h
    · have := (m.ls.lt hq).2; omega
  · rw [World.frozen?_setCell]
    exact (ht7.frozen (p := ⟨bk, j, none⟩) hbk6 hbkw).trans ((t46.frozen (p := ⟨bk, j, none⟩) hbk (fun e => e)).trans (m.free j))
  · rw [World.cell?_setCell_other _ _ _ _ (by intro e; injection e with _ e2; omega)]
    have g1 : w7.cell? ⟨bk, o, none⟩ = w6.cell? ⟨bk, o, none⟩ := World.cell?_of_block (ht7.block bk hbk6 hbkw)
    rw [g1, World.cell?_of_block (t46.block bk hbk (fun e => e))]
    exact m.other o ho
  · exact (((m.tn.mono (fun q hq => hq.elim .inl (fun h => .inr (.inl h)))).trans (t46.mono (fun _ e => e.elim))).trans (ht7.mono (fun q hq => .inr (.inr (.inl hq))))).trans (ht8.mono (fun q hq => .inl hq))
  · rcases hq with hq | hq
    · rcases m.foot q hq with h | h | h
      · exact .inl h
      · exact .inr (.inr (.inl h))
      · exact .inr (.inr (.inr h))
    · rcases hfw q hq with h | h
      · exact .inr (.inl h)
      · exact .inr (.inr (.inr (by omega)))
end
end Go.Proofs.YtnegappgdpeabaaGreat
/-
  Book: the kind Leases: same, mark, copy.
-/
namespace Go.Proofs.YtnegappgdpeabaaGreat
open Go.RowKit

theorem kLeasesS_info : (Tryz.prog.info? 27).map (fun i => (i.zero, i.size, i.bytes)) = some (some (.slice none 0 0), 1, 24) := by kernel_rfl
theorem kLeases : Elm Tryz.prog 27 65 3 40 (fun x : Lv => [.int .i64 x.id, x.sl, .int .i64 x.till]) := eLse
theorem kLeasesS : Elm Tryz.prog 43 27 1 24 sCell where
  und := Tryz.underlying43
  info := by
    obtain ⟨i0, hi0, hz0, hs0, hy0⟩ := info_parts kLeasesS_info
    exact ⟨i0, _, hi0, hz0, hs0, hy0, rfl⟩
  pos := by decide
  few := by decide
  len _ := rfl
  one := sCell_one

/-- Leases that can be read, with their vectors. -/
def RdLs (w : World) (x : Value) (l : List Lv) : Prop := ∃ a c, x = .slice a l.length c ∧ (l = [] ∨ ∃ b off, a = some ⟨b, off, none⟩ ∧ b < w.heap.size ∧ ∀ i (hi : i < l.length), w.cell? ⟨b, off + i * 3, none⟩ = some (.int .i64 l[i].id) ∧ w.cell? ⟨b, off + i * 3 + 1, none⟩ = some l[i].sl ∧ w.cell? ⟨b, off + i * 3 + 2, none⟩ = some (.int .i64 l[i].till)) ∧ ∀ x ∈ l, RdI w x.sl x.vs
theorem RdLs.below {w w' : World} {x : Value} {l : List Lv} (h : RdLs w x l) (hb : Below w.heap.size w w') : RdLs w' x l := by
  obtain ⟨a, c, hx, h, hv⟩ := h
  refine ⟨a, c, hx, h.imp id ?_, fun y hy => (hv y hy).below hb⟩
  rintro ⟨b, off, ha, hlt, hc⟩
  exact ⟨b, off, ha, Nat.lt_of_lt_of_le hlt hb.size, fun i hi => ⟨(hb.cell (p := ⟨b, off + i * 3, none⟩) hlt).trans (hc i hi).1, (hb.cell (p := ⟨b, off + i * 3 + 1, none⟩) hlt).trans (hc i hi).2.1, (hb.cell (p := ⟨b, off + i * 3 + 2, none⟩) hlt).trans (hc i hi).2.2⟩⟩
theorem rdLs_own {w : World} {B : Nat} {v : Value} {l : List Lv} (h : Own kLeases w B v l) (hv : ∀ x ∈ l, RdI w x.sl x.vs) : RdLs w v l := by
  obtain ⟨a, c, rfl, _, _⟩ := row_form h
  refine ⟨a, c, rfl, ?_, hv⟩
  by_cases h0 : l = []
  · exact .inl h0
  · have hl : 0 < l.length := List.length_pos_iff.2 h0
    obtain ⟨g, cap, e, _, hg, _⟩ := lv_cells h hl
    injection e with e1 _ _
    refine .inr ⟨g, 0, e1, hg, fun i hi => ?_⟩
    obtain ⟨g', cap', e', _, _, k0, k1, k2⟩ := lv_cells h hi
    injection e' with e1' _ _
    rw [e1] at e1'
    injection e1' with e1'
    injection e1' with e1'
    subst e1'
    rw [Nat.zero_add]
    exact ⟨k0, k1, k2⟩

set_option maxRecDepth 100000 in
set_option maxHeartbeats 1000000 in
theorem samelease_any {w : World} {x y : Lv} (hx : RdI w x.sl x.vs) (hy : RdI w y.sl y.vs) (hc : core x = core y) (hl : x.vs.length ≤ 1000000) : Calls Tryz.prog 19 #[cvL x, cvL y] w fun e w' => e = .returned (.bool true) ∧ Below w.heap.size w w' := by
  obtain ⟨xi, xa, xc, xv, xt⟩ := x
  obtain ⟨yi, ya, yc, yv, yt⟩ := y
  obtain rfl : xi = yi := congrArg (fun c => c.1) hc
  obtain rfl : xv = yv := congrArg (fun c => c.2.1) hc
  obtain rfl : xt = yt := congrArg (fun c => c.2.2) hc
  obtain ⟨n, hn⟩ : ∃ n, xv.length = n := ⟨_, rfl⟩
  have hx : RdI w (.slice xa xv.length xc) xv := hx
  have hy : RdI w (.slice ya xv.length yc) xv := hy
  have hl : xv.length ≤ 1000000 := hl
  show Calls Tryz.prog 19 #[.agg #[.int .i64 xi, .slice xa xv.length xc, .int .i64 xt], .agg #[.int .i64 xi, .slice ya xv.length yc, .int .i64 xt]] w fun e w' => e = .returned (.bool true) ∧ Below w.heap.size w w'
  obtain ⟨W1, hW1⟩ : ∃ W1, (w.alloc (.cells #[.int .i64 xi, .slice xa n xc, .int .i64 xt] 65)).alloc (.cells #[.int .i64 xi, .slice ya n yc, .int .i64 xt] 65) = W1 := ⟨_, rfl⟩
  have hb1 : Below w.heap.size w W1 := by rw [← hW1]; exact ((Below.refl _ _).alloc (Nat.le_refl _) _).alloc (by simp) _
  have x0 : W1.cell? ⟨w.heap.size, 0, none⟩ = some (.int .i64 xi) := by rw [← hW1]; simp [go_sem]
  have x1 : W1.cell? ⟨w.heap.size, 1, none⟩ = some (.slice xa n xc) := by rw [← hW1]; simp [go_sem]
  have x2 : W1.cell? ⟨w.heap.size, 2, none⟩ = some (.int .i64 xt) := by rw [← hW1]; simp [go_sem]
  have y0 : W1.cell? ⟨w.heap.size + 1, 0, none⟩ = some (.int .i64 xi) := by rw [← hW1]; simp [go_sem]
  have y1 : W1.cell? ⟨w.heap.size + 1, 1, none⟩ = some (.slice ya n yc) := by rw [← hW1]; simp [go_sem]
  have y2 : W1.cell? ⟨w.heap.size + 1, 2, none⟩ = some (.int .i64 xt) := by rw [← hW1]; simp [go_sem]
  have hsm := same_any (hx.below hb1) (hy.below hb1) hl
  rw [hn] at hsm ⊢
  have t1 : (xi == xi) = true := by simp
  have t2 : (xt == xt) = true := by simp
  have H := Lib.hid (And.intro hb1 hsm)
  clear hb1 hsm hx hy hn hc
  go_enter Tryz.func19, Tryz.ntmps19
  go_wp2_with (go_at_call 25; refine H.out.2.mono ?_; rintro e w3 ⟨rfl, hb3⟩; have H3 := Lib.hid (H.out.1.trans (hb3.mono H.out.1.size)); clear hb3)
  go_ret
  exact ⟨rfl, H3.out⟩

theorem core_len {l l2 : List Lv} (h : l.map core = l2.map core) : l.length = l2.length := by
  have := congrArg List.length h
  rwa [List.length_map, List.length_map] at this
theorem core_at {l l2 : List Lv} (h : l.map core = l2.map core) {i : Nat} (h1 : i < l.length) (h2 : i < l2.length) : core l[i] = core l2[i] := by
  have := congrArg (fun l => l[i]?) h
  simp only [List.getElem?_map, List.getElem?_eq_getElem h1, List.getElem?_eq_getElem h2, Option.map_some, Option.some.injEq] at this
  exact this
set_option maxRecDepth 100000 in
set_option maxHeartbeats 1000000 in
theorem same_Leases {w : World} {x y : Value} {l l2 : List Lv} (hx : RdLs w x l) (hy : RdLs w y l2) (hc : l.map core = l2.map core) (hl : l.length ≤ 1000000) (hv : ∀ x ∈ l, x.vs.length ≤ 1000000) : Calls Tryz.prog 48 #[x, y] w fun e w' => e = .returned (.bool true) ∧ Below w.heap.size w w' := by
  have hx0 := hx
  have hy0 := hy
  have hlen := core_len hc
  obtain ⟨a1, c1, rfl, h1, -⟩ := hx
  obtain ⟨a2, c2, rfl, h2, -⟩ := hy
  obtain ⟨n, hn⟩ : ∃ n, n = l.length := ⟨_, rfl⟩
  rw [← hlen, ← hn]
  rw [← hn] at hl
  have HN := Lib.hid (And.intro hn (hn.trans hlen))
  have H := Lib.hid (And.intro h1 (And.intro h2 (And.intro hx0 (And.intro hy0 (And.intro hc hv)))))
  clear hn h1 h2 hx0 hy0 hc hlen hv
  have t0 : ((n : Int) != (n : Int)) = false := by simp
  have t0b : (n != n) = false := by simp
  go_enter Tryz.func48, Tryz.ntmps48
  go_wp2
  go_loopw [5] (fun iv wr => ∃ i : Nat, i ≤ n ∧ iv = .int .i64 (i : Int) ∧ Below w.heap.size w wr) (fun iv _ => n - (intOf iv).toNat)
  case atStart => exact ⟨0, by omega, rfl, Below.refl _ _⟩
  case round =>
    obtain ⟨i, hi, rfl, hb⟩ := hrel
    by_cases hlt : i < n
    · have hil : i < l.length := by have := HN.out; omega
      have hil2 : i < l2.length := by have := HN.out; omega
      obtain ⟨b1, o1, rfl, l1, k1⟩ := H.out.1.resolve_left (fun e => by rw [e] at hil; simp at hil)
      obtain ⟨b2, o2, rfl, l2', k2⟩ := H.out.2.1.resolve_left (fun e => by rw [e] at hil2; simp at hil2)
      obtain ⟨u0, u1, u2⟩ := k1 i hil
      obtain ⟨v0, v1, v2⟩ := k2 i hil2
      have hu := (H.out.2.2.1.below hb)
      have hv := (H.out.2.2.2.1.below hb)
      obtain ⟨_, _, _, _, hu⟩ := hu
      obtain ⟨_, _, _, _, hv⟩ := hv
      have hu := hu _ (List.getElem_mem hil)
      have hv := hv _ (List.getElem_mem hil2)
      have hcc := core_at H.out.2.2.2.2.1 hil hil2
      have hvl := H.out.2.2.2.2.2 _ (List.getElem_mem hil)
      obtain ⟨x, hx⟩ : ∃ x, l[i] = x := ⟨_, rfl⟩
      obtain ⟨y, hy⟩ : ∃ y, l2[i] = y := ⟨_, rfl⟩
      rw [hx] at u0 u1 u2 hu hcc hvl
      rw [hy] at v0 v1 v2 hv hcc
      have HS := Lib.hid (fun W (hW : Below wr.heap.size wr W) => samelease_any (hu.below hW) (hv.below hW) hcc hvl)
      obtain ⟨xi, xa, xc, xv, xt⟩ := x
      obtain ⟨yi, ya, yc, yv, yt⟩ := y
      obtain ⟨xn, hxn⟩ : ∃ xn, xv.length = xn := ⟨_, rfl⟩
      obtain ⟨yn, hyn⟩ : ∃ yn, yv.length = yn := ⟨_, rfl⟩
      have HS2 : Hid (∀ W, Below wr.heap.size wr W → Calls Tryz.prog 19 #[.agg #[.int .i64 xi, .slice xa xn xc, .int .i64 xt], .agg #[.int .i64 yi, .slice ya yn yc, .int .i64 yt]] W fun e w' => e = .returned (.bool true) ∧ Below W.heap.size W w') := fun W hW => by have := HS.out W hW; rw [← hxn, ← hyn]; exact this
      have d0 : wr.cell? ⟨b1, o1 + i * 3, none⟩ = some (.int .i64 xi) := (hb.cell (p := ⟨b1, o1 + i * 3, none⟩) l1).trans u0
      have d1 : wr.cell? ⟨b1, o1 + i * 3 + 1, none⟩ = some (.slice xa xn xc) := (hb.cell (p := ⟨b1, o1 + i * 3 + 1, none⟩) l1).trans (by rw [← hxn]; exact u1)
      have d2 : wr.cell? ⟨b1, o1 + i * 3 + 2, none⟩ = some (.int .i64 xt) := (hb.cell (p := ⟨b1, o1 + i * 3 + 2, none⟩) l1).trans u2
      have g0 : wr.cell? ⟨b2, o2 + i * 3, none⟩ = some (.int .i64 yi) := (hb.cell (p := ⟨b2, o2 + i * 3, none⟩) l2').trans v0
      have g1 : wr.cell? ⟨b2, o2 + i * 3 + 1, none⟩ = some (.slice ya yn yc) := (hb.cell (p := ⟨b2, o2 + i * 3 + 1, none⟩) l2').trans (by rw [← hyn]; exact v1)
      have g2 : wr.cell? ⟨b2, o2 + i * 3 + 2, none⟩ = some (.int .i64 yt) := (hb.cell (p := ⟨b2, o2 + i * 3 + 2, none⟩) l2').trans v2
      have r1 : (i : Int) < (n : Int) := by omega
      have HB := Lib.hid hb
      clear k1 k2 hu hv hcc hvl HS u0 u1 u2 v0 v1 v2 hx hy hxn hyn hb
      go_wp2
      refine wp_region_K (fun w' => (w'.cell? ⟨b1, o1 + i * 3, none⟩ = some (.int .i64 xi) ∧ w'.cell? ⟨b1, o1 + i * 3 + 1, none⟩ = some (.slice xa xn xc) ∧ w'.cell? ⟨b1, o1 + i * 3 + 2, none⟩ = some (.int .i64 xt)) ∧ w'.cell? ⟨b2, o2 + i * 3, none⟩ = some (.int .i64 yi) ∧ w'.cell? ⟨b2, o2 + i * 3 + 1, none⟩ = some (.slice ya yn yc) ∧ w'.cell? ⟨b2, o2 + i * 3 + 2, none⟩ = some (.int .i64 yt)) 9 10 (by kernel_rfl) (by kernel_rfl) ⟨⟨d0, d1, d2⟩, g0, g1, g2⟩ (fun hH => ?_)
      refine wpAnyK_take (i := 0) [2, 3, 8, 9] (v := ?v1) rfl (by kernel_rfl) (by kernel_rfl) (by kernel_rfl) (by kernel_rfl) (fun _ _ _ h => h) (Or.inl ⟨by rfl, ?hy1⟩) hH ?rest1
      case hy1 => (intro w hSw; (try dsimp only at hSw); go_simp; with_reducible rfl)
      try simp only [Act.put, List.setIfInBounds_toArray, List.set_cons_zero, List.set_cons_succ]
      refine wpAnyK_take (i := 1) [2, 3, 8, 9] (v := ?v2) rfl (by kernel_rfl) (by kernel_rfl) (by kernel_rfl) (by kernel_rfl) (fun _ _ _ h => h) (Or.inl ⟨by rfl, ?hy2⟩) hH ?rest2
      case hy2 => (intro w hSw; (try dsimp only at hSw); go_simp; with_reducible rfl)
      try simp only [Act.put, List.setIfInBounds_toArray, List.set_cons_zero, List.set_cons_succ]
      refine wpAnyK_take (i := 2) [3, 8, 9] (v := ?v3) rfl (by kernel_rfl) (by kernel_rfl) (by kernel_rfl) (by kernel_rfl) (fun _ _ _ h => h) (Or.inl ⟨by rfl, ?hy3⟩) hH ?rest3
      case hy3 => (intro w hSw; (try dsimp only at hSw); go_simp; with_reducible rfl)
      try simp only [Act.put, List.setIfInBounds_toArray, List.set_cons_zero, List.set_cons_succ]
      refine wpAnyK_take (i := 3) [8, 9] (v := ?v4) rfl (by kernel_rfl) (by kernel_rfl) (by kernel_rfl) (by kernel_rfl) (fun _ _ _ h => h) (Or.inl ⟨by rfl, ?hy4⟩) hH ?rest4
      case hy4 => (intro w hSw; (try dsimp only at hSw); go_simp; with_reducible rfl)
      try simp only [Act.put, List.setIfInBounds_toArray, List.set_cons_zero, List.set_cons_succ]
      refine wpAnyK_take (i := 4) [6, 7, 8, 9] (v := ?v5) rfl (by kernel_rfl) (by kernel_rfl) (by kernel_rfl) (by kernel_rfl) (fun _ _ _ h => h) (Or.inl ⟨by rfl, ?hy5⟩) hH ?rest5
      case hy5 => (intro w hSw; (try dsimp only at hSw); go_simp; with_reducible rfl)
      try simp only [Act.put, List.setIfInBounds_toArray, List.set_cons_zero, List.set_cons_succ]
      refine wpAnyK_take (i := 5) [6, 7, 8, 9] (v := ?v6) rfl (by kernel_rfl) (by kernel_rfl) (by kernel_rfl) (by kernel_rfl) (fun _ _ _ h => h) (Or.inl ⟨by rfl, ?hy6⟩) hH ?rest6
      case hy6 => (intro w hSw; (try dsimp only at hSw); go_simp; with_reducible rfl)
      try simp only [Act.put, List.setIfInBounds_toArray, List.set_cons_zero, List.set_cons_succ]
      refine wpAnyK_take (i := 6) [7, 8, 9] (v := ?v7) rfl (by kernel_rfl) (by kernel_rfl) (by kernel_rfl) (by kernel_rfl) (fun _ _ _ h => h) (Or.inl ⟨by rfl, ?hy7⟩) hH ?rest7
      case hy7 => (intro w hSw; (try dsimp only at hSw); go_simp; with_reducible rfl)
      try simp only [Act.put, List.setIfInBounds_toArray, List.set_cons_zero, List.set_cons_succ]
      refine wpAnyK_take (i := 7) [8, 9] (v := ?v8) rfl (by kernel_rfl) (by kernel_rfl) (by kernel_rfl) (by kernel_rfl) (fun _ _ _ h => h) (Or.inl ⟨by rfl, ?hy8⟩) hH ?rest8
      case hy8 => (intro w hSw; (try dsimp only at hSw); go_simp; with_reducible rfl)
      try simp only [Act.put, List.setIfInBounds_toArray, List.set_cons_zero, List.set_cons_succ]
      refine wpAnyK_one (i := 8) (by kernel_rfl) rfl (fun K hK => ?_) (by kernel_rfl)
      go_simp
      go_at_call 19
      refine (HS2.out _ (Below.refl _ _).drew).mono ?_
      rintro e w4 ⟨rfl, hb4⟩
      have HB4 := Lib.hid (HB.out.trans (((Below.refl _ _).drew.trans hb4).mono HB.out.size))
      have f := fun {p : Addr} {v : Value} (hp : wr.cell? p = some v) => (hb4.cell (p := p) (World.block_lt_of_cell? _ _ hp)).trans hp
      refine hK.out _ _ ⟨⟨f d0, f d1, f d2⟩, f g0, f g1, f g2⟩ (fun hH => ?_)
      clear hK K f hb4
      try simp only [Act.put, List.setIfInBounds_toArray, List.set_cons_zero, List.set_cons_succ]
      refine wpAnyK_last (by kernel_rfl) rfl (fun K hK => ?_) (by kernel_rfl)
      go_simp
      refine hK.out _ _ (wpAnyK_done (by kernel_rfl) ?_ _)
      clear hK K hH d0 d1 d2 g0 g1 g2
      go_wp2
      go_roundw
      case rel => exact ⟨i + 1, by omega, by go_num, HB4.out⟩
      case measure => simp [intOf]; omega
    · obtain rfl : i = n := by omega
      have HB := Lib.hid hb
      clear hb
      go_wp2
      go_ret
      exact ⟨rfl, HB.out⟩

/-- The mark number k of the list number i. -/
def mkLeases (i k : Nat) : Lv := ⟨-1 - (i : Int), none, 0, [], (k : Int)⟩
set_option maxHeartbeats 400000 in
theorem mark_Leases (i from_ n : Nat) (hi : i ≤ 1000) (hf : from_ ≤ 10000000) (hn : n ≤ 10000000) (w : World) : Calls Tryz.prog 141 #[.int .i64 i, .int .i64 from_, .int .i64 n] w fun e w' =>
    ∃ a cap, e = .returned (.slice a n cap) ∧ Own kLeases w' w.heap.size (.slice a n cap) (marks mkLeases i from_ n) ∧ Below w.heap.size w w' := by
  go_enter Tryz.func141, Tryz.ntmps141
  go_wp2
  go_loopw [7, 8] (fun v y wr => ∃ j : Nat, j ≤ n ∧ y = .int .i64 ((from_ + j : Nat) : Int) ∧ Own kLeases wr w.heap.size v (marks mkLeases i from_ j) ∧ Below w.heap.size w wr) (fun _ y _ => from_ + n - (intOf y).toNat)
  case atStart => exact ⟨0, by omega, by simp, World.ownsRow_nil _ _ _ _, Below.refl _ _⟩
  case round =>
    obtain ⟨j, hj, rfl, hown, hbel⟩ := hrel
    obtain ⟨av, capv, rfl, _, _⟩ := row_form hown
    rw [marks_len] at hown ⊢
    have HO := Lib.hid hown
    have HB := Lib.hid hbel
    clear hown
    by_cases hlt : j < n
    · have hst := marks_succ mkLeases i from_ j
      have HST := Lib.hid hst
      obtain ⟨W1, hW1⟩ : ∃ W1, wr.alloc (.cells #[.int .i64 (-1 - (i : Int)), .slice none 0 0, .int .i64 ((from_ : Int) + (j : Int))] 65) = W1 := ⟨_, rfl⟩
      have hsrc : Src kLeases W1 (.slice (some ⟨wr.heap.size, 0, none⟩) 1 1) [mkLeases i (from_ + j)] := by
        rw [← hW1]
        exact src_one wr (mkLeases i (from_ + j)) _ _ (by unfold mkLeases; simp [Lv.sl]) 1
      have ho1 : Own kLeases W1 w.heap.size (.slice av j capv) (marks mkLeases i from_ j) := by rw [← hW1]; exact World.ownsRow.alloc HO.out _
      have hb1 : Below w.heap.size w W1 := by rw [← hW1]; exact HB.out.alloc HB.out.size _
      have H1 := Lib.hid (And.intro ho1 (And.intro hb1 hsrc))
      have hml : (marks mkLeases i from_ j).length = j := marks_len _ _ _ _
      have HML := Lib.hid hml
      clear hst hbel hsrc ho1 hb1 hml
      go_wp2_with (at_builtin; refine wpl_app kLeases rfl _ _ rfl rfl rfl H1.out.1 H1.out.2.2 (by rw [HML.out]; simp; omega) H1.out.2.1.size ?_; rw [HML.out]; intro a3 cap3 w3 ho3 hb3 _ _; have H3 := Lib.hid (And.intro ho3 (H1.out.2.1.trans hb3)); clear ho3 hb3)
      go_roundw
      case rel => exact ⟨j + 1, by omega, by go_num, by rw [HST.out]; exact H3.out.1, H3.out.2⟩
      case measure => simp [intOf]; omega
    · obtain rfl : j = n := by omega
      clear hbel
      go_wp2
      go_ret
      exact ⟨av, capv, rfl, HO.out, HB.out⟩


theorem copyvec_any {w : World} {a : Option Addr} {n c : Nat} {l : List Int} (h : RdI w (.slice a n c) l) (hl : 1 ≤ l.length) (hm : l.length ≤ 1000000) : Calls Tryz.prog 163 #[.slice a n c] w fun e w' => ∃ a' c', e = .returned (.slice a' n c') ∧ Own eVec w' w.heap.size (.slice a' n c') l ∧ Below w.heap.size w w' := by
  have hs := src_rd h hl
  have hn : l.length = n := by
    obtain ⟨a', c', e, _⟩ := h
    injection e with _ e2 _
    exact e2.symm
  subst hn
  have HS := Lib.hid hs
  clear h hs
  go_enter Tryz.func163, Tryz.ntmps163
  go_wp2_with (at_builtin; refine wpl_app eVec (l := []) rfl _ _ rfl rfl rfl (World.ownsRow_nil _ w.heap.size _ _) HS.out (by simp; omega) (Nat.le_refl _) ?_; intro a3 cap3 w3 ho3 hb3 _ _; have H3 := Lib.hid (And.intro ho3 hb3); clear ho3 hb3)
  go_ret
  have h1 := H3.out.1
  rw [List.nil_append, show ([] : List Int).length + l.length = l.length by simp] at h1
  exact ⟨a3, cap3, by simp, h1, H3.out.2⟩
def putVec (x : Lv) (a : Option Addr) (c : Nat) : Lv := ⟨x.id, a, c, x.vs, x.till⟩
theorem vset_cells : ∀ (l : List Lv) (i : Nat) (hi : i < l.length) (a : Option Addr) (c : Nat), (l.set i (putVec l[i] a c)).flatMap (fun x : Lv => [Value.int .i64 x.id, x.sl, .int .i64 x.till]) = (l.flatMap (fun x : Lv => [Value.int .i64 x.id, x.sl, .int .i64 x.till])).set (i * 3 + 1) (.slice a l[i].vs.length c)
  | [], i, hi, a, c => by simp at hi
  | m :: ms, 0, _, a, c => by simp [putVec, Lv.sl]
  | m :: ms, i + 1, hi, a, c => by
    have ih := vset_cells ms i (by simpa using hi) a c
    rw [List.set_cons_succ, List.flatMap_cons, List.flatMap_cons]
    simp only [List.getElem_cons_succ]
    rw [ih, show (i + 1) * 3 + 1 = (i * 3 + 1) + 1 + 1 + 1 by omega]
    rfl
theorem vsetL {w : World} {B g n cap : Nat} {l : List Lv} (h : Own eLse w B (.slice (some ⟨g, 0, none⟩) n cap) l) (hn : l.length = n) {i : Nat} (hi : i < l.length) (a : Option Addr) (c : Nat) : Own eLse (w.setCell ⟨g, i * 3 + 1, none⟩ (.slice a l[i].vs.length c)) B (.slice (some ⟨g, 0, none⟩) n cap) (l.set i (putVec l[i] a c)) := by
  subst hn
  have h1 := (World.ownsRow.stored h (i * 3 + 1) (.slice a l[i].vs.length c)).1
  show World.ownsRow _ _ _ _ _ _ _
  rw [vset_cells l i hi a c, List.length_set]
  exact h1

set_option maxRecDepth 100000 in
set_option maxHeartbeats 2000000 in
theorem copy_Leases {w : World} {x : Value} {l : List Lv} (hx : Src kLeases w x l) (hv : ∀ y ∈ l, RdI w y.sl y.vs) (hl1 : ∀ y ∈ l, 1 ≤ y.vs.length ∧ y.vs.length ≤ 1000000) (hl : l.length ≤ 1000000) : Calls Tryz.prog 124 #[x] w fun e w' =>
    ∃ (s : Sl) (l2 : List Lv), e = .returned s.val ∧ Own kLeases w' w.heap.size s.val l2 ∧ l2.map core = l.map core ∧ (∀ y ∈ l2, Own eVec w' w.heap.size y.sl y.vs) ∧ Below w.heap.size w w' := by
  obtain ⟨n, hn⟩ : ∃ n, l.length = n := ⟨_, rfl⟩
  have HN := Lib.hid hn
  have H := Lib.hid (And.intro hx (And.intro hv hl1))
  have hl : n ≤ 1000000 := by omega
  obtain ⟨xa, xn, xc, rfl⟩ : ∃ a n c, x = .slice a n c := by
    rcases hx with ⟨e, _⟩ | ⟨ad, c, e, _⟩
    · exact ⟨_, _, _, e⟩
    · exact ⟨_, _, _, e⟩
  clear hx hv hl1 hn
  go_enter Tryz.func124, Tryz.ntmps124
  go_wp2_with (at_builtin; refine wpl_app kLeases (l := []) rfl _ _ rfl rfl rfl (World.ownsRow_nil _ w.heap.size _ _) H.out.1 (by simp; have := HN.out; omega) (Nat.le_refl _) ?_; intro a3 cap3 w3 ho3 hb3 _ _; have h3 : Own kLeases w3 w.heap.size (.slice a3 n cap3) l := (by rw [List.nil_append, show ([] : List Lv).length + l.length = n by rw [HN.out]; simp] at ho3; exact ho3); rw [show ([] : List Lv).length + l.length = n by rw [HN.out]; simp]; have H3 := Lib.hid (And.intro h3 hb3); clear ho3 hb3 h3)
  go_loopw [3] (fun iv wr => ∃ i : Nat, i ≤ n ∧ iv = .int .i64 (i : Int) ∧ ∃ L2, Own kLeases wr w.heap.size (.slice a3 n cap3) L2 ∧ L2.length = n ∧ L2.map core = l.map core ∧ (∀ j (hj : j < L2.length), j < i → Own eVec wr w3.heap.size L2[j].sl L2[j].vs) ∧ (∀ j (hj : j < L2.length) (hj2 : j < l.length), i ≤ j → L2[j] = l[j]) ∧ Below w.heap.size w wr ∧ w3.heap.size ≤ wr.heap.size) (fun iv _ => n - (intOf iv).toNat)
  case atStart => exact ⟨0, by omega, rfl, l, H3.out.1, HN.out, rfl, fun j hj h => by omega, fun j hj hj2 _ => rfl, H3.out.2, Nat.le_refl _⟩
  case round =>
    obtain ⟨i, hi, rfl, L2, ho, hlen, hcore, hnew, hold, hb, hz⟩ := hrel
    by_cases hlt : i < n
    · have hil : i < L2.length := by omega
      have hil2 : i < l.length := by have := HN.out; omega
      have he := hold i hil hil2 (Nat.le_refl _)
      have hmem : l[i] ∈ l := List.getElem_mem hil2
      have hrd := (H.out.2.1 _ hmem).below hb
      have hvl := H.out.2.2 _ hmem
      obtain ⟨g, cap', hv, hgB, hg, k0, k1, k2⟩ := lv_cells ho hil
      injection hv with e1 e2 e3
      subst e1
      have hfz := World.ownsRow.frozenAt (show Own kLeases wr w.heap.size (.slice (some ⟨g, 0, none⟩) L2.length cap3) L2 by rw [hlen]; exact ho) (i * 3 + 1)
      have hg3 : g < w3.heap.size := (H3.out.1.lt g rfl).2
      obtain ⟨y, hy⟩ : ∃ y, l[i] = y := ⟨_, rfl⟩
      rw [hy] at he hrd hvl
      have hsl : L2[i].sl = y.sl := by rw [he]
      rw [hsl] at k1
      obtain ⟨yi, ya, yc, yv, yt⟩ := y
      obtain ⟨yn, hyn⟩ : ∃ yn, yv.length = yn := ⟨_, rfl⟩
      have hrd2 : RdI wr (.slice ya yn yc) yv := by rw [← hyn]; exact hrd
      have d1 : wr.cell? ⟨g, i * 3 + 1, none⟩ = some (.slice ya yn yc) := by rw [← hyn]; exact k1
      have hC := copyvec_any hrd2 hvl.1 hvl.2
      have r1 : (i : Int) < (n : Int) := by omega
      have HB := Lib.hid (And.intro ho (And.intro hlen (And.intro hcore (And.intro hnew (And.intro hold (And.intro hb (And.intro hz (And.intro he (And.intro hyn (And.intro hil hg3))))))))))
      have hlg : g < wr.heap.size := hg
      clear ho hlen hcore hnew hold hb hz he hyn hrd hrd2 hvl k0 k1 k2 hsl hy hmem e2 e3 hg3
      go_wp2_with (go_at_call 163; refine hC.mono ?_; rintro e w4 ⟨ca, cc, rfl, hco, hcb⟩; have f1 := (hcb.cell (p := ⟨g, i * 3 + 1, none⟩) hlg).trans d1; have z1 := (hcb.frozen (p := ⟨g, i * 3 + 1, none⟩) hlg).trans hfz; have H4 := Lib.hid (And.intro hco hcb); clear hco hcb)
      go_roundw
      case rel =>
        obtain ⟨ho, hlen, hcore, hnew, hold, hb, hz, he, hyn, hil, hg3⟩ := HB.out
        have hts : Tn (fun q => q = g) w4 (w4.setCell ⟨g, i * 3 + 1, none⟩ (.slice ca yn cc)) := Tn.setCell _ _ _ rfl
        have hvs : L2[i].vs = yv := by rw [he]
        have hset := vsetL (row_below ho H4.out.2) hlen hil ca cc
        rw [hvs, hyn] at hset
        refine ⟨i + 1, by omega, by go_num, L2.set i (putVec L2[i] ca cc), hset, by rw [List.length_set]; exact hlen, ?_, fun j hj hji => ?_, fun j hj hj2 hij => ?_, (hb.trans (H4.out.2.mono hb.size)).setCell hgB _, ?_⟩
        · rw [List.map_set, show core (putVec L2[i] ca cc) = core L2[i] from rfl, ← List.getElem_map core (l := L2) (h := by rw [List.length_map]; exact hil), List.set_getElem_self]
          exact hcore
        · rw [List.length_set] at hj
          by_cases hji2 : j = i
          · subst hji2
            rw [List.getElem_set_self]
            have h8 : (putVec L2[j] ca cc).sl = .slice ca yn cc := by
              show Value.slice ca L2[j].vs.length cc = _
              rw [hvs, hyn]
            have h9 : (putVec L2[j] ca cc).vs = yv := hvs
            rw [h8, h9]
            exact row_mono (hts.row H4.out.1 (fun q hq e => by have := (H4.out.1.lt q hq).1; omega)) hz
          · rw [List.getElem_set_ne (fun e => hji2 e.symm)]
            have := hnew j hj (by omega)
            exact hts.row (row_below this H4.out.2) (fun q hq e => by have := (this.lt q hq).1; omega)
        · rw [List.getElem_set_ne (by omega)]
          exact hold j (by rw [List.length_set] at hj; exact hj) hj2 (by omega)
        · have := H4.out.2.size
          simp
          omega
      case measure => simp [intOf]; omega
    · obtain rfl : i = n := by omega
      have HB := Lib.hid (And.intro ho (And.intro hlen (And.intro hcore (And.intro hnew hb))))
      clear ho hlen hcore hnew hold hb hz
      go_wp2
      go_ret
      refine ⟨⟨a3, i, cap3⟩, L2, rfl, HB.out.1, HB.out.2.2.1, fun y hy => ?_, HB.out.2.2.2.2⟩
      obtain ⟨j, hj, rfl⟩ := List.mem_iff_getElem.1 hy
      exact row_mono (HB.out.2.2.2.1 j hj (by have := HB.out.2.1; omega)) H3.out.2.size
end Go.Proofs.YtnegappgdpeabaaGreat
/-
  Book: the kind Leases: one list more.
-/
namespace Go.Proofs.YtnegappgdpeabaaGreat
open Go.RowKit

theorem src_sll (w : World) (s : Sl) (t : TypeId) : Src kLeasesS (w.alloc (.cells #[s.val] t)) (.slice (some ⟨w.heap.size, 0, none⟩) 1 1) [s] := src_one w s _ _ rfl 1

set_option maxRecDepth 100000 in
set_option maxHeartbeats 1000000 in
theorem add_Leases {w : World} {bk B : Nat} {vo vw : Value} {S Sw : List (Sl × List Lv)} (h : KdL kLeases kLeasesS w bk 20 B vo vw S Sw) {s : Sl} {l : List Lv} (hs : Own kLeases w B s.val l) (hne : ∀ q, s.val.ownBlock = some q → ¬ footL vo S q ∧ ¬ footL vw Sw q) (hS : S.length < 250) (hB : B ≤ w.heap.size) (hl : l.length ≤ 100000) (hv : ∀ x ∈ l, RdX (fun q => q = bk ∨ vo.ownBlock = some q) w x) (hl1 : ∀ y ∈ l, 1 ≤ y.vs.length ∧ y.vs.length ≤ 1000000) :
    Calls Tryz.prog 47 #[.pointer (some ⟨bk, 0, none⟩), s.val] w fun e w' => e = .returned (.tuple #[]) ∧ ∃ vo' vw' s2 l2, AddedL kLeases kLeasesS w w' bk 20 B vo vw S Sw s l vo' vw' s2 l2 ∧ ∀ y ∈ l2, Own eVec w' w.heap.size y.sl y.vs := by
  obtain ⟨ao, co, rfl⟩ := h.l.form
  obtain ⟨aw, cw, rfl⟩ := h.lw.form
  have hlen : Sw.length = S.length := by have := congrArg List.length h.same; simpa using this
  obtain ⟨n, hn⟩ : ∃ n, n = S.length := ⟨_, rfl⟩
  rw [hlen, ← hn] at h hne ⊢
  have H := Lib.hid h
  have HS := Lib.hid hs
  have HN := Lib.hid (And.intro hn hlen)
  have HNE := Lib.hid hne
  rw [← hn] at hv
  have HV := Lib.hid (And.intro hv hl1)
  clear hv hl1
  have c0 := h.c0
  have c1 := h.c1
  have f0 := h.free 20
  have f1 := h.free 21
  rw [← hn] at hS
  have t1 : (n : Int) < 250 := by omega
  have hbk : bk < w.heap.size := World.block_lt_of_cell? _ _ h.c0
  have hbkB := h.bk0
  clear h hs hn hlen hne
  go_enter Tryz.func47, Tryz.ntmps47
  obtain ⟨sa, hsa⟩ : ∃ sa, s.a = sa := ⟨_, rfl⟩
  obtain ⟨sn, hsn⟩ : ∃ sn, s.n = sn := ⟨_, rfl⟩
  obtain ⟨sc, hsc⟩ : ∃ sc, s.cap = sc := ⟨_, rfl⟩
  have hsv : s.val = .slice sa sn sc := by unfold Sl.val; rw [hsa, hsn, hsc]
  have HSV := Lib.hid hsv
  rw [hsv]
  clear hsv hsa hsn hsc
  obtain ⟨W1, hW1⟩ : ∃ W1, w.alloc (.cells #[.slice sa sn sc] 27) = W1 := ⟨_, rfl⟩
  have hsrc : Src kLeasesS W1 (.slice (some ⟨w.heap.size, 0, none⟩) 1 1) [s] := by rw [← hW1, ← HSV.out]; exact src_sll w s _
  have hb1 : Below w.heap.size w W1 := by rw [← hW1]; exact (Below.refl _ _).alloc (Nat.le_refl _) _
  have ho1 : Own kLeasesS W1 B (.slice ao n co) (S.map (·.1)) := row_below H.out.l.outer hb1
  have hml : (S.map (·.1)).length = n := by rw [List.length_map, HN.out.1]
  have H1 := Lib.hid (And.intro ho1 (And.intro hsrc (And.intro hb1 hml)))
  have k0 : W1.cell? ⟨bk, 20, none⟩ = some (.slice ao n co) := (hb1.cell (p := ⟨bk, 20, none⟩) hbk).trans c0
  clear hsrc ho1 hb1 hml
  go_wp2_with (at_builtin; go_loud (refine wpl_app2 kLeasesS rfl _ _ rfl rfl rfl H1.out.1 H1.out.2.1 (by rw [H1.out.2.2.2]; simp; omega) (Nat.le_trans hB H1.out.2.2.1.size) ?_); go_loud (rw [H1.out.2.2.2]; intro a3 cap3 w3 hap; have hap2 : Appd kLeasesS W1 w3 B (.slice ao n co) (.slice a3 (n + 1) cap3) (S.map (·.1)) [s] := hap; have HAP := Lib.hid hap2; have g0 := hap.tn.cell k0 (fun e => absurd ((H1.out.1.lt bk e).1) (by omega)); have g1 := (hap.tn.frozen (p := ⟨bk, 20, none⟩) (World.block_lt_of_cell? _ _ k0) (fun e => absurd ((H1.out.1.lt bk e).1) (by omega))).trans ((H1.out.2.2.1.frozen (p := ⟨bk, 20, none⟩) hbk).trans f0); clear hap hap2))
  have HM := Lib.hid (add_midL H.out HS.out HNE.out H1.out.2.2.1 HAP.out)
  obtain ⟨w4, hw4⟩ : ∃ w4, w3.setCell ⟨bk, 20, none⟩ (.slice a3 (n + 1) cap3) = w4 := ⟨_, rfl⟩
  rw [hw4] at HM
  rw [hw4]
  clear hw4 g0 g1 k0 hW1
  have kd1 : w4.drew.cell? ⟨bk, 21, none⟩ = some (.slice aw n cw) := HM.out.c1
  refine wp_region_K (fun w' => w'.cell? ⟨bk, 21, none⟩ = some (.slice aw n cw)) 11 12 (by kernel_rfl) (by kernel_rfl) kd1 (fun hH => ?_)
  refine wpAnyK_take (i := 0) [11] (v := ?v9) rfl (by kernel_rfl) (by kernel_rfl) (by kernel_rfl) (by kernel_rfl) (fun _ _ _ h => h) (Or.inl ⟨by rfl, ?hy9⟩) hH ?rest9
  case hy9 => (intro w hSw; (try dsimp only at hSw); go_simp; with_reducible rfl)
  try simp only [Act.put, List.setIfInBounds_toArray, List.set_cons_zero, List.set_cons_succ]
  refine wpAnyK_take (i := 1) [11] (v := ?v10) rfl (by kernel_rfl) (by kernel_rfl) (by kernel_rfl) (by kernel_rfl) (fun _ _ _ h => h) (Or.inl ⟨by rfl, ?hy10⟩) hH ?rest10
  case hy10 => (intro w hSw; (try dsimp only at hSw); go_simp; with_reducible rfl)
  try simp only [Act.put, List.setIfInBounds_toArray, List.set_cons_zero, List.set_cons_succ]
  refine wpAnyK_take (i := 2) [11] (v := ?v11) rfl (by kernel_rfl) (by kernel_rfl) (by kernel_rfl) (by kernel_rfl) (fun _ _ _ h => h) (Or.inl ⟨by rfl, ?hy11⟩) hH ?rest11
  case hy11 => (intro w hSw; (try dsimp only at hSw); go_simp; with_reducible rfl)
  try simp only [Act.put, List.setIfInBounds_toArray, List.set_cons_zero, List.set_cons_succ]
  refine wpAnyK_take (i := 3) [11] (v := ?v12) rfl (by kernel_rfl) (by kernel_rfl) (by kernel_rfl) (by kernel_rfl) (fun _ _ _ h => h) (Or.inl ⟨by rfl, ?hy12⟩) hH ?rest12
  case hy12 => (intro w hSw; (try dsimp only at hSw); go_simp; with_reducible rfl)
  try simp only [Act.put, List.setIfInBounds_toArray, List.set_cons_zero, List.set_cons_succ]
  refine wpAnyK_take (i := 4) [11] (v := ?v13) rfl (by kernel_rfl) (by kernel_rfl) (by kernel_rfl) (by kernel_rfl) (fun _ _ _ h => h) (Or.inl ⟨by rfl, ?hy13⟩) hH ?rest13
  case hy13 => (intro w hSw; (try dsimp only at hSw); go_simp; with_reducible rfl)
  try simp only [Act.put, List.setIfInBounds_toArray, List.set_cons_zero, List.set_cons_succ]
  refine wpAnyK_take (i := 5) [11] (v := ?v14) rfl (by kernel_rfl) (by kernel_rfl) (by kernel_rfl) (by kernel_rfl) (fun _ _ _ h => h) (Or.inl ⟨by rfl, ?hy14⟩) hH ?rest14
  case hy14 => (intro w hSw; (try dsimp only at hSw); go_simp; with_reducible rfl)
  try simp only [Act.put, List.setIfInBounds_toArray, List.set_cons_zero, List.set_cons_succ]
  refine wpAnyK_one (i := 6) (by kernel_rfl) rfl (fun K hK => ?_) (by kernel_rfl)
  go_simp
  go_at_call 124
  refine (copy_Leases (w := w4.drew) (x := .slice sa sn sc) (l := l) (by rw [← HSV.out]; exact HM.out.hs.src) (fun y hy => ((HV.out.1 y hy).tn HM.out.tnO (fun q _ e => e)).rd) HV.out.2 (by omega)).mono ?_
  rintro e w5 ⟨s2, l2, rfl, ho5, hcr, hvc, hb5⟩
  have kd2 := (hb5.cell (p := ⟨bk, 21, none⟩) (World.block_lt_of_cell? _ _ kd1)).trans kd1
  have H5 := Lib.hid (And.intro ho5 hb5)
  have HCR := Lib.hid (And.intro hcr hvc)
  clear hcr hvc
  clear ho5 hb5
  refine hK.out _ _ kd2 (fun hH => ?_)
  clear hK K
  try simp only [Act.put, List.setIfInBounds_toArray, List.set_cons_zero, List.set_cons_succ]
  obtain ⟨sb, hsb⟩ : ∃ sb, s2.a = sb := ⟨_, rfl⟩
  obtain ⟨sm, hsm⟩ : ∃ sm, s2.n = sm := ⟨_, rfl⟩
  obtain ⟨sd, hsd⟩ : ∃ sd, s2.cap = sd := ⟨_, rfl⟩
  have hsv2 : s2.val = .slice sb sm sd := by unfold Sl.val; rw [hsb, hsm, hsd]
  have HSV2 := Lib.hid hsv2
  rw [hsv2]
  clear hsv2 hsb hsm hsd
  refine wpAnyK_one (i := 7) (by kernel_rfl) rfl (fun K hK => ?_) (by kernel_rfl)
  go_simp
  obtain ⟨w6, hw6⟩ : ∃ w6, w6 = w5.alloc (.cells #[.slice sb sm sd] 27) := ⟨_, rfl⟩
  have hb6 : Below w5.heap.size w5 w6 := by rw [hw6]; exact (Below.refl _ _).alloc (Nat.le_refl _) _
  have hsrc6 : Src kLeasesS w6 (.slice (some ⟨w5.heap.size, 0, none⟩) 1 1) [s2] := by rw [hw6, ← HSV2.out]; exact src_sll w5 s2 _
  rw [← hw6]
  clear hw6
  have kd3 := (hb6.cell (p := ⟨bk, 21, none⟩) (World.block_lt_of_cell? _ _ kd2)).trans kd2
  have hb46 : Below w4.heap.size w4 w6 := ((Below.refl _ _).drew.trans H5.out.2).trans (hb6.mono H5.out.2.size)
  have hown6 : Own kLeasesS w6 B (.slice aw n cw) (Sw.map (·.1)) := row_below HM.out.lw.outer hb46
  have H6 := Lib.hid (And.intro hb6 (And.intro hsrc6 (And.intro hown6 hb46)))
  clear hb6 hsrc6 hown6 hb46
  refine hK.out _ _ kd3 (fun hH => ?_)
  clear hK K
  try simp only [Act.put, List.setIfInBounds_toArray, List.set_cons_zero, List.set_cons_succ]
  have hml2 : (Sw.map (·.1)).length = n := by rw [List.length_map, HN.out.2, HN.out.1]
  refine wpAnyK_one (i := 8) (by kernel_rfl) rfl (fun K hK => ?_) (by kernel_rfl)
  refine step_app2 kLeasesS rfl _ _ rfl rfl rfl H6.out.2.2.1 H6.out.2.1 (by rw [hml2]; simp; omega) (Nat.le_trans hB (Nat.le_trans HM.out.tn.size H6.out.2.2.2.size)) ?_
  rw [hml2]
  intro a7 cap7 w7 hap7'
  have hap7 : Appd kLeasesS w6 w7 B (.slice aw n cw) (.slice a7 (n + 1) cap7) (Sw.map (·.1)) [s2] := hap7'
  have HAP7 := Lib.hid hap7
  have kd4 := hap7.tn.cell kd3 (fun e => absurd ((H6.out.2.2.1.lt bk e).1) (by omega))
  have hf7 : w7.frozen? ⟨bk, 21, none⟩ = false := (hap7.tn.frozen (p := ⟨bk, 21, none⟩) (World.block_lt_of_cell? _ _ kd3) (fun e => absurd ((H6.out.2.2.1.lt bk e).1) (by omega))).trans ((H6.out.2.2.2.frozen (p := ⟨bk, 21, none⟩) (World.block_lt_of_cell? _ _ HM.out.c1)).trans (HM.out.free 21))
  clear hap7 hap7'
  refine hK.out _ _ kd4 (fun hH => ?_)
  clear hK K
  try simp only [Act.put, List.setIfInBounds_toArray, List.set_cons_zero, List.set_cons_succ]
  refine wpAnyK_take (i := 9) [10, 11] (v := ?v15) rfl (by kernel_rfl) (by kernel_rfl) (by kernel_rfl) (by kernel_rfl) (fun _ _ _ h => h) (Or.inl ⟨by rfl, ?hy15⟩) hH ?rest15
  case hy15 => (intro w hSw; (try dsimp only at hSw); go_simp; with_reducible rfl)
  try simp only [Act.put, List.setIfInBounds_toArray, List.set_cons_zero, List.set_cons_succ]
  refine wpAnyK_take (i := 10) [11] (v := ?v16) rfl (by kernel_rfl) (by kernel_rfl) (by kernel_rfl) (by kernel_rfl) (fun _ _ _ h => h) (Or.inl ⟨by rfl, ?hy16⟩) hH ?rest16
  case hy16 => (intro w hSw; (try dsimp only at hSw); go_simp; with_reducible rfl)
  try simp only [Act.put, List.setIfInBounds_toArray, List.set_cons_zero, List.set_cons_succ]
  refine wpAnyK_last (by kernel_rfl) rfl (fun K hK => ?_) (by kernel_rfl)
  go_simp
  refine hK.out _ _ (wpAnyK_done (by kernel_rfl) ?_ _)
  clear hK K hH
  have hfin := Lib.hid (add_endL HCR.out.1 HM.out hB H5.out.1 ((Below.refl _ _).drew.trans H5.out.2) H6.out.1 HAP7.out)
  clear kd4 kd3 kd2 kd1 hml2 hf7
  go_wp2_with fail
  go_end0
  refine ⟨rfl, _, _, _, _, hfin.out, fun y hy => ?_⟩
  have h1 := HCR.out.2 y hy
  have h2 := row_below h1 H6.out.1
  have hwz : w.heap.size ≤ w4.heap.size := HM.out.tn.size
  have h3 := HAP7.out.tn.row h2 (fun q hq e => by have := (h1.lt q hq).1; have := (HM.out.lw.outer.lt q e).2; have : w4.drew.heap.size = w4.heap.size := rfl; omega)
  exact row_mono ((Tn.setCell (F := fun q => q = bk) w7 ⟨bk, 21, none⟩ _ rfl).row h3 (fun q hq e => by have := (h1.lt q hq).1; have : w4.drew.heap.size = w4.heap.size := rfl; omega)) hwz
end Go.Proofs.YtnegappgdpeabaaGreat
/-
  Book: the kind Leases: as it was?
-/
namespace Go.Proofs.YtnegappgdpeabaaGreat
open Go.RowKit

set_option maxHeartbeats 1000000 in
theorem still_Leases {w : World} {bk B : Nat} {vo vw : Value} {S Sw : List (Sl × List Lv)} (h : KdL kLeases kLeasesS w bk 20 B vo vw S Sw) (hS : S.length ≤ 1000) (hl : ∀ i (hi : i < S.length), S[i].2.length ≤ 1000000) (hr : ∀ i (hi : i < S.length), ∀ x ∈ S[i].2, RdI w x.sl x.vs ∧ x.vs.length ≤ 1000000) (hrw : ∀ i (hi : i < Sw.length), ∀ x ∈ Sw[i].2, RdI w x.sl x.vs) :
    Calls Tryz.prog 60 #[.pointer (some ⟨bk, 0, none⟩)] w fun e w' => e = .returned (.bool true) ∧ Below w.heap.size w w' := by
  obtain ⟨ao, co, rfl⟩ := h.l.form
  obtain ⟨aw, cw, rfl⟩ := h.lw.form
  have hlen : Sw.length = S.length := by have := congrArg List.length h.same; simpa using this
  obtain ⟨n, hn⟩ : ∃ n, n = S.length := ⟨_, rfl⟩
  rw [hlen, ← hn] at h
  have H := Lib.hid h
  have HN := Lib.hid (And.intro hn hlen)
  have HL := Lib.hid hl
  have HR := Lib.hid (And.intro hr hrw)
  clear hr hrw
  have hbkl := World.block_lt_of_cell? _ _ h.c0
  have c0 := h.c0
  have c1 := h.c1
  rw [← hn] at hS
  clear h hn hlen hl
  go_enter Tryz.func60, Tryz.ntmps60
  go_wp2
  go_loopw [3] (fun iv wr => ∃ i : Nat, i ≤ n ∧ iv = .int .i64 (i : Int) ∧ Below w.heap.size w wr) (fun iv _ => n - (intOf iv).toNat)
  case atStart => exact ⟨0, by omega, rfl, Below.refl _ _⟩
  case round =>
    obtain ⟨i, hi, rfl, hb⟩ := hrel
    have dd0 := (hb.cell (p := ⟨bk, 20, none⟩) hbkl).trans c0
    by_cases hlt : i < n
    · have hi1 : i < S.length := by have := HN.out.1; omega
      have hi2 : i < Sw.length := by have := HN.out.2; omega
      obtain ⟨g, sa, sc, rfl, d1, s1⟩ := H.out.l.at_ hi1
      obtain ⟨g2, sa2, sc2, rfl, d2, s2⟩ := H.out.lw.at_ hi2
      have hsm : Sw[i].2.map core = S[i].2.map core := by
        have h1 := congrArg (fun l => l[i]?) H.out.same
        simp only [List.getElem?_map, List.getElem?_eq_getElem hi1, List.getElem?_eq_getElem hi2, Option.map_some, Option.some.injEq] at h1
        exact h1
      have hc : RdLs wr (.slice sa S[i].2.length sc) S[i].2 := by rw [← s1]; exact (rdLs_own (H.out.l.each i hi1) (fun x hx => (HR.out.1 i hi1 x hx).1)).below hb
      have hc2 : RdLs wr (.slice sa2 Sw[i].2.length sc2) Sw[i].2 := by rw [← s2]; exact (rdLs_own (H.out.lw.each i hi2) (HR.out.2 i hi2)).below hb
      have hll := HL.out i hi1
      have hS2 := same_Leases hc hc2 hsm.symm hll (fun x hx => (HR.out.1 i hi1 x hx).2)
      have hml := core_len hsm
      obtain ⟨m, hm⟩ : ∃ m, S[i].2.length = m := ⟨_, rfl⟩
      rw [hml] at d2 hc2 hS2
      rw [hm] at d1 d2 hc hc2 hll hS2
      have HC := Lib.hid (fun W (hW : Below wr.heap.size wr W) => same_Leases (hc.below hW) (hc2.below hW) hsm.symm (by omega : S[i].2.length ≤ 1000000) (fun x hx => (HR.out.1 i hi1 x hx).2))
      have HB := Lib.hid hb
      have r1 : (i : Int) < (n : Int) := by omega
      have e0 := (hb.cell (p := ⟨bk, 20, none⟩) hbkl).trans c0
      have e1 := (hb.cell (p := ⟨bk, 21, none⟩) hbkl).trans c1
      have e2 := (hb.cell (p := ⟨g, i, none⟩) (World.block_lt_of_cell? _ _ d1)).trans d1
      have e3 := (hb.cell (p := ⟨g2, i, none⟩) (World.block_lt_of_cell? _ _ d2)).trans d2
      clear hc hc2 s1 s2 hm hsm hS2 hml hb d1 d2
      go_wp2
      refine wp_region_K (fun w' => w'.cell? ⟨bk, 20, none⟩ = some (.slice (some ⟨g, 0, none⟩) n co) ∧ w'.cell? ⟨bk, 21, none⟩ = some (.slice (some ⟨g2, 0, none⟩) n cw) ∧ w'.cell? ⟨g, i, none⟩ = some (.slice sa m sc) ∧ w'.cell? ⟨g2, i, none⟩ = some (.slice sa2 m sc2)) 15 16 (by kernel_rfl) (by kernel_rfl) ⟨e0, e1, e2, e3⟩ (fun hH => ?_)
      refine wpAnyK_take (i := 0) [1, 2, 3, 5, 6, 14, 15] (v := ?v17) rfl (by kernel_rfl) (by kernel_rfl) (by kernel_rfl) (by kernel_rfl) (fun _ _ _ h => h) (Or.inl ⟨by rfl, ?hy17⟩) hH ?rest17
      case hy17 => (intro w hSw; (try dsimp only at hSw); go_simp; with_reducible rfl)
      try simp only [Act.put, List.setIfInBounds_toArray, List.set_cons_zero, List.set_cons_succ]
      refine wpAnyK_take (i := 1) [2, 3, 5, 6, 14, 15] (v := ?v18) rfl (by kernel_rfl) (by kernel_rfl) (by kernel_rfl) (by kernel_rfl) (fun _ _ _ h => h) (Or.inl ⟨by rfl, ?hy18⟩) hH ?rest18
      case hy18 => (intro w hSw; (try dsimp only at hSw); go_simp; with_reducible rfl)
      try simp only [Act.put, List.setIfInBounds_toArray, List.set_cons_zero, List.set_cons_succ]
      refine wpAnyK_take (i := 2) [3, 5, 6, 14, 15] (v := ?v19) rfl (by kernel_rfl) (by kernel_rfl) (by kernel_rfl) (by kernel_rfl) (fun _ _ _ h => h) (Or.inl ⟨by rfl, ?hy19⟩) hH ?rest19
      case hy19 => (intro w hSw; (try dsimp only at hSw); go_simp; with_reducible rfl)
      try simp only [Act.put, List.setIfInBounds_toArray, List.set_cons_zero, List.set_cons_succ]
      refine wpAnyK_take (i := 3) [5, 6, 14, 15] (v := ?v20) rfl (by kernel_rfl) (by kernel_rfl) (by kernel_rfl) (by kernel_rfl) (fun _ _ _ h => h) (Or.inl ⟨by rfl, ?hy20⟩) hH ?rest20
      case hy20 => (intro w hSw; (try dsimp only at hSw); go_simp; with_reducible rfl)
      try simp only [Act.put, List.setIfInBounds_toArray, List.set_cons_zero, List.set_cons_succ]
      refine wpAnyK_take (i := 4) [5, 6, 14, 15] (v := ?v21) rfl (by kernel_rfl) (by kernel_rfl) (by kernel_rfl) (by kernel_rfl) (fun _ _ _ h => h) (Or.inl ⟨by rfl, ?hy21⟩) hH ?rest21
      case hy21 => (intro w hSw; (try dsimp only at hSw); go_simp; with_reducible rfl)
      try simp only [Act.put, List.setIfInBounds_toArray, List.set_cons_zero, List.set_cons_succ]
      refine wpAnyK_take (i := 5) [6, 14, 15] (v := ?v22) rfl (by kernel_rfl) (by kernel_rfl) (by kernel_rfl) (by kernel_rfl) (fun _ _ _ h => h) (Or.inl ⟨by rfl, ?hy22⟩) hH ?rest22
      case hy22 => (intro w hSw; (try dsimp only at hSw); go_simp; with_reducible rfl)
      try simp only [Act.put, List.setIfInBounds_toArray, List.set_cons_zero, List.set_cons_succ]
      refine wpAnyK_take (i := 6) [14, 15] (v := ?v23) rfl (by kernel_rfl) (by kernel_rfl) (by kernel_rfl) (by kernel_rfl) (fun _ _ _ h => h) (Or.inl ⟨by rfl, ?hy23⟩) hH ?rest23
      case hy23 => (intro w hSw; (try dsimp only at hSw); go_simp; with_reducible rfl)
      try simp only [Act.put, List.setIfInBounds_toArray, List.set_cons_zero, List.set_cons_succ]
      refine wpAnyK_take (i := 7) [8, 9, 10, 12, 13, 14, 15] (v := ?v24) rfl (by kernel_rfl) (by kernel_rfl) (by kernel_rfl) (by kernel_rfl) (fun _ _ _ h => h) (Or.inl ⟨by rfl, ?hy24⟩) hH ?rest24
      case hy24 => (intro w hSw; (try dsimp only at hSw); go_simp; with_reducible rfl)
      try simp only [Act.put, List.setIfInBounds_toArray, List.set_cons_zero, List.set_cons_succ]
      refine wpAnyK_take (i := 8) [9, 10, 12, 13, 14, 15] (v := ?v25) rfl (by kernel_rfl) (by kernel_rfl) (by kernel_rfl) (by kernel_rfl) (fun _ _ _ h => h) (Or.inl ⟨by rfl, ?hy25⟩) hH ?rest25
      case hy25 => (intro w hSw; (try dsimp only at hSw); go_simp; with_reducible rfl)
      try simp only [Act.put, List.setIfInBounds_toArray, List.set_cons_zero, List.set_cons_succ]
      refine wpAnyK_take (i := 9) [10, 12, 13, 14, 15] (v := ?v26) rfl (by kernel_rfl) (by kernel_rfl) (by kernel_rfl) (by kernel_rfl) (fun _ _ _ h => h) (Or.inl ⟨by rfl, ?hy26⟩) hH ?rest26
      case hy26 => (intro w hSw; (try dsimp only at hSw); go_simp; with_reducible rfl)
      try simp only [Act.put, List.setIfInBounds_toArray, List.set_cons_zero, List.set_cons_succ]
      refine wpAnyK_take (i := 10) [12, 13, 14, 15] (v := ?v27) rfl (by kernel_rfl) (by kernel_rfl) (by kernel_rfl) (by kernel_rfl) (fun _ _ _ h => h) (Or.inl ⟨by rfl, ?hy27⟩) hH ?rest27
      case hy27 => (intro w hSw; (try dsimp only at hSw); go_simp; with_reducible rfl)
      try simp only [Act.put, List.setIfInBounds_toArray, List.set_cons_zero, List.set_cons_succ]
      refine wpAnyK_take (i := 11) [12, 13, 14, 15] (v := ?v28) rfl (by kernel_rfl) (by kernel_rfl) (by kernel_rfl) (by kernel_rfl) (fun _ _ _ h => h) (Or.inl ⟨by rfl, ?hy28⟩) hH ?rest28
      case hy28 => (intro w hSw; (try dsimp only at hSw); go_simp; with_reducible rfl)
      try simp only [Act.put, List.setIfInBounds_toArray, List.set_cons_zero, List.set_cons_succ]
      refine wpAnyK_take (i := 12) [13, 14, 15] (v := ?v29) rfl (by kernel_rfl) (by kernel_rfl) (by kernel_rfl) (by kernel_rfl) (fun _ _ _ h => h) (Or.inl ⟨by rfl, ?hy29⟩) hH ?rest29
      case hy29 => (intro w hSw; (try dsimp only at hSw); go_simp; with_reducible rfl)
      try simp only [Act.put, List.setIfInBounds_toArray, List.set_cons_zero, List.set_cons_succ]
      refine wpAnyK_take (i := 13) [14, 15] (v := ?v30) rfl (by kernel_rfl) (by kernel_rfl) (by kernel_rfl) (by kernel_rfl) (fun _ _ _ h => h) (Or.inl ⟨by rfl, ?hy30⟩) hH ?rest30
      case hy30 => (intro w hSw; (try dsimp only at hSw); go_simp; with_reducible rfl)
      try simp only [Act.put, List.setIfInBounds_toArray, List.set_cons_zero, List.set_cons_succ]
      refine wpAnyK_one (i := 14) (by kernel_rfl) rfl (fun K hK => ?_) (by kernel_rfl)
      go_simp
      go_at_call 48
      refine (HC.out _ (Below.refl _ _).drew).mono ?_
      rintro e w4 ⟨rfl, hb4⟩
      have HB4 := Lib.hid (HB.out.trans (((Below.refl _ _).drew.trans hb4).mono HB.out.size))
      have f := fun {p : Addr} {v : Value} (hp : wr.cell? p = some v) => (hb4.cell (p := p) (World.block_lt_of_cell? _ _ hp)).trans hp
      refine hK.out _ _ ⟨f e0, f e1, f e2, f e3⟩ (fun hH => ?_)
      clear hK K f hb4
      try simp only [Act.put, List.setIfInBounds_toArray, List.set_cons_zero, List.set_cons_succ]
      refine wpAnyK_last (by kernel_rfl) rfl (fun K hK => ?_) (by kernel_rfl)
      go_simp
      refine hK.out _ _ (wpAnyK_done (by kernel_rfl) ?_ _)
      clear hK K hH e0 e1 e2 e3
      go_wp2
      go_roundw
      case rel => exact ⟨i + 1, by omega, by go_num, HB4.out⟩
      case measure => simp [intOf]; omega
    · obtain rfl : i = n := by omega
      have HB := Lib.hid hb
      clear hb
      go_wp2
      go_ret
      exact ⟨rfl, HB.out⟩
end Go.Proofs.YtnegappgdpeabaaGreat
/-
  Book: the kind Leases: marks are laid.
-/
namespace Go.Proofs.YtnegappgdpeabaaGreat
open Go.RowKit

theorem lset3_cells : ∀ (l : List Lv) (i : Nat) (x : Lv), (l.set i x).flatMap (fun x : Lv => [Value.int .i64 x.id, x.sl, .int .i64 x.till]) = (((l.flatMap (fun x : Lv => [Value.int .i64 x.id, x.sl, .int .i64 x.till])).set (i * 3) (.int .i64 x.id)).set (i * 3 + 1) x.sl).set (i * 3 + 2) (.int .i64 x.till)
  | [], i, x => rfl
  | m :: ms, 0, x => by simp
  | m :: ms, i + 1, x => by
    have ih := lset3_cells ms i x
    rw [List.set_cons_succ, List.flatMap_cons, List.flatMap_cons, ih]
    rw [show (i + 1) * 3 = i * 3 + 1 + 1 + 1 by omega]
    rfl
theorem lput {w : World} {B g n cap : Nat} {l : List Lv} (h : Own kLeases w B (.slice (some ⟨g, 0, none⟩) n cap) l) (hn : l.length = n) (j : Nat) (x : Lv) : Own kLeases (((w.setCell ⟨g, j * 3, none⟩ (.int .i64 x.id)).setCell ⟨g, j * 3 + 1, none⟩ x.sl).setCell ⟨g, j * 3 + 2, none⟩ (.int .i64 x.till)) B (.slice (some ⟨g, 0, none⟩) n cap) (l.set j x) := by
  subst hn
  have h1 := (World.ownsRow.stored h (j * 3) (.int .i64 x.id)).1
  have h2 := (World.ownsRow.stored h1 (j * 3 + 1) x.sl).1
  have h3 := (World.ownsRow.stored h2 (j * 3 + 2) (.int .i64 x.till)).1
  show World.ownsRow _ _ _ _ _ _ _
  rw [lset3_cells, List.length_set]
  exact h3
theorem lget {w : World} {B n cap : Nat} {a : Option Addr} {l : List Lv} (h : Own kLeases w B (.slice a n cap) l) {j : Nat} {x : Lv} (hj : l[j]? = some x) : ∃ g, a = some ⟨g, 0, none⟩ ∧ w.cell? ⟨g, j * 3, none⟩ = some (.int .i64 x.id) ∧ w.cell? ⟨g, j * 3 + 1, none⟩ = some x.sl ∧ w.cell? ⟨g, j * 3 + 2, none⟩ = some (.int .i64 x.till) ∧ (∀ o, w.frozen? ⟨g, o, none⟩ = false) ∧ B ≤ g ∧ g < w.heap.size := by
  obtain ⟨hjl, he⟩ := List.getElem?_eq_some_iff.1 hj
  obtain ⟨g, cap', hv, hg, hlt, k0, k1, k2⟩ := lv_cells h hjl
  injection hv with e1 e2 e3
  subst e1 e2
  rw [he] at k0 k1 k2
  refine ⟨g, rfl, k0, k1, k2, fun o => ?_, hg, hlt⟩
  exact World.ownsRow.frozenAt h o

set_option maxRecDepth 100000 in
set_option maxHeartbeats 2000000 in
theorem put_Leases {w : World} {bk B : Nat} {vo : Value} {S : List (Sl × List Lv)} (hc : w.cell? ⟨bk, 20, none⟩ = some vo) (hbk : bk < B) (h : Lst kLeases kLeasesS w B vo S) (hS : S.length ≤ 1000) (hl : ∀ i (hi : i < S.length), S[i].2.length ≤ 1000000) :
    Calls Tryz.prog 67 #[.pointer (some ⟨bk, 0, none⟩)] w fun e w' => e = .returned (.tuple #[]) ∧ Lst kLeases kLeasesS w' B vo (mset mkLeases S.length S) ∧ Tn (footL vo S) w w' := by
  obtain ⟨ao, co, rfl⟩ := h.form
  obtain ⟨n, hn⟩ : ∃ n, n = S.length := ⟨_, rfl⟩
  rw [← hn] at h hc hS ⊢
  have HL := Lib.hid hl
  have HN := Lib.hid hn
  have HC := Lib.hid (And.intro hc h)
  have hlt0 := World.block_lt_of_cell? _ _ hc
  clear hn hl
  go_enter Tryz.func67, Tryz.ntmps67
  go_wp2
  go_loopw [2, 3, 4] (fun iv _ _ wr => ∃ i : Nat, i ≤ n ∧ iv = .int .i64 (i : Int) ∧ Lst kLeases kLeasesS wr B (.slice ao n co) (mset mkLeases i S) ∧ Tn (footL (.slice ao n co) S) w wr) (fun iv _ _ _ => n - (intOf iv).toNat)
  case atStart => exact ⟨0, by omega, rfl, by rw [mset_zero]; exact h, Tn.refl _ _⟩
  case round =>
    obtain ⟨wo, rfl⟩ : ∃ wo, wo = wr := ⟨_, rfl⟩
    obtain ⟨i, hi, rfl, hlst, htn⟩ := hrel
    clear hc h
    have hnf : ∀ q, footL (.slice ao n co) S q → q ≠ bk := fun q hq e => by have := (HC.out.2.lt hq).1; omega
    have cb : wo.cell? ⟨bk, 20, none⟩ = some (.slice ao n co) := htn.cell HC.out.1 (fun hq => hnf bk hq rfl)
    have HT := Lib.hid (And.intro hlst (And.intro htn hnf))
    clear htn hnf
    by_cases hlt : i < n
    · have hi1 : i < S.length := by have := HN.out; omega
      have hi2 : i < (mset mkLeases i S).length := by rw [mset_len]; exact hi1
      have hmg : (mset mkLeases i S)[i] = (S[i].1, S[i].2) := by rw [mset_get mkLeases i i S hi2 hi1]; simp
      obtain ⟨g, sa, sc, rfl, d1, s1⟩ := hlst.at_ hi2
      rw [hmg] at d1 s1
      simp only at d1 s1
      obtain ⟨m, hm⟩ : ∃ m, S[i].2.length = m := ⟨_, rfl⟩
      have hll := HL.out i hi1
      rw [hm] at d1 s1 hll
      have HM := Lib.hid (And.intro hm (And.intro s1 hmg))
      have r1 : (i : Int) < (n : Int) := by omega
      clear hm s1 hmg hlst
      go_wp2_with (go_at_call 141; refine (mark_Leases i 0 m (by omega) (by omega) (by omega) _).mono ?_; rintro e w1 ⟨am, cm, rfl, hom, hbm⟩; have HO := Lib.hid (And.intro hom hbm); clear hom hbm)
      go_loopw [4] (fun kv wr2 => ∃ j : Nat, j ≤ m ∧ kv = .int .i64 (j : Int) ∧ Lst kLeases kLeasesS wr2 B (.slice (some ⟨g, 0, none⟩) n co) (relist (mset mkLeases i S) i (marks mkLeases i 0 j ++ S[i].2.drop j)) ∧ Own kLeases wr2 wo.heap.size (.slice am m cm) (marks mkLeases i 0 m) ∧ Tn (footL (.slice (some ⟨g, 0, none⟩) n co) S) w wr2) (fun kv _ => m - (intOf kv).toNat)
      case atStart =>
        refine ⟨0, by omega, rfl, ?_, HO.out.1, HT.out.2.1.trans (Tn.ofBelow HO.out.2)⟩
        have : marks mkLeases i 0 0 ++ S[i].2.drop 0 = (mset mkLeases i S)[i].2 := by rw [HM.out.2.2]; rfl
        rw [this, relist_same _ _ hi2]
        exact HT.out.1.below HO.out.2
      case round =>
        obtain ⟨wr2, rfl⟩ : ∃ wr2, wr2 = wr := ⟨_, rfl⟩
        obtain ⟨j, hj, rfl, hlst2, hom2, htn2⟩ := hrel
        have cb2 : wr2.cell? ⟨bk, 20, none⟩ = some (.slice (some ⟨g, 0, none⟩) n co) := htn2.cell HC.out.1 (fun hq => HT.out.2.2 bk hq rfl)
        by_cases hlt2 : j < m
        · have hi3 : i < (relist (mset mkLeases i S) i (marks mkLeases i 0 j ++ S[i].2.drop j)).length := by rw [relist_len]; exact hi2
          have hrg : (relist (mset mkLeases i S) i (marks mkLeases i 0 j ++ S[i].2.drop j))[i] = (S[i].1, marks mkLeases i 0 j ++ S[i].2.drop j) := by
            rw [relist_get _ i i _ hi3 hi2, HM.out.2.2]; simp
          have hml : (marks mkLeases i 0 j ++ S[i].2.drop j).length = m := by rw [List.length_append, marks_len, List.length_drop, HM.out.1]; omega
          obtain ⟨g', sa', sc', hg', d2, s2⟩ := hlst2.at_ hi3
          obtain rfl : g = g' := by injection hg' with e; injection e
          have hown := hlst2.each i hi3
          rw [hrg] at d2 s2 hown
          simp only [hml] at d2 s2
          simp only at hown
          rw [HM.out.2.1] at s2
          obtain ⟨rfl, -, rfl⟩ := Value.slice.inj s2
          rw [HM.out.2.1] at hown
          have hsd : (marks mkLeases i 0 j ++ S[i].2.drop j)[j]? = some (S[i].2[j]'(by rw [HM.out.1]; exact hlt2)) := by
            rw [List.getElem?_append_right (by rw [marks_len]; omega), marks_len, Nat.sub_self, List.getElem?_drop, Nat.add_zero, List.getElem?_eq_getElem (by rw [HM.out.1]; exact hlt2)]
          obtain ⟨gi, rfl, x1, x1b, x1c, x2, x3, x4⟩ := lget hown hsd
          obtain ⟨gm, rfl, y1, y1b, y1c, -, y3, y4⟩ := lget hom2 (marks_get mkLeases i m j hlt2)
          obtain ⟨ov, hov⟩ : ∃ ov, S[i].2[j]'(by rw [HM.out.1]; exact hlt2) = ov := ⟨_, rfl⟩
          rw [hov] at x1 x1b x1c
          have x2a := x2 (j * 3)
          have x2b := x2 (j * 3 + 1)
          have x2c := x2 (j * 3 + 2)
          obtain ⟨ov1, ova, ovc, ovv, ov3⟩ := ov
          simp only [Lv.sl] at x1 x1b x1c
          obtain ⟨n1, n3, hnv⟩ : ∃ n1 n3, mkLeases i j = ⟨n1, none, 0, [], n3⟩ := ⟨_, _, rfl⟩
          rw [hnv] at y1 y1b y1c
          replace y1 : wr2.cell? ⟨gm, j * 3, none⟩ = some (.int .i64 n1) := y1
          replace y1b : wr2.cell? ⟨gm, j * 3 + 1, none⟩ = some (.slice none 0 0) := y1b
          replace y1c : wr2.cell? ⟨gm, j * 3 + 2, none⟩ = some (.int .i64 n3) := y1c
          have hset := lput hown (by exact hml) j (mkLeases i j)
          rw [mark_over mkLeases i j _ (by rw [HM.out.1]; exact hlt2)] at hset
          have hgg : gi ≠ gm := fun e => by
            have := (hlst2.lt (q := gi) (.inr ⟨i, hi3, by rw [hrg]; simp only; rw [HM.out.2.1]; rfl⟩)).2
            have h5 : footL (.slice (some ⟨g, 0, none⟩) n co) (mset mkLeases i S) gi := .inr ⟨i, hi2, by rw [HM.out.2.2]; simp only; rw [HM.out.2.1]; rfl⟩
            have := (HT.out.1.lt h5).2
            omega
          have HX := Lib.hid (And.intro hlst2 (And.intro hom2 (And.intro htn2 (And.intro hset (And.intro hrg (And.intro hnv hgg))))))
          have r2 : (j : Int) < (m : Int) := by omega
          clear hlst2 hom2 htn2 hset hrg hnv hov hown s2 hml hsd hg' hgg
          go_wp2
          refine wp_region_K (fun w' => w'.cell? ⟨bk, 20, none⟩ = some (.slice (some ⟨g, 0, none⟩) n co) ∧ w'.cell? ⟨g, i, none⟩ = some (.slice (some ⟨gi, 0, none⟩) m sc) ∧ w'.cell? ⟨gm, j * 3, none⟩ = some (.int .i64 n1) ∧ w'.cell? ⟨gm, j * 3 + 1, none⟩ = some (.slice none 0 0) ∧ w'.cell? ⟨gm, j * 3 + 2, none⟩ = some (.int .i64 n3)) 13 14 (by kernel_rfl) (by kernel_rfl) ⟨cb2, d2, y1, y1b, y1c⟩ (fun hH => ?_)
          refine wpAnyK_take (i := 0) [13] (v := ?v31) rfl (by kernel_rfl) (by kernel_rfl) (by kernel_rfl) (by kernel_rfl) (fun _ _ _ h => h) (Or.inl ⟨by rfl, ?hy31⟩) hH ?rest31
          case hy31 => (intro w hSw; (try dsimp only at hSw); go_simp; with_reducible rfl)
          try simp only [Act.put, List.setIfInBounds_toArray, List.set_cons_zero, List.set_cons_succ]
          refine wpAnyK_take (i := 1) [13] (v := ?v32) rfl (by kernel_rfl) (by kernel_rfl) (by kernel_rfl) (by kernel_rfl) (fun _ _ _ h => h) (Or.inl ⟨by rfl, ?hy32⟩) hH ?rest32
          case hy32 => (intro w hSw; (try dsimp only at hSw); go_simp; with_reducible rfl)
          try simp only [Act.put, List.setIfInBounds_toArray, List.set_cons_zero, List.set_cons_succ]
          refine wpAnyK_take (i := 2) [13] (v := ?v33) rfl (by kernel_rfl) (by kernel_rfl) (by kernel_rfl) (by kernel_rfl) (fun _ _ _ h => h) (Or.inl ⟨by rfl, ?hy33⟩) hH ?rest33
          case hy33 => (intro w hSw; (try dsimp only at hSw); go_simp; with_reducible rfl)
          try simp only [Act.put, List.setIfInBounds_toArray, List.set_cons_zero, List.set_cons_succ]
          refine wpAnyK_take (i := 3) [13] (v := ?v34) rfl (by kernel_rfl) (by kernel_rfl) (by kernel_rfl) (by kernel_rfl) (fun _ _ _ h => h) (Or.inl ⟨by rfl, ?hy34⟩) hH ?rest34
          case hy34 => (intro w hSw; (try dsimp only at hSw); go_simp; with_reducible rfl)
          try simp only [Act.put, List.setIfInBounds_toArray, List.set_cons_zero, List.set_cons_succ]
          refine wpAnyK_take (i := 4) [13] (v := ?v35) rfl (by kernel_rfl) (by kernel_rfl) (by kernel_rfl) (by kernel_rfl) (fun _ _ _ h => h) (Or.inl ⟨by rfl, ?hy35⟩) hH ?rest35
          case hy35 => (intro w hSw; (try dsimp only at hSw); go_simp; with_reducible rfl)
          try simp only [Act.put, List.setIfInBounds_toArray, List.set_cons_zero, List.set_cons_succ]
          refine wpAnyK_take (i := 5) [13] (v := ?v36) rfl (by kernel_rfl) (by kernel_rfl) (by kernel_rfl) (by kernel_rfl) (fun _ _ _ h => h) (Or.inl ⟨by rfl, ?hy36⟩) hH ?rest36
          case hy36 => (intro w hSw; (try dsimp only at hSw); go_simp; with_reducible rfl)
          try simp only [Act.put, List.setIfInBounds_toArray, List.set_cons_zero, List.set_cons_succ]
          refine wpAnyK_take (i := 6) [13] (v := ?v37) rfl (by kernel_rfl) (by kernel_rfl) (by kernel_rfl) (by kernel_rfl) (fun _ _ _ h => h) (Or.inl ⟨by rfl, ?hy37⟩) hH ?rest37
          case hy37 => (intro w hSw; (try dsimp only at hSw); go_simp; with_reducible rfl)
          try simp only [Act.put, List.setIfInBounds_toArray, List.set_cons_zero, List.set_cons_succ]
          refine wpAnyK_take (i := 7) [13] (v := ?v38) rfl (by kernel_rfl) (by kernel_rfl) (by kernel_rfl) (by kernel_rfl) (fun _ _ _ h => h) (Or.inl ⟨by rfl, ?hy38⟩) hH ?rest38
          case hy38 => (intro w hSw; (try dsimp only at hSw); go_simp; with_reducible rfl)
          try simp only [Act.put, List.setIfInBounds_toArray, List.set_cons_zero, List.set_cons_succ]
          refine wpAnyK_take (i := 8) [13] (v := ?v39) rfl (by kernel_rfl) (by kernel_rfl) (by kernel_rfl) (by kernel_rfl) (fun _ _ _ h => h) (Or.inl ⟨by rfl, ?hy39⟩) hH ?rest39
          case hy39 => (intro w hSw; (try dsimp only at hSw); go_simp; with_reducible rfl)
          try simp only [Act.put, List.setIfInBounds_toArray, List.set_cons_zero, List.set_cons_succ]
          refine wpAnyK_take (i := 9) [13] (v := ?v40) rfl (by kernel_rfl) (by kernel_rfl) (by kernel_rfl) (by kernel_rfl) (fun _ _ _ h => h) (Or.inl ⟨by rfl, ?hy40⟩) hH ?rest40
          case hy40 => (intro w hSw; (try dsimp only at hSw); go_simp; with_reducible rfl)
          try simp only [Act.put, List.setIfInBounds_toArray, List.set_cons_zero, List.set_cons_succ]
          refine wpAnyK_take (i := 10) [13] (v := ?v41) rfl (by kernel_rfl) (by kernel_rfl) (by kernel_rfl) (by kernel_rfl) (fun _ _ _ h => h) (Or.inl ⟨by rfl, ?hy41⟩) hH ?rest41
          case hy41 => (intro w hSw; (try dsimp only at hSw); go_simp; with_reducible rfl)
          try simp only [Act.put, List.setIfInBounds_toArray, List.set_cons_zero, List.set_cons_succ]
          refine wpAnyK_take (i := 11) [13] (v := ?v42) rfl (by kernel_rfl) (by kernel_rfl) (by kernel_rfl) (by kernel_rfl) (fun _ _ _ h => h) (Or.inl ⟨by rfl, ?hy42⟩) hH ?rest42
          case hy42 => (intro w hSw; (try dsimp only at hSw); go_simp; with_reducible rfl)
          try simp only [Act.put, List.setIfInBounds_toArray, List.set_cons_zero, List.set_cons_succ]
          refine wpAnyK_take (i := 12) [13] (v := ?v43) rfl (by kernel_rfl) (by kernel_rfl) (by kernel_rfl) (by kernel_rfl) (fun _ _ _ h => h) (Or.inl ⟨by rfl, ?hy43⟩) hH ?rest43
          case hy43 => (intro w hSw; (try dsimp only at hSw); go_simp; with_reducible rfl)
          try simp only [Act.put, List.setIfInBounds_toArray, List.set_cons_zero, List.set_cons_succ]
          refine wpAnyK_last (by kernel_rfl) rfl (fun K hK => ?_) (by kernel_rfl)
          go_simp
          refine hK.out _ _ (wpAnyK_done (by kernel_rfl) ?_ _)
          clear hK K hH
          have hfin : Lst kLeases kLeasesS (((wr2.drew.setCell ⟨gi, j * 3, none⟩ (.int .i64 n1)).setCell ⟨gi, j * 3 + 1, none⟩ (.slice none 0 0)).setCell ⟨gi, j * 3 + 2, none⟩ (.int .i64 n3)) B (.slice (some ⟨g, 0, none⟩) n co) (relist (mset mkLeases i S) i (marks mkLeases i 0 (j + 1) ++ S[i].2.drop (j + 1))) := by
            have hl0 : Lst kLeases kLeasesS wr2.drew B (.slice (some ⟨g, 0, none⟩) n co) _ := HX.out.1.below (Below.refl _ _).drew
            have h7 := hl0.relist (w' := (((wr2.drew.setCell ⟨gi, j * 3, none⟩ (.int .i64 n1)).setCell ⟨gi, j * 3 + 1, none⟩ (.slice none 0 0)).setCell ⟨gi, j * 3 + 2, none⟩ (.int .i64 n3))) hi3 (l := marks mkLeases i 0 (j + 1) ++ S[i].2.drop (j + 1)) (((Tn.setCell _ ⟨gi, j * 3, none⟩ _ (by rw [HX.out.2.2.2.2.1]; simp only; rw [HM.out.2.1]; rfl)).trans (Tn.setCell _ ⟨gi, j * 3 + 1, none⟩ _ (by rw [HX.out.2.2.2.2.1]; simp only; rw [HM.out.2.1]; rfl))).trans (Tn.setCell _ ⟨gi, j * 3 + 2, none⟩ _ (by rw [HX.out.2.2.2.2.1]; simp only; rw [HM.out.2.1]; rfl))) (by
              rw [HX.out.2.2.2.2.1]
              simp only
              rw [HM.out.2.1]
              have h8 := HX.out.2.2.2.1
              rw [HX.out.2.2.2.2.2.1] at h8
              exact h8)
            rw [relist_twice] at h7
            exact h7
          have hom3 : Own kLeases (((wr2.drew.setCell ⟨gi, j * 3, none⟩ (.int .i64 n1)).setCell ⟨gi, j * 3 + 1, none⟩ (.slice none 0 0)).setCell ⟨gi, j * 3 + 2, none⟩ (.int .i64 n3)) wo.heap.size (.slice (some ⟨gm, 0, none⟩) m cm) (marks mkLeases i 0 m) :=
            (((Tn.setCell (F := fun q => q = gi) wr2.drew ⟨gi, j * 3, none⟩ (.int .i64 n1) rfl).trans (Tn.setCell _ ⟨gi, j * 3 + 1, none⟩ (.slice none 0 0) rfl)).trans (Tn.setCell _ ⟨gi, j * 3 + 2, none⟩ _ rfl)).row (World.ownsRow.drew HX.out.2.1) (fun q hq e => HX.out.2.2.2.2.2.2 (by rw [← e]; exact (Option.some.inj hq).symm))
          have htn3 : Tn (footL (.slice (some ⟨g, 0, none⟩) n co) S) w (((wr2.drew.setCell ⟨gi, j * 3, none⟩ (.int .i64 n1)).setCell ⟨gi, j * 3 + 1, none⟩ (.slice none 0 0)).setCell ⟨gi, j * 3 + 2, none⟩ (.int .i64 n3)) :=
            (((HX.out.2.2.1.trans (Tn.drew _)).trans (Tn.setCell _ ⟨gi, j * 3, none⟩ _ (.inr ⟨i, hi1, by rw [HM.out.2.1]; rfl⟩))).trans (Tn.setCell _ ⟨gi, j * 3 + 1, none⟩ _ (.inr ⟨i, hi1, by rw [HM.out.2.1]; rfl⟩))).trans (Tn.setCell _ ⟨gi, j * 3 + 2, none⟩ _ (.inr ⟨i, hi1, by rw [HM.out.2.1]; rfl⟩))
          have HF := Lib.hid (And.intro hfin (And.intro hom3 htn3))
          clear hfin hom3 htn3
          go_wp2_with fail
          go_roundw
          case rel => exact ⟨j + 1, by omega, by go_num, HF.out.1, HF.out.2.1, HF.out.2.2⟩
          case measure => simp [intOf]; omega
        · obtain rfl : j = m := by omega
          clear hom2
          have HZ := Lib.hid (And.intro hlst2 htn2)
          clear hlst2 htn2
          go_wp2
          go_roundw
          case rel =>
            refine ⟨i + 1, by omega, by go_num, ?_, HZ.out.2⟩
            have h6 := HZ.out.1
            rw [List.drop_of_length_le (by rw [HM.out.1]; omega), List.append_nil] at h6
            rw [← mset_succ mkLeases i S hi1, HM.out.1]
            exact h6
          case measure => simp [intOf]; omega
    · obtain rfl : i = n := by omega
      clear hlst
      go_wp2
      go_end0
      exact ⟨rfl, HT.out.1, HT.out.2.1⟩
end Go.Proofs.YtnegappgdpeabaaGreat
/-
  Book: the kind Leases: lists are grown; are all marked?
-/
namespace Go.Proofs.YtnegappgdpeabaaGreat
open Go.RowKit

set_option maxRecDepth 100000 in
set_option maxHeartbeats 2000000 in
theorem grow_Leases {w : World} {bk B : Nat} {vo : Value} {S : List (Sl × List Lv)} (hc : w.cell? ⟨bk, 20, none⟩ = some vo) (hbk : bk < B) (h : Lst kLeases kLeasesS w B vo S) (hS : S.length ≤ 1000) (hl : ∀ i (hi : i < S.length), S[i].2.length ≤ 1000000) (hmk : Mkd mkLeases S) (hB : B ≤ w.heap.size) :
    Calls Tryz.prog 90 #[.pointer (some ⟨bk, 0, none⟩)] w fun e w' => ∃ outv Sg, e = .returned outv ∧ Grow kLeases kLeasesS mkLeases w w' B vo S outv Sg S.length := by
  obtain ⟨ao, co, rfl⟩ := h.form
  obtain ⟨n, hn⟩ : ∃ n, n = S.length := ⟨_, rfl⟩
  rw [← hn] at h hc hS ⊢
  have HL := Lib.hid hl
  have HN := Lib.hid hn
  have HC := Lib.hid (And.intro hc (And.intro h hmk))
  have hlt0 : bk < w.heap.size := World.block_lt_of_cell? _ _ hc
  clear hn hl hmk
  go_enter Tryz.func90, Tryz.ntmps90
  go_wp2
  go_loopw [3, 4, 5, 6] (fun ov iv _ _ wr => ∃ i : Nat, i ≤ n ∧ iv = .int .i64 (i : Int) ∧ ∃ Sg, Grow kLeases kLeasesS mkLeases w wr B (.slice ao n co) S ov Sg i) (fun _ iv _ _ _ => n - (intOf iv).toNat)
  case atStart => exact ⟨0, by omega, rfl, [], Grow.start h⟩
  case round =>
    obtain ⟨wo, rfl⟩ : ∃ wo, wo = wr := ⟨_, rfl⟩
    obtain ⟨i, hi, rfl, Sg, hgr⟩ := hrel
    clear hc h
    have cb : wo.cell? ⟨bk, 20, none⟩ = some (.slice ao n co) := hgr.tn.cell HC.out.1 (fun hq => by have := (HC.out.2.1.lt (q := bk) hq).1; omega)
    obtain ⟨aout, cout, rfl⟩ := hgr.g.form
    have hsg := hgr.len
    rw [hsg] at hgr ⊢
    have HG := Lib.hid (And.intro hgr hsg)
    clear hsg
    by_cases hlt : i < n
    · have hi1 : i < S.length := by have := HN.out; omega
      obtain ⟨g, sa, sc, rfl, d1, s1⟩ := hgr.l.at_ hi1
      have hin := hgr.in_ hi1 HC.out.2.2
      rw [s1] at hin
      obtain ⟨m, hm⟩ : ∃ m, S[i].2.length = m := ⟨_, rfl⟩
      have hll := HL.out i hi1
      rw [hm] at d1 s1 hll hin
      have HM := Lib.hid (And.intro hm (And.intro s1 hin))
      have r1 : (i : Int) < (n : Int) := by omega
      clear hm s1 hgr hin
      go_wp2
      go_loopw [5, 6] (fun lv tv wr2 => ∃ t : Nat, t ≤ 12 ∧ tv = .int .i64 (t : Int) ∧ ∃ la lc, lv = .slice la (m + t) lc ∧ GrowIn kLeases kLeasesS mkLeases w wr2 B (.slice (some ⟨g, 0, none⟩) n co) S (.slice aout i cout) Sg i lv t) (fun _ tv _ => 12 - (intOf tv).toNat)
      case atStart => exact ⟨0, by omega, rfl, sa, sc, rfl, HM.out.2.2⟩
      case round =>
        obtain ⟨wr2, rfl⟩ : ∃ wr2, wr2 = wr := ⟨_, rfl⟩
        obtain ⟨t, ht, rfl, la, lc, rfl, hin2⟩ := hrel
        have HI := Lib.hid hin2
        clear hin2
        by_cases hlt2 : t < 12
        · have r2 : (t : Int) < 12 := by omega
          have mm := mark_Leases i (m + t) 1 (by omega) (by omega) (by omega)
          go_wp2_with (first
            | (go_at_call 141; go_loud (refine (mm _).mono ?_); rintro e w3 ⟨am, cm, rfl, hom, hbm⟩; have HO := Lib.hid (And.intro hom hbm); clear hom hbm)
            | (at_builtin; have tok := HO; go_loud (refine wpl_app2 kLeases rfl _ _ rfl rfl rfl (l := marks mkLeases i 0 m ++ marks mkLeases i m t) (l2 := marks mkLeases i (m + t) 1) (by rw [marks_app]; have h9 := (HI.out.below HO.out.2).own; rw [HM.out.1] at h9; have e9 := marks_len mkLeases i 0 (m + t); exact h9) (src_own HO.out.1 (Below.refl _ _)) (by rw [List.length_append, marks_len, marks_len, marks_len]; omega) (Nat.le_trans hB (Nat.le_trans HI.out.gr.tn.size HO.out.2.size)) ?_); go_loud (rw [show (marks mkLeases i 0 m ++ marks mkLeases i m t).length + (marks mkLeases i (m + t) 1).length = m + (t + 1) from by rw [List.length_append, marks_len, marks_len, marks_len]; (try omega)]; intro a4 cap4 w4 hap; have hap2 : Appd kLeases w3 w4 B (.slice la (m + t) lc) (.slice a4 (m + (t + 1)) cap4) (marks mkLeases i 0 m ++ marks mkLeases i m t) (marks mkLeases i (m + t) 1) := hap; have hin3 := (HI.out.below HO.out.2).step HC.out.2.2 (m := 1) (by rw [HM.out.1]; exact hap2); have HI3 := Lib.hid hin3; clear hap hap2 hin3 HO)))
          go_roundw
          case rel => exact ⟨t + 1, by omega, by go_num, a4, cap4, rfl, HI3.out⟩
          case measure => simp [intOf]; omega
        · obtain rfl : t = 12 := by omega
          have mm := mark_Leases i (m + 12) 60 (by omega) (by omega) (by omega)
          go_wp2_with (first
            | (go_at_call 141; go_loud (refine (mm _).mono ?_); rintro e w3 ⟨am, cm, rfl, hom, hbm⟩; have HO := Lib.hid (And.intro hom hbm); clear hom hbm)
            | (at_builtin; have tok := HO; go_loud (refine wpl_app2 kLeases rfl _ _ rfl rfl rfl (l := marks mkLeases i 0 m ++ marks mkLeases i m 12) (l2 := marks mkLeases i (m + 12) 60) (by rw [marks_app]; have h9 := (HI.out.below HO.out.2).own; rw [HM.out.1] at h9; have e9 := marks_len mkLeases i 0 (m + 12); exact h9) (src_own HO.out.1 (Below.refl _ _)) (by rw [List.length_append, marks_len, marks_len, marks_len]; omega) (Nat.le_trans hB (Nat.le_trans HI.out.gr.tn.size HO.out.2.size)) ?_); go_loud (rw [show (marks mkLeases i 0 m ++ marks mkLeases i m 12).length + (marks mkLeases i (m + 12) 60).length = m + (12 + 60) from by rw [List.length_append, marks_len, marks_len, marks_len]; (try omega)]; intro a4 cap4 w4 hap; have hap2 : Appd kLeases w3 w4 B (.slice la (m + 12) lc) (.slice a4 (m + (12 + 60)) cap4) (marks mkLeases i 0 m ++ marks mkLeases i m 12) (marks mkLeases i (m + 12) 60) := hap; have hin3 := (HI.out.below HO.out.2).step HC.out.2.2 (m := 60) (by rw [HM.out.1]; exact hap2); have HI3 := Lib.hid hin3; clear hap hap2 hin3 HO))
            | (at_builtin; have tok := HI3; have hb5 : Below w4.heap.size w4 (w4.alloc (.cells #[.slice a4 (m + 72) cap4] 27)) := (Below.refl _ _).alloc (Nat.le_refl _) _; have HI5 := Lib.hid (HI3.out.below hb5); go_loud (refine wpl_app2 kLeasesS rfl _ _ rfl rfl rfl (l := Sg.map (·.1)) (l2 := [(⟨a4, m + 72, cap4⟩ : Sl)]) HI5.out.gr.g.outer (src_sll w4 ⟨a4, m + 72, cap4⟩ _) (by rw [List.length_map, HG.out.2]; simp; omega) (Nat.le_trans hB HI5.out.gr.tn.size) ?_); go_loud (rw [show (Sg.map (·.1)).length + [(⟨a4, m + 72, cap4⟩ : Sl)].length = i + 1 from by rw [List.length_map, HG.out.2]; rfl]; intro a6 cap6 w6 hap6; have hd := HI5.out.done (s := ⟨a4, m + 72, cap4⟩) hap6; have HD := Lib.hid hd; clear hap6 hd hb5 HI3)))
          go_roundw
          case rel => exact ⟨i + 1, by omega, by go_num, _, HD.out⟩
          case measure => simp [intOf]; omega
    · obtain rfl : i = n := by omega
      clear hgr
      go_wp2
      go_ret
      exact ⟨_, Sg, rfl, HG.out.1⟩

set_option maxRecDepth 100000 in
set_option maxHeartbeats 2000000 in
theorem marked_Leases {w : World} {B : Nat} {vo : Value} {S : List (Sl × List Lv)} (h : Lst kLeases kLeasesS w B vo S) (hS : S.length ≤ 1000) (hl : ∀ i (hi : i < S.length), S[i].2.length ≤ 1000000) (hmk : Mkd mkLeases S) :
    Calls Tryz.prog 105 #[vo] w fun e w' => e = .returned (.bool true) ∧ Below w.heap.size w w' := by
  obtain ⟨ao, co, rfl⟩ := h.form
  obtain ⟨n, hn⟩ : ∃ n, n = S.length := ⟨_, rfl⟩
  rw [← hn] at h hS ⊢
  have HL := Lib.hid hl
  have HN := Lib.hid hn
  have HC := Lib.hid (And.intro h hmk)
  clear hn hl hmk h
  go_enter Tryz.func105, Tryz.ntmps105
  go_wp2
  go_loopw [3] (fun iv wr => ∃ i : Nat, i ≤ n ∧ iv = .int .i64 (i : Int) ∧ Below w.heap.size w wr) (fun iv _ => n - (intOf iv).toNat)
  case atStart => exact ⟨0, by omega, rfl, Below.refl _ _⟩
  case round =>
    obtain ⟨i, hi, rfl, hbel⟩ := hrel
    have HB := Lib.hid hbel
    have hlr := HC.out.1.below hbel
    clear hbel
    by_cases hlt : i < n
    · have hi1 : i < S.length := by have := HN.out; omega
      obtain ⟨g, sa, sc, rfl, d1, s1⟩ := hlr.at_ hi1
      have hll := HL.out i hi1
      have hown := hlr.each i hi1
      rw [HC.out.2 i hi1] at hown
      obtain ⟨m, hm⟩ : ∃ m, S[i].2.length = m := ⟨_, rfl⟩
      rw [s1] at hown
      rw [hm] at d1 s1 hll hown
      have HO := Lib.hid hown
      have r1 : (i : Int) < (n : Int) := by omega
      clear s1 hm hlr hown
      go_wp2
      have kd1 : wr.drew.cell? ⟨g, i, none⟩ = some (.slice sa m sc) := d1
      refine wp_region_K (fun w' => w'.cell? ⟨g, i, none⟩ = some (.slice sa m sc)) 12 13 (by kernel_rfl) (by kernel_rfl) kd1 (fun hH => ?_)
      refine wpAnyK_take (i := 0) [2, 3, 11, 12] (v := ?v44) rfl (by kernel_rfl) (by kernel_rfl) (by kernel_rfl) (by kernel_rfl) (fun _ _ _ h => h) (Or.inl ⟨by rfl, ?hy44⟩) hH ?rest44
      case hy44 => (intro w hSw; (try dsimp only at hSw); go_simp; with_reducible rfl)
      try simp only [Act.put, List.setIfInBounds_toArray, List.set_cons_zero, List.set_cons_succ]
      refine wpAnyK_take (i := 1) [2, 3, 11, 12] (v := ?v45) rfl (by kernel_rfl) (by kernel_rfl) (by kernel_rfl) (by kernel_rfl) (fun _ _ _ h => h) (Or.inl ⟨by rfl, ?hy45⟩) hH ?rest45
      case hy45 => (intro w hSw; (try dsimp only at hSw); go_simp; with_reducible rfl)
      try simp only [Act.put, List.setIfInBounds_toArray, List.set_cons_zero, List.set_cons_succ]
      refine wpAnyK_take (i := 2) [3, 11, 12] (v := ?v46) rfl (by kernel_rfl) (by kernel_rfl) (by kernel_rfl) (by kernel_rfl) (fun _ _ _ h => h) (Or.inl ⟨by rfl, ?hy46⟩) hH ?rest46
      case hy46 => (intro w hSw; (try dsimp only at hSw); go_simp; with_reducible rfl)
      try simp only [Act.put, List.setIfInBounds_toArray, List.set_cons_zero, List.set_cons_succ]
      refine wpAnyK_take (i := 3) [11, 12] (v := ?v47) rfl (by kernel_rfl) (by kernel_rfl) (by kernel_rfl) (by kernel_rfl) (fun _ _ _ h => h) (Or.inl ⟨by rfl, ?hy47⟩) hH ?rest47
      case hy47 => (intro w hSw; (try dsimp only at hSw); go_simp; with_reducible rfl)
      try simp only [Act.put, List.setIfInBounds_toArray, List.set_cons_zero, List.set_cons_succ]
      refine wpAnyK_take (i := 4) [10, 11, 12] (v := ?v48) rfl (by kernel_rfl) (by kernel_rfl) (by kernel_rfl) (by kernel_rfl) (fun _ _ _ h => h) (Or.inl ⟨by rfl, ?hy48⟩) hH ?rest48
      case hy48 => (intro w hSw; (try dsimp only at hSw); go_simp; with_reducible rfl)
      try simp only [Act.put, List.setIfInBounds_toArray, List.set_cons_zero, List.set_cons_succ]
      refine wpAnyK_take (i := 5) [7, 8, 9, 10, 11, 12] (v := ?v49) rfl (by kernel_rfl) (by kernel_rfl) (by kernel_rfl) (by kernel_rfl) (fun _ _ _ h => h) (Or.inl ⟨by rfl, ?hy49⟩) hH ?rest49
      case hy49 => (intro w hSw; (try dsimp only at hSw); go_simp; with_reducible rfl)
      try simp only [Act.put, List.setIfInBounds_toArray, List.set_cons_zero, List.set_cons_succ]
      refine wpAnyK_take (i := 6) [7, 8, 9, 10, 11, 12] (v := ?v50) rfl (by kernel_rfl) (by kernel_rfl) (by kernel_rfl) (by kernel_rfl) (fun _ _ _ h => h) (Or.inl ⟨by rfl, ?hy50⟩) hH ?rest50
      case hy50 => (intro w hSw; (try dsimp only at hSw); go_simp; with_reducible rfl)
      try simp only [Act.put, List.setIfInBounds_toArray, List.set_cons_zero, List.set_cons_succ]
      refine wpAnyK_take (i := 7) [8, 9, 10, 11, 12] (v := ?v51) rfl (by kernel_rfl) (by kernel_rfl) (by kernel_rfl) (by kernel_rfl) (fun _ _ _ h => h) (Or.inl ⟨by rfl, ?hy51⟩) hH ?rest51
      case hy51 => (intro w hSw; (try dsimp only at hSw); go_simp; with_reducible rfl)
      try simp only [Act.put, List.setIfInBounds_toArray, List.set_cons_zero, List.set_cons_succ]
      refine wpAnyK_take (i := 8) [9, 10, 11, 12] (v := ?v52) rfl (by kernel_rfl) (by kernel_rfl) (by kernel_rfl) (by kernel_rfl) (fun _ _ _ h => h) (Or.inl ⟨by rfl, ?hy52⟩) hH ?rest52
      case hy52 => (intro w hSw; (try dsimp only at hSw); go_simp; with_reducible rfl)
      try simp only [Act.put, List.setIfInBounds_toArray, List.set_cons_zero, List.set_cons_succ]
      refine wpAnyK_take (i := 9) [10, 11, 12] (v := ?v53) rfl (by kernel_rfl) (by kernel_rfl) (by kernel_rfl) (by kernel_rfl) (fun _ _ _ h => h) (Or.inl ⟨by rfl, ?hy53⟩) hH ?rest53
      case hy53 => (intro w hSw; (try dsimp only at hSw); go_simp; with_reducible rfl)
      try simp only [Act.put, List.setIfInBounds_toArray, List.set_cons_zero, List.set_cons_succ]
      refine wpAnyK_one (i := 10) (by kernel_rfl) rfl (fun K hK => ?_) (by kernel_rfl)
      go_simp
      go_at_call 141
      refine (mark_Leases i 0 m (by omega) (by omega) (by omega) _).mono ?_
      rintro e w3 ⟨am, cm, rfl, hom, hbm⟩
      have kd2 := (hbm.cell (p := ⟨g, i, none⟩) (World.block_lt_of_cell? _ _ kd1)).trans kd1
      have H3 := Lib.hid (And.intro hom hbm)
      clear hom hbm
      refine hK.out _ _ kd2 (fun hH => ?_)
      clear hK K
      try simp only [Act.put, List.setIfInBounds_toArray, List.set_cons_zero, List.set_cons_succ]
      refine wpAnyK_one (i := 11) (by kernel_rfl) rfl (fun K hK => ?_) (by kernel_rfl)
      go_simp
      go_at_call 48
      have hr1 : RdLs w3 (.slice sa m sc) (marks mkLeases i 0 m) := rdLs_own (row_below (World.ownsRow.drew HO.out) H3.out.2) (fun x hx => by obtain ⟨t, _, rfl⟩ := List.mem_map.1 hx; exact ⟨none, 0, rfl, .inl rfl⟩)
      have hr2 : RdLs w3 (.slice am m cm) (marks mkLeases i 0 m) := rdLs_own H3.out.1 (fun x hx => by obtain ⟨t, _, rfl⟩ := List.mem_map.1 hx; exact ⟨none, 0, rfl, .inl rfl⟩)
      have hml : (marks mkLeases i 0 m).length ≤ 1000000 := by rw [marks_len]; exact hll
      have H4 := Lib.hid (And.intro hr1 (And.intro hr2 hml))
      clear hr1 hr2 hml
      refine (same_Leases H4.out.1 H4.out.2.1 rfl H4.out.2.2 (fun x hx => by obtain ⟨t, _, rfl⟩ := List.mem_map.1 hx; exact Nat.zero_le _)).mono ?_
      rintro e w4 ⟨rfl, hb4⟩
      replace kd2 := (hb4.cell (p := ⟨g, i, none⟩) (World.block_lt_of_cell? _ _ kd2)).trans kd2
      have HB4 := Lib.hid hb4
      clear hb4
      refine hK.out _ _ kd2 (fun hH => ?_)
      clear hK K
      try simp only [Act.put, List.setIfInBounds_toArray, List.set_cons_zero, List.set_cons_succ]
      refine wpAnyK_last (by kernel_rfl) rfl (fun K hK => ?_) (by kernel_rfl)
      go_simp
      refine hK.out _ _ (wpAnyK_done (by kernel_rfl) ?_ _)
      clear hK K hH
      have HF := Lib.hid (HB.out.trans (((((Below.refl _ _).drew.trans H3.out.2).trans (HB4.out.mono H3.out.2.size))).mono HB.out.size))
      clear kd1 kd2
      go_wp2
      go_roundw
      case rel => exact ⟨i + 1, by omega, by go_num, HF.out⟩
      case measure => simp [intOf]; omega
    · obtain rfl : i = n := by omega
      clear hlr
      go_wp2
      go_ret
      exact ⟨rfl, HB.out⟩
end Go.Proofs.YtnegappgdpeabaaGreat
