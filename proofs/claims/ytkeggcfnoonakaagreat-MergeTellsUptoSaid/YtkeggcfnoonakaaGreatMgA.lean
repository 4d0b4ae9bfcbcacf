
/-
  Merge: the heap's methods.
-/
import Derived.Test.YtkeggcfnoonakaaGreatMgP
import Derived.Test.YtkeggcfnoonakaaGreatShelf
import Derived.BigRegion
import Derived.BigQuiet
import Derived.Deep.QuietTactic
set_option linter.unusedSimpArgs false
set_option linter.unusedVariables false
namespace Go.Proofs.YtkeggcfnoonakaaGreat
open Go.RowKit

def cHd (h : Hd) : List Value := [h.v, .int .i64 (h.n : Int)]
theorem eHd : Elm Tryz.prog 89 91 2 32 cHd where
  und := Tryz.underlying89
  info := by
    have h : (Tryz.prog.info? 91).map (fun i => (i.zero, i.size, i.bytes)) = some (some (.agg #[.slice none 0 0, .int .i64 0]), 2, 32) := by kernel_rfl
    obtain ⟨i, hi, h1, h2, h3⟩ := info_parts h
    exact ⟨i, _, hi, h1, h2, h3, rfl⟩
  pos := by decide
  few := by decide
  len := fun _ => rfl
  one := fun h u hu => by
    simp [cHd] at hu
    rcases hu with rfl | rfl <;> rfl

/-- Pairs that can be read. -/
def RdP (w : World) (a : Option Addr) (c : Nat) (l : List KV) : Prop := l.length ≤ c ∧ c ≤ 9223372036854775807 ∧ (l = [] ∨ ∃ b off, a = some ⟨b, off, none⟩ ∧ ∀ i (hi : i < l.length), w.cell? ⟨b, off + i * 2, none⟩ = some (.string l[i].1) ∧ w.cell? ⟨b, off + i * 2 + 1, none⟩ = some (.string l[i].2))
theorem RdP.below {n : Nat} {w w' : World} {a : Option Addr} {c : Nat} {l : List KV} (h : RdP w a c l) (hb : Below w.heap.size w w') : RdP w' a c l :=
  ⟨h.1, h.2.1, h.2.2.imp id (fun ⟨b, off, h1, h2⟩ => ⟨b, off, h1, fun i hi => by
    have k := h2 i hi
    exact ⟨(hb.cell (p := ⟨b, off + i * 2, none⟩) (World.block_lt_of_cell? _ _ k.1)).trans k.1, (hb.cell (p := ⟨b, off + i * 2 + 1, none⟩) (World.block_lt_of_cell? _ _ k.2)).trans k.2⟩⟩)⟩
/-- The heap of heads: in the variable's block hb there is the slice v. -/
structure HsAt (W w : World) (hb : Nat) (v : Value) (ms : List Hd) : Prop where
  bel : Below W.heap.size W w
  sz : W.heap.size ≤ w.heap.size
  cell : w.cell? ⟨hb, 0, none⟩ = some v
  fz : w.frozen? ⟨hb, 0, none⟩ = false
  lo : W.heap.size ≤ hb
  own : Own eHd w W.heap.size v ms
  apart : v.ownBlock ≠ some hb
  rd : ∀ h ∈ ms, RdP W h.a h.c h.l
  few : ms.length ≤ 1000000
theorem hd_cells {w : World} {B : Nat} {v : Value} {ms : List Hd} (h : Own eHd w B v ms) {i : Nat} (hi : i < ms.length) :
    ∃ g cap, v = .slice (some ⟨g, 0, none⟩) ms.length cap ∧ ms.length ≤ cap ∧ B ≤ g ∧ g < w.heap.size ∧ w.cell? ⟨g, i * 2, none⟩ = some ms[i].v ∧ w.cell? ⟨g, i * 2 + 1, none⟩ = some (.int .i64 (ms[i].n : Int)) ∧ w.frozen? ⟨g, i * 2, none⟩ = false ∧ w.frozen? ⟨g, i * 2 + 1, none⟩ = false := by
  have h0 := h
  obtain ⟨h1, h2⟩ := h
  rcases h2 with ⟨_, h3⟩ | ⟨g, cap, cur, rfl, hg, hh, hn, hc, hcl, htk⟩
  · omega
  · have c0 := h0.cellAt (i * 2) (by omega)
    have c1 := h0.cellAt (i * 2 + 1) (by omega)
    have e0 := eHd.get ms i 0 hi (by decide)
    have e1 := eHd.get ms i 1 hi (by decide)
    rw [Nat.add_zero] at e0
    rw [e0] at c0
    rw [e1] at c1
    refine ⟨g, cap, rfl, hn, hg, (Array.getElem?_eq_some_iff.1 hh).1, c0, c1, ?_, ?_⟩
    · exact h0.frozenAt _
    · exact h0.frozenAt _

theorem compare_any (a b : ByteArray) (w : World) : Calls Tryz.prog 89 #[.string a, .string b] w fun e w' => e = .returned (.int .i64 (kc a b)) ∧ w' = w := by
  go_enter Tryz.func89, Tryz.ntmps89
  go_wp2_with (go_at_call 122; refine (Tryz.strings_Compare _ _ _).mono ?_; rintro e w' ⟨rfl, rfl⟩)
  go_ret
  exact ⟨rfl, rfl⟩
theorem len_any (w : World) (a : Option Addr) (n c : Nat) : Calls Tryz.prog 165 #[.slice a n c] w fun e w' => e = .returned (.int .i64 (n : Int)) ∧ w = w' := by
  go_enter Tryz.func165, Tryz.ntmps165
  go_wp2
  go_ret
  exact ⟨rfl, rfl⟩
/-- What a head that is not empty begins with. -/
theorem hd_first {w : World} {h : Hd} (hr : RdP w h.a h.c h.l) (hne : h.l ≠ []) : ∃ b off n, h.v = .slice (some ⟨b, off, none⟩) (n + 1) h.c ∧ w.cell? ⟨b, off, none⟩ = some (.string h.key) := by
  obtain ⟨l, n, a, c⟩ := h
  cases l with
  | nil => exact absurd rfl hne
  | cons p xs =>
    obtain ⟨b, off, ha, hc⟩ := hr.2.2.resolve_left (by simp)
    have h0 := (hc 0 (by simp)).1
    simp at h0
    simp only at ha
    exact ⟨b, off, xs.length, by simp [Hd.v, ha], by simpa [Hd.key] using h0⟩
set_option maxHeartbeats 1000000 in
theorem less_any {w : World} {B : Nat} {v : Value} {ms : List Hd} (h : Own eHd w B v ms) (hf : ms.length ≤ 1000000) {i k : Nat} (hi : i < ms.length) (hk : k < ms.length) (ri : RdP w (at_ ms i).a (at_ ms i).c (at_ ms i).l) (rk : RdP w (at_ ms k).a (at_ ms k).c (at_ ms k).l) (ni : (at_ ms i).l ≠ []) (nk : (at_ ms k).l ≠ []) :
    Calls Tryz.prog 166 #[v, .int .i64 (i : Int), .int .i64 (k : Int)] w fun e w' => e = .returned (.bool (lessH (at_ ms i) (at_ ms k))) ∧ ∃ n, w' = w.drewN n := by
  obtain ⟨b1, o1, n1, e1, c1⟩ := hd_first ri ni
  obtain ⟨b2, o2, n2, e2, c2⟩ := hd_first rk nk
  obtain ⟨g, cap, rfl, hcap, _, _, i1, i2, _, _⟩ := hd_cells h hi
  obtain ⟨_, _, hh, _, _, _, k1, k2, _, _⟩ := hd_cells h hk
  injection hh with h3 h4 h5
  injection h3 with h3
  injection h3 with h3
  subst h3
  rw [← at_get hi] at i1 i2
  rw [← at_get hk] at k1 k2
  rw [e1] at i1
  rw [e2] at k1
  have hL : lessH (at_ ms i) (at_ ms k) = if kc (at_ ms i).key (at_ ms k).key = 0 then decide ((at_ ms i).n < (at_ ms k).n) else decide (kc (at_ ms i).key (at_ ms k).key < 0) := rfl
  obtain ⟨x, hx⟩ : ∃ x, at_ ms i = x := ⟨_, rfl⟩
  obtain ⟨y, hy⟩ : ∃ y, at_ ms k = y := ⟨_, rfl⟩
  rw [hx, hy] at hL ⊢
  rw [hx] at i1 i2 c1
  rw [hy] at k1 k2 c2
  obtain ⟨q, hq⟩ : ∃ q, kc x.key y.key = q := ⟨_, rfl⟩
  have hcmp := compare_any x.key y.key
  rw [hq] at hL hcmp
  obtain ⟨xc, hxc⟩ : ∃ z, x.c = z := ⟨_, rfl⟩
  obtain ⟨yc, hyc⟩ : ∃ z, y.c = z := ⟨_, rfl⟩
  obtain ⟨xn, hxn⟩ : ∃ z, x.n = z := ⟨_, rfl⟩
  obtain ⟨yn, hyn⟩ : ∃ z, y.n = z := ⟨_, rfl⟩
  obtain ⟨xk, hxk⟩ : ∃ z, x.key = z := ⟨_, rfl⟩
  obtain ⟨yk, hyk⟩ : ∃ z, y.key = z := ⟨_, rfl⟩
  obtain ⟨N, hN⟩ : ∃ N, ms.length = N := ⟨_, rfl⟩
  rw [hxc] at i1
  rw [hyc] at k1
  rw [hxn] at i2 hL
  rw [hyn] at k2 hL
  rw [hxk] at c1 hcmp
  rw [hyk] at c2 hcmp
  rw [hN] at hi hk hf ⊢
  have hi2 : (i : Int) < (N : Int) := by omega
  have hk2 : (k : Int) < (N : Int) := by omega
  have HL := Lib.hid hL
  clear hL hx hy hq hxc hyc hxn hyn hxk hyk hN e1 e2 h4 h5 ri rk ni nk h
  by_cases hq0 : q = 0
  · subst hq0
    by_cases hn : xn < yn
    all_goals
      go_enter Tryz.func166, Tryz.ntmps166
      go_wp2_with fail
      go_quiet ((go_at_call 89; exact Calls.quiet_of_same (hcmp _)))
      go_wp2_with fail
      go_quiet (fail)
      go_wp2_with fail
      go_ret
      exact ⟨by rw [HL.out]; simp [hn], _, World.drewN_drewN _ _ _⟩
  · go_enter Tryz.func166, Tryz.ntmps166
    go_wp2_with fail
    go_quiet ((go_at_call 89; exact Calls.quiet_of_same (hcmp _)))
    go_wp2_with fail
    go_ret
    exact ⟨by rw [HL.out]; simp [hq0], _, rfl⟩
set_option maxHeartbeats 1000000 in
theorem swap_walk {w : World} {g n cap i k : Nat} {a1 a2 : Option Addr} {l1 l2 c1 c2 : Nat} {x1 x2 : Int} (hn : n ≤ 1000000) (hcap : n ≤ cap) (hi : i < n) (hk : k < n) (hik : i ≠ k)
    (i1 : w.cell? ⟨g, i * 2, none⟩ = some (.slice a1 l1 c1)) (i2 : w.cell? ⟨g, i * 2 + 1, none⟩ = some (.int .i64 x1)) (k1 : w.cell? ⟨g, k * 2, none⟩ = some (.slice a2 l2 c2)) (k2 : w.cell? ⟨g, k * 2 + 1, none⟩ = some (.int .i64 x2)) (fz : ∀ j, w.frozen? ⟨g, j, none⟩ = false) :
    Calls Tryz.prog 167 #[.slice (some ⟨g, 0, none⟩) n cap, .int .i64 (i : Int), .int .i64 (k : Int)] w fun e w' => e = .returned (.tuple #[]) ∧ ∃ d, w' = ((((w.setCell ⟨g, i * 2, none⟩ (.slice a2 l2 c2)).setCell ⟨g, i * 2 + 1, none⟩ (.int .i64 x2)).setCell ⟨g, k * 2, none⟩ (.slice a1 l1 c1)).setCell ⟨g, k * 2 + 1, none⟩ (.int .i64 x1)).drewN d := by
  have hi2 : (i : Int) < (n : Int) := by omega
  have hk2 : (k : Int) < (n : Int) := by omega
  have f1 := fz (i * 2)
  have f2 := fz (i * 2 + 1)
  have f3 := fz (k * 2)
  have f4 := fz (k * 2 + 1)
  have n1 : ¬ i * 2 = k * 2 := by omega
  have n2 : ¬ i * 2 = k * 2 + 1 := by omega
  have n3 : ¬ i * 2 + 1 = k * 2 := by omega
  have n4 : ¬ i * 2 + 1 = k * 2 + 1 := by omega
  clear fz
  go_enter Tryz.func167, Tryz.ntmps167
  go_wp2
  go_region
  all_goals (go_end0; exact ⟨rfl, 1, rfl⟩)
set_option maxHeartbeats 1000000 in
theorem swap_self {w : World} {g n cap i : Nat} {a1 : Option Addr} {l1 c1 : Nat} {x1 : Int} (hn : n ≤ 1000000) (hcap : n ≤ cap) (hi : i < n)
    (i1 : w.cell? ⟨g, i * 2, none⟩ = some (.slice a1 l1 c1)) (i2 : w.cell? ⟨g, i * 2 + 1, none⟩ = some (.int .i64 x1)) (fz : ∀ j, w.frozen? ⟨g, j, none⟩ = false) :
    Calls Tryz.prog 167 #[.slice (some ⟨g, 0, none⟩) n cap, .int .i64 (i : Int), .int .i64 (i : Int)] w fun e w' => e = .returned (.tuple #[]) ∧ ∃ d, w' = ((((w.setCell ⟨g, i * 2, none⟩ (.slice a1 l1 c1)).setCell ⟨g, i * 2 + 1, none⟩ (.int .i64 x1)).setCell ⟨g, i * 2, none⟩ (.slice a1 l1 c1)).setCell ⟨g, i * 2 + 1, none⟩ (.int .i64 x1)).drewN d := by
  have hi2 : (i : Int) < (n : Int) := by omega
  have f1 := fz (i * 2)
  have f2 := fz (i * 2 + 1)
  clear fz
  go_enter Tryz.func167, Tryz.ntmps167
  go_wp2
  go_region
  all_goals (go_end0; exact ⟨rfl, 1, rfl⟩)
/-! ### What the heap is behind a call. -/
theorem set_cells : ∀ (ms : List Hd) (i : Nat) (x : Hd), (ms.set i x).flatMap cHd = ((ms.flatMap cHd).set (i * 2) x.v).set (i * 2 + 1) (.int .i64 (x.n : Int))
  | [], i, x => rfl
  | m :: ms, 0, x => by simp [cHd]
  | m :: ms, i + 1, x => by
    have ih := set_cells ms i x
    rw [List.set_cons_succ, List.flatMap_cons, List.flatMap_cons, ih]
    have e : cHd m = [m.v, .int .i64 (m.n : Int)] := rfl
    rw [e, show (i + 1) * 2 = i * 2 + 1 + 1 by omega]
    rfl
theorem own_set {w : World} {B g cap : Nat} {ms : List Hd} (h : Own eHd w B (.slice (some ⟨g, 0, none⟩) ms.length cap) ms) (i : Nat) (x : Hd) :
    Own eHd ((w.setCell ⟨g, i * 2, none⟩ x.v).setCell ⟨g, i * 2 + 1, none⟩ (.int .i64 (x.n : Int))) B (.slice (some ⟨g, 0, none⟩) (ms.set i x).length cap) (ms.set i x) := by
  have h1 := (h.stored (i * 2) x.v).1
  have h2 := (h1.stored (i * 2 + 1) (.int .i64 (x.n : Int))).1
  show World.ownsRow _ _ _ _ _ _ _
  rw [set_cells, List.length_set]
  exact h2
/-- What the heap's calls turn. -/
def Foot (hb : Nat) (v : Value) (q : Nat) : Prop := q = hb ∨ v.ownBlock = some q
theorem hsAt_turn {W w w' : World} {hb : Nat} {v : Value} {ms ms' : List Hd} (h : HsAt W w hb v ms) {g : Nat} (hg : v.ownBlock = some g) (ht : Tn (fun q => q = g) w w') (ho : Own eHd w' W.heap.size v ms') (hm : ∀ x ∈ ms', x ∈ ms) (hl : ms'.length = ms.length) :
    HsAt W w' hb v ms' ∧ Tn (Foot hb v) w w' := by
  have hne : hb ≠ g := fun e => h.apart (by rw [hg, e])
  have hgB := (h.own.lt g hg).1
  exact ⟨⟨h.bel.trans (ht.below h.sz (fun k e => by subst e; exact hgB)), Nat.le_trans h.sz ht.size, ht.cell h.cell hne, (ht.frozen (p := ⟨hb, 0, none⟩) (World.block_lt_of_cell? _ _ h.cell) hne).trans h.fz, h.lo, ho, h.apart, fun x hx => h.rd x (hm x hx), by rw [hl]; exact h.few⟩,
    ht.mono (fun q e => .inr (by rw [hg, e]))⟩
theorem swp_mem {ms : List Hd} {i k : Nat} (hi : i < ms.length) (hk : k < ms.length) : ∀ x ∈ swp ms i k, x ∈ ms := fun _ hx => (swp_perm hi hk).mem_iff.1 hx
theorem swap_any {W w : World} {hb : Nat} {v : Value} {ms : List Hd} (h : HsAt W w hb v ms) {i k : Nat} (hi : i < ms.length) (hk : k < ms.length) :
    Calls Tryz.prog 167 #[v, .int .i64 (i : Int), .int .i64 (k : Int)] w fun e w' => e = .returned (.tuple #[]) ∧ HsAt W w' hb v (swp ms i k) ∧ Tn (Foot hb v) w w' := by
  obtain ⟨g, cap, rfl, hcap, _, _, i1, i2, _, _⟩ := hd_cells h.own hi
  obtain ⟨g', cap', e, _, _, _, k1, k2, _, _⟩ := hd_cells h.own hk
  injection e with e1 e2 e3
  injection e1 with e1
  injection e1 with e1
  subst e1
  have fz : ∀ j, w.frozen? ⟨g, j, none⟩ = false := fun j => h.own.frozenAt j
  have hs : ∀ d, Own eHd (((((w.setCell ⟨g, i * 2, none⟩ ms[k].v).setCell ⟨g, i * 2 + 1, none⟩ (.int .i64 (ms[k].n : Int))).setCell ⟨g, k * 2, none⟩ ms[i].v).setCell ⟨g, k * 2 + 1, none⟩ (.int .i64 (ms[i].n : Int))).drewN d) W.heap.size (.slice (some ⟨g, 0, none⟩) ms.length cap) (swp ms i k) := by
    intro d
    have h1 := own_set h.own i ms[k]
    have h2 := own_set h1 k ms[i]
    rw [List.length_set, List.length_set] at h2
    have e : swp ms i k = (ms.set i ms[k]).set k ms[i] := by unfold swp; rw [at_get hi, at_get hk]
    rw [e]
    exact h2
  have hT : ∀ (d : Nat) (u1 u2 u3 u4 : Value) (o1 o2 o3 o4 : Nat), Tn (fun q => q = g) w (((((w.setCell ⟨g, o1, none⟩ u1).setCell ⟨g, o2, none⟩ u2).setCell ⟨g, o3, none⟩ u3).setCell ⟨g, o4, none⟩ u4).drewN d) := by
    intro d u1 u2 u3 u4 o1 o2 o3 o4
    have t : Tn (fun q => q = g) w ((((w.setCell ⟨g, o1, none⟩ u1).setCell ⟨g, o2, none⟩ u2).setCell ⟨g, o3, none⟩ u3).setCell ⟨g, o4, none⟩ u4) :=
      (((Tn.setCell (F := fun q => q = g) w ⟨g, o1, none⟩ u1 rfl).trans (Tn.setCell _ ⟨g, o2, none⟩ u2 rfl)).trans (Tn.setCell _ ⟨g, o3, none⟩ u3 rfl)).trans (Tn.setCell _ ⟨g, o4, none⟩ u4 rfl)
    exact ⟨t.os, t.tape, t.output, t.size, t.block⟩
  by_cases hik : i = k
  · subst hik
    refine (swap_self h.few hcap hi i1 i2 fz).mono ?_
    rintro e w' ⟨rfl, d, rfl⟩
    have := hsAt_turn h rfl (hT d _ _ _ _ _ _ _ _) (hs d) (swp_mem hi hi) (swp_len _ _ _)
    exact ⟨rfl, this.1, this.2⟩
  · refine (swap_walk h.few hcap hi hk hik i1 i2 k1 k2 fz).mono ?_
    rintro e w' ⟨rfl, d, rfl⟩
    have := hsAt_turn h rfl (hT d _ _ _ _ _ _ _ _) (hs d) (swp_mem hi hk) (swp_len _ _ _)
    exact ⟨rfl, this.1, this.2⟩
set_option maxHeartbeats 1000000 in
/-- Pop takes the last one away. -/
theorem pop_walk {w : World} {hb g n cap : Nat} {a1 : Option Addr} {l1 c1 : Nat} {x1 : Int} (hn : n + 1 ≤ 1000000) (hcap : n + 1 ≤ cap) (hc2 : cap ≤ 9223372036854775807)
    (ch : w.cell? ⟨hb, 0, none⟩ = some (.slice (some ⟨g, 0, none⟩) (n + 1) cap)) (fh : w.frozen? ⟨hb, 0, none⟩ = false)
    (i1 : w.cell? ⟨g, n * 2, none⟩ = some (.slice a1 l1 c1)) (i2 : w.cell? ⟨g, n * 2 + 1, none⟩ = some (.int .i64 x1)) :
    Calls Tryz.prog 168 #[.pointer (some ⟨hb, 0, none⟩)] w fun e w' => (∃ x, e = .returned x) ∧ ∃ o, w' = (w.setCell ⟨hb, 0, none⟩ (.slice (some ⟨g, 0, none⟩) n cap)).alloc o := by
  have hb2 := World.block_lt_of_cell? _ _ ch
  simp only at hb2
  have hlt : (n : Int) < ((n + 1 : Nat) : Int) := by omega
  go_enter Tryz.func168, Tryz.ntmps168
  go_wp2
  go_ret
  exact ⟨⟨_, rfl⟩, _, rfl⟩
theorem own_init {w : World} {B g n cap : Nat} {ms : List Hd} {x : Hd} (h : Own eHd w B (.slice (some ⟨g, 0, none⟩) (n + 1) cap) (ms ++ [x])) (hn : ms.length = n) : Own eHd w B (.slice (some ⟨g, 0, none⟩) n cap) ms := by
  subst hn
  obtain ⟨h1, h2⟩ := h
  refine ⟨by rw [eHd.lens], ?_⟩
  rcases h2 with ⟨h2, _⟩ | ⟨g', cap', cur, h2, hg, hh, hn', hc, hcl, htk⟩
  · simp at h2
  · simp only [List.length_append, List.length_cons, List.length_nil, Value.slice.injEq, Option.some.injEq, Addr.mk.injEq, and_true, true_and] at h2 hn' htk
    obtain ⟨rfl, rfl⟩ := h2
    refine .inr ⟨g, cap, cur, rfl, hg, hh, by omega, hc, hcl, ?_⟩
    have := congrArg (List.take (ms.length * 2)) htk
    rw [List.take_take, List.flatMap_append, Nat.min_eq_left (by omega), List.take_append_of_le_length (by rw [eHd.lens]; exact Nat.le_refl _)] at this
    rw [this]
    exact List.take_of_length_le (by rw [eHd.lens]; exact Nat.le_refl _)
theorem pop_any {W w : World} {hb : Nat} {v : Value} {ms : List Hd} {x : Hd} (h : HsAt W w hb v (ms ++ [x])) :
    Calls Tryz.prog 168 #[.pointer (some ⟨hb, 0, none⟩)] w fun e w' => (∃ y, e = .returned y) ∧ ∃ v', HsAt W w' hb v' ms ∧ Tn (Foot hb v) w w' ∧ v'.ownBlock = v.ownBlock := by
  have hlen : (ms ++ [x]).length = ms.length + 1 := by simp
  obtain ⟨g, cap, hv, hcap, hgB, hgl, i1, i2, _, _⟩ := hd_cells h.own (i := ms.length) (by rw [hlen]; omega)
  have hlo := h.lo
  have hle := h.few
  rw [hlen] at hv hcap hle
  have hx : (ms ++ [x])[ms.length]'(by rw [hlen]; omega) = x := by simp
  rw [hx] at i1 i2
  have hcm : cap ≤ 9223372036854775807 := by
    obtain ⟨a, c, e, _, hc⟩ := row_form h.own
    rw [hv] at e
    injection e with _ _ e
    omega
  have hcell := h.cell
  rw [hv] at hcell
  refine (pop_walk hle hcap hcm hcell h.fz i1 i2).mono ?_
  rintro e w' ⟨he, o, rfl⟩
  subst hv
  have hbl := World.block_lt_of_cell? _ _ hcell
  simp only at hbl
  have hne : g ≠ hb := fun e => h.apart (by rw [← e]; rfl)
  have ht : Tn (Foot hb (.slice (some ⟨g, 0, none⟩) (ms.length + 1) cap)) w ((w.setCell ⟨hb, 0, none⟩ (.slice (some ⟨g, 0, none⟩) ms.length cap)).alloc o) :=
    (Tn.setCell (F := Foot hb (.slice (some ⟨g, 0, none⟩) (ms.length + 1) cap)) w ⟨hb, 0, none⟩ _ (.inl rfl)).trans (Tn.alloc _ _)
  have hw1 : Own eHd (w.setCell ⟨hb, 0, none⟩ (.slice (some ⟨g, 0, none⟩) ms.length cap)) W.heap.size (.slice (some ⟨g, 0, none⟩) (ms.length + 1) cap) (ms ++ [x]) := by
    have := h.own
    rw [show (Own eHd w W.heap.size (.slice (some ⟨g, 0, none⟩) (ms.length + 1) cap) (ms ++ [x])) = w.ownsRow W.heap.size 91 2 (.slice (some ⟨g, 0, none⟩) (ms.length + 1) cap) (ms ++ [x]).length ((ms ++ [x]).flatMap cHd) from rfl] at this
    exact (Tn.setCell (F := fun q => q = hb) w ⟨hb, 0, none⟩ _ rfl).row this (fun q hq e => hne (by
      have : some g = some q := hq
      injection this with this
      exact this.trans e))
  have ho := (own_init hw1 rfl).alloc o
  have hc1 : ((w.setCell ⟨hb, 0, none⟩ (.slice (some ⟨g, 0, none⟩) ms.length cap)).alloc o).cell? ⟨hb, 0, none⟩ = some (.slice (some ⟨g, 0, none⟩) ms.length cap) := by
    rw [World.cell?_alloc_past _ _ _ (by simpa [World.setCell] using hbl)]
    exact World.cell?_setCell_same _ _ _ hcell
  refine ⟨he, _, ⟨h.bel.trans (ht.below h.sz (fun q e => ?_)), Nat.le_trans h.sz ht.size, hc1, ?_, h.lo, ho, h.apart, fun y hy => h.rd y (List.mem_append_left _ hy), by omega⟩, ht, rfl⟩
  · rcases e with rfl | e
    · exact hlo
    · have e2 : some g = some q := e
      injection e2 with e2
      omega
  · rw [World.frozen?_alloc_past _ _ _ (by simpa [World.setCell] using hbl), World.frozen?_setCell]
    exact h.fz
end Go.Proofs.YtkeggcfnoonakaaGreat
