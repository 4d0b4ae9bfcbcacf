/-
  Lease: one lease is told.
-/
import Derived.Test.YtmdhegmnfcodbaaLsE
namespace Go.Proofs.Ytmdhegmnfcodbaa
open Go.RowKit
variable {w w' w0 w1 w2 w3 : World} {mb lb B : Nat} {ob : Option Nat} {m : Lm} {last : Int}

theorem results_cell2 {fn : Func} {t u : Tmp} {ty : TypeId} (h : fn.results = #[.cell t ty, .tmp u]) {tmps : Array Value} {P : Program} {w : World} {ad : Addr} {v : Value} (ht : tmps.getD t undef = .pointer (some ad)) (hl : (loadVar ty ad).run P w = .ok v w) :
    (results fn tmps).run P w = .ok (.tuple #[v, tmps.getD u undef]) w := by
  have ht' : tmps[t]?.getD undef = .pointer (some ad) := by simpa using ht
  simp [results, h, ht', asAddr, hl, Result.andThen]
theorem load_lease {b : Nat} {i t : Int} {s : Value} (h0 : w.cell? ⟨b, 0, none⟩ = some (.int .i64 i)) (h1 : w.cell? ⟨b, 1, none⟩ = some s) (h2 : w.cell? ⟨b, 2, none⟩ = some (.int .i64 t)) :
    (loadVar 35 ⟨b, 0, none⟩).run Try.prog w = .ok (.agg #[.int .i64 i, s, .int .i64 t]) w := by
  simp [go_sem, loadVar, h0, h1, h2]

theorem cell_set {w : World} {b i j : Nat} {v u : Value} (h : w.cell? ⟨b, j, none⟩ = some u) (hij : i ≠ j) : (w.setCell ⟨b, i, none⟩ v).cell? ⟨b, j, none⟩ = some u := by
  rw [World.cell?_setCell_other _ _ _ _ (by intro e; injection e with _ e2; exact hij e2)]
  exact h
/-- Three cells of a block are stored into. -/
theorem set3 {b : Nat} {v0 v1 v2 u0 u1 u2 : Value} (h0 : w.cell? ⟨b, 0, none⟩ = some u0) (h1 : w.cell? ⟨b, 1, none⟩ = some u1) (h2 : w.cell? ⟨b, 2, none⟩ = some u2) {w' : World}
    (hw : ((w.setCell ⟨b, 0, none⟩ v0).setCell ⟨b, 1, none⟩ v1).setCell ⟨b, 2, none⟩ v2 = w') : w'.cell? ⟨b, 0, none⟩ = some v0 ∧ w'.cell? ⟨b, 1, none⟩ = some v1 ∧ w'.cell? ⟨b, 2, none⟩ = some v2 := by
  subst hw
  have k1 : (w.setCell ⟨b, 0, none⟩ v0).cell? ⟨b, 1, none⟩ = some u1 := cell_set h1 (by omega)
  have k2 : ((w.setCell ⟨b, 0, none⟩ v0).setCell ⟨b, 1, none⟩ v1).cell? ⟨b, 2, none⟩ = some u2 := cell_set (cell_set h2 (by omega)) (by omega)
  exact ⟨cell_set (cell_set (World.cell?_setCell_same _ _ _ h0) (by omega)) (by omega), cell_set (World.cell?_setCell_same _ _ _ k1) (by omega), World.cell?_setCell_same _ _ _ k2⟩
theorem below3 {b : Nat} {v0 v1 v2 : Value} (h : Below B w0 w) (hb : B ≤ b) : Below B w0 (((w.setCell ⟨b, 0, none⟩ v0).setCell ⟨b, 1, none⟩ v1).setCell ⟨b, 2, none⟩ v2) := ((h.setCell hb _).setCell hb _).setCell hb _
theorem Tn.set3 (w : World) (b : Nat) (v0 v1 v2 : Value) : Tn (fun q => q = b) w (((w.setCell ⟨b, 0, none⟩ v0).setCell ⟨b, 1, none⟩ v1).setCell ⟨b, 2, none⟩ v2) := ((Tn.setCell (F := fun q => q = b) w ⟨b, 0, none⟩ v0 rfl).trans (Tn.setCell (F := fun q => q = b) _ ⟨b, 1, none⟩ v1 rfl)).trans (Tn.setCell (F := fun q => q = b) _ ⟨b, 2, none⟩ v2 rfl)
theorem new_any (w : World) : Calls Try.prog 7 #[] w fun e w' => e = .returned (.pointer (some ⟨w.heap.size, 0, none⟩)) ∧ LsAt w' w.heap.size none [] 0 ∧ Below w.heap.size w w' := by
  go_enter Try.func7, Try.ntmps7
  go_wp2
  go_ret
  refine ⟨rfl, ⟨by simp [go_sem], by simp [go_sem], rfl, fun j => by simp [go_sem], fun p hp => by simp at hp, ⟨fun p hp => by simp at hp, fun p hp => by simp at hp, fun p hp => by simp at hp, by omega, by simp⟩, by simp⟩, (Below.refl _ _).alloc (Nat.le_refl _) _⟩

set_option maxRecDepth 100000 in
set_option maxHeartbeats 1000000 in
theorem get_none (h : LsAt w lb ob m last) (id : Int) (hg : getL m id = none) : Calls Try.prog 9 #[.pointer (some ⟨lb, 0, none⟩), .int .i64 id] w fun e w' =>
    e = .returned (.tuple #[.agg #[.int .i64 0, .slice none 0 0, .int .i64 0], .int .i64 22]) ∧ Below w.heap.size w w' := by
  obtain ⟨W0, hW0⟩ : ∃ W0, w.alloc (.cells #[.int .i64 0, .slice none 0 0, .int .i64 0] 35) = W0 := ⟨_, rfl⟩
  have hb0 : Below w.heap.size w W0 := by rw [← hW0]; exact (Below.refl _ _).alloc (Nat.le_refl _) _
  have h0 := h.below hb0
  have hlk : (Instr.lookup 51 (.map ob) (.int .i64 id) true).run Try.prog W0 = .ok (.tuple #[.agg #[.int .i64 0, .slice none 0 0, .int .i64 0], .bool false]) W0 := by
    have h5 := MapV.look h0.mp keyZ und_map (z := .agg #[.int .i64 0, .slice none 0 0, .int .i64 0]) (Try.zeroValue35 _) true id
    rw [hg] at h5
    exact h5
  have c0 := h0.c0
  have r0 : W0.cell? ⟨w.heap.size, 0, none⟩ = some (.int .i64 0) := by rw [← hW0]; simp [go_sem]
  have r1 : W0.cell? ⟨w.heap.size, 1, none⟩ = some (.slice none 0 0) := by rw [← hW0]; simp [go_sem]
  have r2 : W0.cell? ⟨w.heap.size, 2, none⟩ = some (.int .i64 0) := by rw [← hW0]; simp [go_sem]
  have rf : ∀ j, W0.frozen? ⟨w.heap.size, j, none⟩ = false := fun j => by rw [← hW0]; simp [go_sem]
  have hz0 : w.heap.size < W0.heap.size := by rw [← hW0]; simp
  have hbA : ∀ x, Below W0.heap.size W0 (W0.alloc x) := fun x => (Below.refl _ _).alloc (Nat.le_refl _) _
  have s0 : ∀ x, (W0.alloc x).cell? ⟨w.heap.size, 0, none⟩ = some (.int .i64 0) := fun x => ((hbA x).cell (p := ⟨w.heap.size, 0, none⟩) hz0).trans r0
  have s1 : ∀ x, (W0.alloc x).cell? ⟨w.heap.size, 1, none⟩ = some (.slice none 0 0) := fun x => ((hbA x).cell (p := ⟨w.heap.size, 1, none⟩) hz0).trans r1
  have s2 : ∀ x, (W0.alloc x).cell? ⟨w.heap.size, 2, none⟩ = some (.int .i64 0) := fun x => ((hbA x).cell (p := ⟨w.heap.size, 2, none⟩) hz0).trans r2
  have sf : ∀ x j, (W0.alloc x).frozen? ⟨w.heap.size, j, none⟩ = false := fun x j => ((hbA x).frozen (p := ⟨w.heap.size, j, none⟩) hz0).trans (rf j)
  have HB := Lib.hid (And.intro hb0 hbA)
  clear h h0 hg hb0 hbA r0 r1 r2 rf hz0
  go_enter Try.func9, Try.ntmps9
  go_wp2_with fail
  obtain ⟨k0, k1, k2⟩ := set3 (s0 _) (s1 _) (s2 _) rfl
  (try simp only [Exit.inBlock, Exit.then]); exact bodyPost_ret (results_cell2 rfl rfl (load_lease k0 k1 k2)) rfl ⟨rfl, below3 (HB.out.1.trans ((HB.out.2 _).mono HB.out.1.size)) (Nat.le_refl _)⟩

set_option maxRecDepth 100000 in
set_option maxHeartbeats 1000000 in
theorem get_some (h : LsAt w lb ob m last) (id : Int) {x : Lv} (hg : getL m id = some x) : Calls Try.prog 9 #[.pointer (some ⟨lb, 0, none⟩), .int .i64 id] w fun e w' =>
    ∃ a c, e = .returned (.tuple #[.agg #[.int .i64 x.id, .slice a x.vs.length c, .int .i64 x.till], .int .i64 0]) ∧ Own eVec w' w.heap.size (.slice a x.vs.length c) x.vs ∧ Below w.heap.size w w' := by
  obtain ⟨W0, hW0⟩ : ∃ W0, w.alloc (.cells #[.int .i64 0, .slice none 0 0, .int .i64 0] 35) = W0 := ⟨_, rfl⟩
  have hb0 : Below w.heap.size w W0 := by rw [← hW0]; exact (Below.refl _ _).alloc (Nat.le_refl _) _
  have h0 := h.below hb0
  have hxm : (id, x) ∈ m := by
    unfold getL at hg
    obtain ⟨p, hp, rfl⟩ := Option.map_eq_some_iff.1 hg
    have h1 := List.find?_some hp
    have h2 := List.mem_of_find?_eq_some hp
    obtain rfl : p.1 = id := by simpa using h1
    exact h2
  have hxr := h0.rd _ hxm
  have hxv := h0.ok.vec _ hxm
  obtain ⟨xi, xa, xc, xv, xt⟩ := x
  have hv8 : xv.length ≤ 8 := by
    simp only [validB, Bool.and_eq_true, decide_eq_true_eq] at hxv
    exact hxv.1.2
  have hlk : (Instr.lookup 51 (.map ob) (.int .i64 id) true).run Try.prog W0 = .ok (.tuple #[.agg #[.int .i64 xi, .slice xa xv.length xc, .int .i64 xt], .bool true]) W0 := by
    have h5 := MapV.look h0.mp keyZ und_map (z := .agg #[.int .i64 0, .slice none 0 0, .int .i64 0]) (Try.zeroValue35 _) true id
    rw [hg] at h5
    exact h5
  have c0 := h0.c0
  have r0 : W0.cell? ⟨w.heap.size, 0, none⟩ = some (.int .i64 0) := by rw [← hW0]; simp [go_sem]
  have r1 : W0.cell? ⟨w.heap.size, 1, none⟩ = some (.slice none 0 0) := by rw [← hW0]; simp [go_sem]
  have r2 : W0.cell? ⟨w.heap.size, 2, none⟩ = some (.int .i64 0) := by rw [← hW0]; simp [go_sem]
  have rf : ∀ j, W0.frozen? ⟨w.heap.size, j, none⟩ = false := fun j => by rw [← hW0]; simp [go_sem]
  have hz0 : W0.heap.size = w.heap.size + 1 := by rw [← hW0]; simp
  have hcl : ∀ x, Calls Try.prog 22 #[.slice xa xv.length xc] (W0.alloc x) fun e w' => ∃ a c, e = .returned (.slice a xv.length c) ∧ Own eVec w' (W0.heap.size + 1) (.slice a xv.length c) xv ∧ Below (W0.heap.size + 1) (W0.alloc x) w' := fun x => by
    have := clone_any (RdI.below hxr.rd ((Below.refl _ _).alloc (Nat.le_refl _) x)) (by show xv.length ≤ _; omega)
    simpa using this
  have hbA : ∀ x, Below W0.heap.size W0 (W0.alloc x) := fun x => (Below.refl _ _).alloc (Nat.le_refl _) _
  obtain ⟨nv, hnv⟩ : ∃ nv, xv.length = nv := ⟨_, rfl⟩
  simp only [hnv] at hlk hcl ⊢
  have HB := Lib.hid (And.intro hb0 (And.intro hbA hz0))
  clear h h0 hg hb0 hxm hxr hxv hnv hv8 hz0
  go_enter Try.func9, Try.ntmps9
  go_wp2_with fail
  refine (hcl _).mono ?_
  rintro e w2 ⟨ca, cc, rfl, hco, hcb⟩
  have hz0 := HB.out.2.2
  have hA := (hbA (.cells #[.int .i64 xi, .slice xa nv xc, .int .i64 xt] 35))
  have p0 : w2.cell? ⟨W0.heap.size, 0, none⟩ = some (.int .i64 xi) := (hcb.cell (p := ⟨W0.heap.size, 0, none⟩) (by simp)).trans (by simp [go_sem])
  have p1 : w2.cell? ⟨W0.heap.size, 1, none⟩ = some (.slice xa nv xc) := (hcb.cell (p := ⟨W0.heap.size, 1, none⟩) (by simp)).trans (by simp [go_sem])
  have p2 : w2.cell? ⟨W0.heap.size, 2, none⟩ = some (.int .i64 xt) := (hcb.cell (p := ⟨W0.heap.size, 2, none⟩) (by simp)).trans (by simp [go_sem])
  have pf : ∀ j, w2.frozen? ⟨W0.heap.size, j, none⟩ = false := fun j => (hcb.frozen (p := ⟨W0.heap.size, j, none⟩) (by simp)).trans (by simp [go_sem])
  obtain ⟨W3, hW3⟩ : ∃ W3, w2.setCell ⟨W0.heap.size, 1, none⟩ (.slice ca nv cc) = W3 := ⟨_, rfl⟩
  have s0 : W3.cell? ⟨W0.heap.size, 0, none⟩ = some (.int .i64 xi) := by rw [← hW3]; exact cell_set p0 (by omega)
  have s1 : W3.cell? ⟨W0.heap.size, 1, none⟩ = some (.slice ca nv cc) := by rw [← hW3]; exact World.cell?_setCell_same _ _ _ p1
  have s2 : W3.cell? ⟨W0.heap.size, 2, none⟩ = some (.int .i64 xt) := by rw [← hW3]; exact cell_set p2 (by omega)
  have b3 : Below W0.heap.size W0 W3 := by rw [← hW3]; exact (hA.trans (hcb.mono (by omega))).setCell (by simp) _
  have o3 : Own eVec W3 (W0.heap.size + 1) (.slice ca nv cc) xv := by
    rw [← hW3]
    exact (Tn.setCell (F := fun q => q = W0.heap.size) w2 ⟨W0.heap.size, 1, none⟩ (.slice ca nv cc) rfl).row hco (fun q hq e => by have := (hco.lt q hq).1; omega)
  have t0 := (b3.cell (p := ⟨w.heap.size, 0, none⟩) (by show w.heap.size < W0.heap.size; omega)).trans r0
  have t1 := (b3.cell (p := ⟨w.heap.size, 1, none⟩) (by show w.heap.size < W0.heap.size; omega)).trans r1
  have t2 := (b3.cell (p := ⟨w.heap.size, 2, none⟩) (by show w.heap.size < W0.heap.size; omega)).trans r2
  have tf : ∀ j, W3.frozen? ⟨w.heap.size, j, none⟩ = false := fun j => (b3.frozen (p := ⟨w.heap.size, j, none⟩) (by show w.heap.size < W0.heap.size; omega)).trans (rf j)
  have HC := Lib.hid (And.intro b3 o3); clear hco hcb b3 o3 hA hz0
  go_wp2_with fail
  obtain ⟨k0, k1, k2⟩ := set3 t0 t1 t2 rfl
  (try simp only [Exit.inBlock, Exit.then]); exact bodyPost_ret (results_cell2 rfl rfl (load_lease k0 k1 k2)) rfl ⟨ca, cc, rfl, row_mono ((Tn.set3 W3 w.heap.size _ _ _).row HC.out.2 (fun q hq e => by have := (HC.out.2.lt q hq).1; have := HB.out.2.2; omega)) (by have := HB.out.2.2; omega), below3 (HB.out.1.trans (HC.out.1.mono HB.out.1.size)) (Nat.le_refl _)⟩
end Go.Proofs.Ytmdhegmnfcodbaa
