/-
  Lease: a lease that is not over; one is renewed, one is ended.
-/
import Derived.Test.YtmdhegmnfcodbaaLsG
namespace Go.Proofs.Ytmdhegmnfcodbaa
open Go.RowKit
variable {w w' w0 w1 w2 w3 : World} {mb lb B : Nat} {ob : Option Nat} {m : Lm} {last : Int}

set_option maxRecDepth 100000 in
set_option maxHeartbeats 1000000 in
theorem there_none (h : LsAt w lb ob m last) (id now : Int) (hg : getL m id = none) : Calls Try.prog 25 #[.pointer (some ⟨lb, 0, none⟩), .int .i64 id, .int .i64 now] w fun e w' =>
    e = .returned (.tuple #[.agg #[.int .i64 0, .slice none 0 0, .int .i64 0], .int .i64 22]) ∧ Below w.heap.size w w' := by
  obtain ⟨W0, hW0⟩ : ∃ W0, w.alloc (.cells #[.int .i64 0, .slice none 0 0, .int .i64 0] 35) = W0 := ⟨_, rfl⟩
  have hb0 : Below w.heap.size w W0 := by rw [← hW0]; exact (Below.refl _ _).alloc (Nat.le_refl _) _
  have h0 := h.below hb0
  have hlk : (Instr.lookup 51 (.map ob) (.int .i64 id) true).run Try.prog W0 = .ok (.tuple #[.agg #[.int .i64 0, .slice none 0 0, .int .i64 0], .bool false]) W0 := by
    have h5 := MapV.look h0.mp keyZ und_map (z := .agg #[.int .i64 0, .slice none 0 0, .int .i64 0]) (Try.zeroValue35 _) true id
    rw [hg] at h5
    exact h5
  have c0 := h0.c0
  have r0 : W0.cell? ⟨w.heap.size, 0, none⟩ = some (.int .i64 0) := by rw [← hW0]; simp [go_sem]
  have r1 : W0.cell? ⟨w.heap.size, 1, none⟩ = some (.slice none 0 0) := by rw [← hW0]; simp [go_sem]
  have r2 : W0.cell? ⟨w.heap.size, 2, none⟩ = some (.int .i64 0) := by rw [← hW0]; simp [go_sem]
  have rf : ∀ j, W0.frozen? ⟨w.heap.size, j, none⟩ = false := fun j => by rw [← hW0]; simp [go_sem]
  have hz0 : w.heap.size < W0.heap.size := by rw [← hW0]; simp
  have hbA : ∀ x, Below W0.heap.size W0 (W0.alloc x) := fun x => (Below.refl _ _).alloc (Nat.le_refl _) _
  have s0 : ∀ x, (W0.alloc x).cell? ⟨w.heap.size, 0, none⟩ = some (.int .i64 0) := fun x => ((hbA x).cell (p := ⟨w.heap.size, 0, none⟩) hz0).trans r0
  have s1 : ∀ x, (W0.alloc x).cell? ⟨w.heap.size, 1, none⟩ = some (.slice none 0 0) := fun x => ((hbA x).cell (p := ⟨w.heap.size, 1, none⟩) hz0).trans r1
  have s2 : ∀ x, (W0.alloc x).cell? ⟨w.heap.size, 2, none⟩ = some (.int .i64 0) := fun x => ((hbA x).cell (p := ⟨w.heap.size, 2, none⟩) hz0).trans r2
  have sf : ∀ x j, (W0.alloc x).frozen? ⟨w.heap.size, j, none⟩ = false := fun x j => ((hbA x).frozen (p := ⟨w.heap.size, j, none⟩) hz0).trans (rf j)
  have HB := Lib.hid (And.intro hb0 hbA)
  clear h h0 hg hb0 hbA r0 r1 r2 rf hz0
  go_enter Try.func25, Try.ntmps25
  go_wp2_with fail
  obtain ⟨k0, k1, k2⟩ := set3 (s0 _) (s1 _) (s2 _) rfl
  (try simp only [Exit.inBlock, Exit.then]); exact bodyPost_ret (results_cell2 rfl rfl (load_lease k0 k1 k2)) rfl ⟨rfl, below3 (HB.out.1.trans ((HB.out.2 _).mono HB.out.1.size)) (Nat.le_refl _)⟩


set_option maxRecDepth 100000 in
set_option maxHeartbeats 1000000 in
theorem there_some (h : LsAt w lb ob m last) (id now : Int) {x : Lv} (hg : getL m id = some x) : Calls Try.prog 25 #[.pointer (some ⟨lb, 0, none⟩), .int .i64 id, .int .i64 now] w fun e w' =>
    e = .returned (if x.till ≤ now then .tuple #[.agg #[.int .i64 0, .slice none 0 0, .int .i64 0], .int .i64 51] else .tuple #[cvL x, .int .i64 0]) ∧ Below w.heap.size w w' := by
  obtain ⟨W0, hW0⟩ : ∃ W0, w.alloc (.cells #[.int .i64 0, .slice none 0 0, .int .i64 0] 35) = W0 := ⟨_, rfl⟩
  have hb0 : Below w.heap.size w W0 := by rw [← hW0]; exact (Below.refl _ _).alloc (Nat.le_refl _) _
  have h0 := h.below hb0
  obtain ⟨xi, xa, xc, xv, xt⟩ := x
  have hlk : (Instr.lookup 51 (.map ob) (.int .i64 id) true).run Try.prog W0 = .ok (.tuple #[.agg #[.int .i64 xi, .slice xa xv.length xc, .int .i64 xt], .bool true]) W0 := by
    have h5 := MapV.look h0.mp keyZ und_map (z := .agg #[.int .i64 0, .slice none 0 0, .int .i64 0]) (Try.zeroValue35 _) true id
    rw [hg] at h5
    exact h5
  have c0 := h0.c0
  have r0 : W0.cell? ⟨w.heap.size, 0, none⟩ = some (.int .i64 0) := by rw [← hW0]; simp [go_sem]
  have r1 : W0.cell? ⟨w.heap.size, 1, none⟩ = some (.slice none 0 0) := by rw [← hW0]; simp [go_sem]
  have r2 : W0.cell? ⟨w.heap.size, 2, none⟩ = some (.int .i64 0) := by rw [← hW0]; simp [go_sem]
  have rf : ∀ j, W0.frozen? ⟨w.heap.size, j, none⟩ = false := fun j => by rw [← hW0]; simp [go_sem]
  have hz0 : w.heap.size < W0.heap.size := by rw [← hW0]; simp
  obtain ⟨nv, hnv⟩ : ∃ nv, xv.length = nv := ⟨_, rfl⟩
  have hcv : cvL ⟨xi, xa, xc, xv, xt⟩ = .agg #[.int .i64 xi, .slice xa nv xc, .int .i64 xt] := by rw [← hnv]; rfl
  rw [hcv]
  simp only [hnv] at hlk
  have ho := over_any xi xa nv xc xt now
  have HB := Lib.hid (And.intro hb0 hz0)
  clear h h0 hg hb0 hz0 hnv hcv
  by_cases hov : xt ≤ now
  · have t1 : decide (xt ≤ now) = true := decide_eq_true hov
    rw [t1] at ho
    rw [if_pos hov]
    clear t1 hov
    go_enter Try.func25, Try.ntmps25
    go_wp2_with fail
    refine (ho _).mono ?_
    rintro e w2 ⟨rfl, hb2⟩
    have b3 : Below W0.heap.size W0 w2 := ((Below.refl _ _).alloc (Nat.le_refl _) _).trans (hb2.mono (by simp))
    have s0 := (b3.cell (p := ⟨w.heap.size, 0, none⟩) HB.out.2).trans r0
    have s1 := (b3.cell (p := ⟨w.heap.size, 1, none⟩) HB.out.2).trans r1
    have s2 := (b3.cell (p := ⟨w.heap.size, 2, none⟩) HB.out.2).trans r2
    have sf : ∀ j, w2.frozen? ⟨w.heap.size, j, none⟩ = false := fun j => (b3.frozen (p := ⟨w.heap.size, j, none⟩) HB.out.2).trans (rf j)
    have HC := Lib.hid b3
    clear b3 hb2
    go_wp2_with fail
    obtain ⟨k0, k1, k2⟩ := set3 s0 s1 s2 rfl
    (try simp only [Exit.inBlock, Exit.then]); exact bodyPost_ret (results_cell2 rfl rfl (load_lease k0 k1 k2)) rfl ⟨rfl, below3 (HB.out.1.trans (HC.out.mono HB.out.1.size)) (Nat.le_refl _)⟩
  · have t1 : decide (xt ≤ now) = false := decide_eq_false hov
    rw [t1] at ho
    rw [if_neg hov]
    clear t1 hov
    go_enter Try.func25, Try.ntmps25
    go_wp2_with fail
    refine (ho _).mono ?_
    rintro e w2 ⟨rfl, hb2⟩
    have p0 : w2.cell? ⟨W0.heap.size, 0, none⟩ = some (.int .i64 xi) := (hb2.cell (p := ⟨W0.heap.size, 0, none⟩) (by simp)).trans (by simp [go_sem])
    have p1 : w2.cell? ⟨W0.heap.size, 1, none⟩ = some (.slice xa nv xc) := (hb2.cell (p := ⟨W0.heap.size, 1, none⟩) (by simp)).trans (by simp [go_sem])
    have p2 : w2.cell? ⟨W0.heap.size, 2, none⟩ = some (.int .i64 xt) := (hb2.cell (p := ⟨W0.heap.size, 2, none⟩) (by simp)).trans (by simp [go_sem])
    have b3 : Below W0.heap.size W0 w2 := ((Below.refl _ _).alloc (Nat.le_refl _) _).trans (hb2.mono (by simp))
    have s0 := (b3.cell (p := ⟨w.heap.size, 0, none⟩) HB.out.2).trans r0
    have s1 := (b3.cell (p := ⟨w.heap.size, 1, none⟩) HB.out.2).trans r1
    have s2 := (b3.cell (p := ⟨w.heap.size, 2, none⟩) HB.out.2).trans r2
    have sf : ∀ j, w2.frozen? ⟨w.heap.size, j, none⟩ = false := fun j => (b3.frozen (p := ⟨w.heap.size, j, none⟩) HB.out.2).trans (rf j)
    have HC := Lib.hid b3
    clear b3 hb2
    go_wp2_with fail
    obtain ⟨k0, k1, k2⟩ := set3 s0 s1 s2 rfl
    (try simp only [Exit.inBlock, Exit.then]); exact bodyPost_ret (results_cell2 rfl rfl (load_lease k0 k1 k2)) rfl ⟨rfl, below3 (HB.out.1.trans (HC.out.mono HB.out.1.size)) (Nat.le_refl _)⟩
end Go.Proofs.Ytmdhegmnfcodbaa
