/-
  The walks of at, and of asked's deferred closure.
-/
import Derived.Test.YtanekdcmealoeaaNetB
import Derived.Defers
import Derived.Recover
import Derived.Laws.Pointers
namespace Go.Proofs.Ytanekdcmealoeaa
open Go.RowKit Go.Maps

abbrev errPanic (code : Int) : Ending := .panicked [{ v := .iface 26 (.int .i64 code), recovered := false }]

theorem NetAt.cells {w : World} {nb mb : Nat} {lv : Value} {c : Nat} {s : St} (h : NetAt w nb mb lv c s) (i : Nat) (hi : i < s.l.length) :
    ∃ g cap, lv = .slice (some ⟨g, 0, none⟩) s.l.length cap ∧ s.l.length ≤ cap ∧ cap ≤ 9223372036854775807 ∧ g < w.heap.size ∧ w.cell? ⟨g, i * 3, none⟩ = some (.int .i64 s.l[i].f) ∧ w.cell? ⟨g, i * 3 + 1, none⟩ = some (.int .i64 s.l[i].t) ∧ w.cell? ⟨g, i * 3 + 2, none⟩ = some (.string s.l[i].d) := by
  obtain ⟨_, h2⟩ := h.row
  rcases h2 with ⟨_, h0⟩ | ⟨g, cap, cur, rfl, hg, hh, hn, hc, hsz, ht⟩
  · omega
  · have hcell : ∀ k, k < s.l.length * 3 → w.cell? ⟨g, k, none⟩ = (mCells s.l)[k]? := by
      intro k hk
      rw [← ht, List.getElem?_take, if_pos hk]
      simp [World.cell?, hh]
    obtain ⟨m0, m1, m2⟩ := mCells_get s.l i hi
    rw [Nat.mul_comm 3 i] at m0 m1 m2
    exact ⟨g, cap, rfl, hn, by unfold maxLen at hc; omega, (Array.getElem?_eq_some_iff.1 hh).1, (hcell _ (by omega)).trans m0, (hcell _ (by omega)).trans m1, (hcell _ (by omega)).trans m2⟩

set_option maxRecDepth 100000 in
theorem at_ok {w : World} {nb mb : Nat} {lv : Value} {c : Nat} {s : St} (h : NetAt w nb mb lv c s) (i : Nat) (hi : i < s.l.length) :
    Calls Try.prog 38 #[.pointer (some ⟨nb, 0, none⟩), .int .i64 (i : Int)] w fun e w' => e = .returned (mVal s.l[i]) ∧ Below w.heap.size w w' := by
  obtain ⟨g, cap, hlv, hcap, hcm, hg, k0, k1, k2⟩ := h.cells i hi
  have h0 := h.c0
  have h1 := h.c1
  have hn0 := h.n0
  have hnb := h.lt
  have hlen := h.len
  rw [hlv] at h1
  have t0 : (s.n == 0) = false := by rw [beq_eq_false_iff_ne]; omega
  obtain ⟨n, hn⟩ : ∃ n, n = s.l.length := ⟨_, rfl⟩
  obtain ⟨m, hm⟩ : ∃ m, m = s.l[i] := ⟨_, rfl⟩
  rw [← hn] at hi h1 hcap hlen
  rw [← hm] at k0 k1 k2 ⊢
  have t1 : decide ((n : Int) ≤ (i : Int)) = false := by simp; omega
  have t2 : decide ((i : Int) < 0) = false := by simp
  clear h hlv hn hm
  go_enter Try.func38, Try.ntmps38
  go_wp2
  refine ⟨rfl, mVal m, ?_, rfl, (Below.refl _ _).alloc (Nat.le_refl _) _⟩
  simp [results, Try.results38, go_sem, mVal]

set_option maxRecDepth 100000 in
theorem at_index {w : World} {nb mb : Nat} {lv : Value} {c : Nat} {s : St} (h : NetAt w nb mb lv c s) (i : Int) (hi : i < 0 ∨ s.l.length ≤ i) :
    Calls Try.prog 38 #[.pointer (some ⟨nb, 0, none⟩), .int .i64 i] w fun e w' => e = errPanic 5 ∧ Below w.heap.size w w' := by
  obtain ⟨a, cap, hlv, hcap, hcm⟩ := h.form
  have h0 := h.c0
  have h1 := h.c1
  have hn0 := h.n0
  have hnb := h.lt
  have hlen := h.len
  rw [hlv] at h1
  have t0 : (s.n == 0) = false := by rw [beq_eq_false_iff_ne]; omega
  obtain ⟨n, hn⟩ : ∃ n, n = s.l.length := ⟨_, rfl⟩
  rw [← hn] at hi h1 hcap hlen
  clear h hlv hn
  by_cases hneg : i < 0
  · clear hi
    go_enter Try.func38, Try.ntmps38
    go_wp2
    exact ⟨rfl, rfl, (Below.refl _ _).alloc (Nat.le_refl _) _⟩
  · obtain ⟨k, rfl⟩ := Int.eq_ofNat_of_zero_le (show 0 ≤ i by omega)
    have t1 : decide ((n : Int) ≤ (k : Int)) = true := by simp; omega
    have t1n : n ≤ k := by omega
    have t2 : decide ((k : Int) < 0) = false := by simp
    clear hi
    go_enter Try.func38, Try.ntmps38
    go_wp2
    exact ⟨rfl, rfl, (Below.refl _ _).alloc (Nat.le_refl _) _⟩

theorem at_nil (i : Int) (w : World) :
    Calls Try.prog 38 #[.pointer none, .int .i64 i] w fun e w' => e = errPanic 1 ∧ Below w.heap.size w w' := by
  go_enter Try.func38, Try.ntmps38
  go_wp2
  exact ⟨rfl, rfl, (Below.refl _ _).alloc (Nat.le_refl _) _⟩

theorem at_zero (i : Int) (nb : Nat) (w : World) (h0 : w.cell? ⟨nb, 0, none⟩ = some (.int .i64 0)) :
    Calls Try.prog 38 #[.pointer (some ⟨nb, 0, none⟩), .int .i64 i] w fun e w' => e = errPanic 1 ∧ Below w.heap.size w w' := by
  have hnb := World.block_lt_of_cell? w _ h0
  go_enter Try.func38, Try.ntmps38
  go_wp2
  exact ⟨rfl, rfl, (Below.refl _ _).alloc (Nat.le_refl _) _⟩

theorem assert_errno (x : Value) (w : World) : (Instr.typeAssert (.iface 26 x) 20 26 true).run Try.prog w = .ok (.tuple #[x, .bool true]) w := by kernel_rfl

theorem asked_catch (a : Nat) (code : Int) (w : World) (fa : w.frozen? ⟨a, 0, none⟩ = false) (ca : ∃ v, w.cell? ⟨a, 0, none⟩ = some v) :
    CallsD Try.prog 37 #[.pointer (some ⟨a, 0, none⟩)] (.panicking [{ v := .iface 26 (.int .i64 code), recovered := false }]) w fun e u' w' =>
      e = .returned (.tuple #[]) ∧ u' = .panicking [{ v := .iface 26 (.int .i64 code), recovered := true }] ∧ w' = w.setCell ⟨a, 0, none⟩ (.int .i64 code) := by
  obtain ⟨va, ca⟩ := ca
  refine callsD_of_wpS Try.func37 rfl fun c₀ cs hu => ?_
  apply wpS_seq
  apply wpS_region
  simp [wpOpsS, go_sem, recoverD, hu, Try.ntmps37, Exit.thenS]
  refine wpS_of_wp ?_
  simp only [List.replicate, Array.replicate, List.append_toArray, List.setIfInBounds_toArray, List.set_cons_zero, List.set_cons_succ, List.cons_append, List.nil_append]
  have hta := assert_errno
  have hnot : ∀ (x : Bool) (w : World), (Op.unary .not (.bool x)).run Try.prog w = .ok (.bool (!x)) w := fun _ _ => rfl
  go_wp2
  exact ⟨rfl, _, rfl, _, results_none rfl _ _ _, rfl, rfl, rfl⟩

theorem asked_idle (a : Nat) (w : World) :
    CallsD Try.prog 37 #[.pointer (some ⟨a, 0, none⟩)] .returning w fun e u' w' => e = .returned (.tuple #[]) ∧ u' = .returning ∧ w' = w := by
  refine callsD_of_wpS Try.func37 rfl fun c₀ cs hu => ?_
  apply wpS_seq
  apply wpS_region
  simp [wpOpsS, go_sem, recoverD, hu, Try.ntmps37, Exit.thenS]
  refine wpS_of_wp ?_
  simp only [List.replicate, Array.replicate, List.append_toArray, List.setIfInBounds_toArray, List.set_cons_zero, List.set_cons_succ, List.cons_append, List.nil_append]
  go_wp2
  refine ⟨rfl, .returning, ?_, _, results_none rfl _ _ _, rfl, rfl, rfl⟩
  cases c₀
  simp_all
end Go.Proofs.Ytanekdcmealoeaa
