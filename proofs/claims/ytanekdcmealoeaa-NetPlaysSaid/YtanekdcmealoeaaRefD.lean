/-
  The document's net: Peek, Deliver, Drop.
-/
import Derived.Test.YtanekdcmealoeaaRefC
namespace Go.Proofs.Ytanekdcmealoeaa
open Go.RowKit Go.Maps

theorem RefAt.cells {w : World} {rb : Nat} {lr cr : Value} {cl : List (Int × Int)} {s : St} (h : RefAt w rb lr cr cl s) (k : Nat) (hk : k < s.l.length) :
    ∃ g cap, lr = .slice (some ⟨g, 0, none⟩) s.l.length cap ∧ s.l.length ≤ cap ∧ cap ≤ 9223372036854775807 ∧ w.cell? ⟨g, k * 3, none⟩ = some (.int .i64 s.l[k].f) ∧ w.cell? ⟨g, k * 3 + 1, none⟩ = some (.int .i64 s.l[k].t) ∧ w.cell? ⟨g, k * 3 + 2, none⟩ = some (.string s.l[k].d) := by
  rcases own_reads h.row with ⟨_, h0⟩ | ⟨g, cap, hlr, hcap, hcm, _, hc⟩
  · omega
  · have hg := mCells_get s.l k hk
    unfold maxLen at hcm
    refine ⟨g, cap, hlr, hcap, by omega, ?_, ?_, ?_⟩
    · rw [hc _ (by omega), Nat.mul_comm]; exact hg.1
    · rw [hc _ (by omega), Nat.mul_comm]; exact hg.2.1
    · rw [hc _ (by omega), Nat.mul_comm]; exact hg.2.2

set_option maxRecDepth 100000 in
theorem rpeek_ok {w : World} {rb : Nat} {lr cr : Value} {cl : List (Int × Int)} {s : St} (h : RefAt w rb lr cr cl s) (k : Nat) (hk : k < s.l.length) :
    Calls Try.prog 20 #[.pointer (some ⟨rb, 0, none⟩), .int .i64 (k : Int)] w fun e w' => e = .returned (.tuple #[.int .i64 s.l[k].f, .int .i64 s.l[k].t, .string s.l[k].d, .int .i64 0]) ∧ Below w.heap.size w w' := by
  obtain ⟨g, cap, hlr, hcap, hcm, k0, k1, k2⟩ := h.cells k hk
  have h1 := h.c1
  rw [hlr] at h1
  have hlen := h.len
  obtain ⟨m, hm⟩ : ∃ m, m = s.l[k] := ⟨_, rfl⟩
  rw [← hm] at k0 k1 k2 ⊢
  obtain ⟨n, hn⟩ : ∃ n, n = s.l.length := ⟨_, rfl⟩
  rw [← hn] at h1 hk hcap hlen
  have t1 : decide ((k : Int) < 0) = false := by simp
  have t2 : decide ((n : Int) ≤ (k : Int)) = false := by simp; omega
  have t3 : (0 : Int) ≤ (k : Int) := by omega
  have t4 : (k : Int) < (n : Int) := by omega
  clear h hm hlr hn
  go_enter Try.func20, Try.ntmps20
  go_wp2_with fail
  go_quiet (fail)
  go_wp2
  refine ⟨rfl, _, ?_, rfl, (Tn.drewN (F := fun _ => False) _ _).below (Nat.le_refl _) (fun _ e => e.elim)⟩
  simp [results, Try.results20, go_sem]

set_option maxRecDepth 100000 in
theorem rpeek_bad {w : World} {rb : Nat} {lr cr : Value} {cl : List (Int × Int)} {s : St} (h : RefAt w rb lr cr cl s) (i : Int) (hi : i < 0 ∨ s.l.length ≤ i) :
    Calls Try.prog 20 #[.pointer (some ⟨rb, 0, none⟩), .int .i64 i] w fun e w' => e = .returned (.tuple #[.int .i64 0, .int .i64 0, .string ⟨#[]⟩, .int .i64 5]) ∧ Below w.heap.size w w' := by
  obtain ⟨a0, cap, hlr⟩ := h.form
  have h1 := h.c1
  have hlen := h.len
  rw [hlr] at h1
  obtain ⟨n, hn⟩ : ∃ n, n = s.l.length := ⟨_, rfl⟩
  rw [← hn] at h1 hi hlen
  clear h hlr hn
  by_cases h0 : i < 0
  · have t1 : decide (i < 0) = true := by simpa using h0
    clear hi
    go_enter Try.func20, Try.ntmps20
    go_wp2
    refine ⟨rfl, _, ?_, rfl, Below.refl _ _⟩
    simp [results, Try.results20, go_sem]
  · have t1 : decide (i < 0) = false := by simpa using h0
    have t2 : decide ((n : Int) ≤ i) = true := by simp; omega
    have t2n : (n : Int) ≤ i := by omega
    clear hi
    go_enter Try.func20, Try.ntmps20
    go_wp2
    refine ⟨rfl, _, ?_, rfl, Below.refl _ _⟩
    simp [results, Try.results20, go_sem]

theorem rpeek_any {w : World} {rb : Nat} {lr cr : Value} {cl : List (Int × Int)} {s : St} (h : RefAt w rb lr cr cl s) (i : Int) :
    Calls Try.prog 20 #[.pointer (some ⟨rb, 0, none⟩), .int .i64 i] w fun e w' =>
      e = .returned (.tuple #[.int .i64 (s.msg i).f, .int .i64 (s.msg i).t, .string (s.msg i).d, .int .i64 (s.askE i)]) ∧ Below w.heap.size w w' := by
  cases hi : s.has i with
  | true =>
    obtain ⟨k, rfl, hk⟩ := St.has_true hi
    refine (rpeek_ok h k hk).mono ?_
    rintro e w' ⟨rfl, hb⟩
    exact ⟨by rw [(St.msg_nat hk).2, St.askE, if_pos hi], hb⟩
  | false =>
    refine (rpeek_bad h i (St.has_false hi)).mono ?_
    rintro e w' ⟨rfl, hb⟩
    exact ⟨by simp [St.msg, St.askE, hi, msg0], hb⟩
end Go.Proofs.Ytanekdcmealoeaa
