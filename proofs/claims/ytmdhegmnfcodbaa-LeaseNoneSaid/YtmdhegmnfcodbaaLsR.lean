/-
  Lease: bytes that a vector is read from: what takes them, what meets a panic.
-/
import Derived.Test.YtmdhegmnfcodbaaLsQ
import Derived.Defers
import Derived.Recover
import Derived.Laws.Pointers
namespace Go.Proofs.Ytmdhegmnfcodbaa
open Go.RowKit
variable {w w' w0 w1 w2 w3 w4 : World} {mb lb B : Nat} {ob : Option Nat} {m : Lm} {last now : Int}

abbrev errV (code : Int) : Value := .iface 31 (.int .i64 code)
theorem assert_errno (x : Value) (w : World) : (Instr.typeAssert (.iface 31 x) 20 31 true).run Try.prog w = .ok (.tuple #[x, .bool true]) w := by kernel_rfl

theorem take_short {b n : Nat} {s : ByteArray} {k : Int} (hk : k = (n : Int)) (hb : w.cell? ⟨b, 0, none⟩ = some (.string s)) (hs : s.size < n) (hn : n ≤ 100) : Calls Try.prog 49 #[.pointer (some ⟨b, 0, none⟩), .int .i64 k] w fun e w' =>
    e = .panicked [{ v := errV 3, recovered := false }] ∧ w' = w := by
  subst hk
  have t1 : (s.size : Int) < (n : Int) := by omega
  go_enter Try.func49, Try.ntmps49
  go_wp2
  exact ⟨rfl, rfl, rfl⟩
theorem take_ok {b n : Nat} {s : ByteArray} {k : Int} (hk : k = (n : Int)) (hb : w.cell? ⟨b, 0, none⟩ = some (.string s)) (hf : w.frozen? ⟨b, 0, none⟩ = false) (hs : n ≤ s.size) (hm : s.size ≤ 9223372036854775807) : Calls Try.prog 49 #[.pointer (some ⟨b, 0, none⟩), .int .i64 k] w fun e w' =>
    e = .returned (.string (s.extract 0 n)) ∧ w' = w.setCell ⟨b, 0, none⟩ (.string (s.extract n s.size)) := by
  subst hk
  have t1 : ¬ (s.size : Int) < (n : Int) := by omega
  go_enter Try.func49, Try.ntmps49
  go_wp2
  go_ret
  exact ⟨rfl, rfl⟩

theorem getv_catch (a b c : Nat) (code : Int) (w : World) (fa : w.frozen? ⟨a, 0, none⟩ = false) (fb : w.frozen? ⟨b, 0, none⟩ = false) (fc : w.frozen? ⟨c, 0, none⟩ = false)
    (ca : ∃ v, w.cell? ⟨a, 0, none⟩ = some v) (cb : ∃ v, w.cell? ⟨b, 0, none⟩ = some v) (cc : ∃ v, w.cell? ⟨c, 0, none⟩ = some v) (hab : a ≠ b) (hac : a ≠ c) (hbc : b ≠ c) :
    CallsD Try.prog 48 #[.pointer (some ⟨a, 0, none⟩), .pointer (some ⟨b, 0, none⟩), .pointer (some ⟨c, 0, none⟩)] (.panicking [{ v := errV code, recovered := false }]) w fun e u' w' =>
      e = .returned (.tuple #[]) ∧ u' = .panicking [{ v := errV code, recovered := true }] ∧
      w' = ((w.setCell ⟨a, 0, none⟩ (.slice none 0 0)).setCell ⟨b, 0, none⟩ (.int .i64 0)).setCell ⟨c, 0, none⟩ (.int .i64 code) := by
  obtain ⟨va, ca⟩ := ca
  obtain ⟨vb, cb⟩ := cb
  obtain ⟨vc, cc⟩ := cc
  refine callsD_of_wpS Try.func48 rfl fun c₀ cs hu => ?_
  apply wpS_seq
  apply wpS_region
  simp [wpOpsS, go_sem, recoverD, hu, Try.ntmps48, Exit.thenS]
  refine wpS_of_wp ?_
  simp only [List.replicate, Array.replicate, List.append_toArray, List.setIfInBounds_toArray, List.set_cons_zero, List.set_cons_succ, List.cons_append, List.nil_append]
  have hta := assert_errno
  have hnot : ∀ (x : Bool) (w : World), (Op.unary .not (.bool x)).run Try.prog w = .ok (.bool (!x)) w := fun _ _ => rfl
  go_wp2
  exact ⟨rfl, _, rfl, _, results_none rfl _ _ _, rfl, rfl, rfl⟩
theorem getv_idle (a b c : Nat) (w : World) :
    CallsD Try.prog 48 #[.pointer (some ⟨a, 0, none⟩), .pointer (some ⟨b, 0, none⟩), .pointer (some ⟨c, 0, none⟩)] .returning w fun e u' w' => e = .returned (.tuple #[]) ∧ u' = .returning ∧ w' = w := by
  refine callsD_of_wpS Try.func48 rfl fun c₀ cs hu => ?_
  apply wpS_seq
  apply wpS_region
  simp [wpOpsS, go_sem, recoverD, hu, Try.ntmps48, Exit.thenS]
  refine wpS_of_wp ?_
  simp only [List.replicate, Array.replicate, List.append_toArray, List.setIfInBounds_toArray, List.set_cons_zero, List.set_cons_succ, List.cons_append, List.nil_append]
  go_wp2
  refine ⟨rfl, .returning, ?_, _, results_none rfl _ _ _, rfl, rfl, rfl⟩
  cases c₀
  simp_all
end Go.Proofs.Ytmdhegmnfcodbaa
