/-
  Lease: what gives up by panic; a number of seven bytes.
-/
import Derived.Test.YtmdhegmnfcodbaaLsS
namespace Go.Proofs.Ytmdhegmnfcodbaa
open Go.RowKit
variable {w w' w0 w1 w2 w3 w4 : World} {mb lb B : Nat} {ob : Option Nat} {m : Lm} {last now : Int}

theorem want_true (w : World) : Calls Try.prog 38 #[.bool true] w fun e w' => e = .returned (.tuple #[]) ∧ w' = w := by
  go_enter Try.func38, Try.ntmps38
  go_wp2
  go_end0
  exact ⟨rfl, rfl⟩
theorem want_false (w : World) : Calls Try.prog 38 #[.bool false] w fun e w' => e = .panicked [{ v := errV 4, recovered := false }] ∧ w' = w := by
  go_enter Try.func38, Try.ntmps38
  go_wp2
  exact ⟨rfl, rfl, rfl⟩
theorem num_short {b : Nat} {s : ByteArray} (hb : w.cell? ⟨b, 0, none⟩ = some (.string s)) (hs : s.size < 7) : Calls Try.prog 37 #[.pointer (some ⟨b, 0, none⟩)] w fun e w' =>
    e = .panicked [{ v := errV 4, recovered := false }] ∧ w' = w := by
  have t1 : ¬ (7 : Int) ≤ (s.size : Int) := by omega
  have t1' : decide ((7 : Int) ≤ (s.size : Int)) = false := decide_eq_false t1
  go_enter Try.func37, Try.ntmps37
  go_wp2_with (go_at_call 38; go_loud (refine (want_false _).mono ?_); rintro e w2 ⟨rfl, rfl⟩)
  exact ⟨rfl, rfl, rfl⟩
/-- The first seven bytes as a number. -/
def num7 (s : ByteArray) : Int := (Rw.beV (s.extract 0 7).data.toList : Int)
theorem num_ok {b : Nat} {s : ByteArray} (hb : w.cell? ⟨b, 0, none⟩ = some (.string s)) (hf : w.frozen? ⟨b, 0, none⟩ = false) (hs : 7 ≤ s.size) (hm : s.size ≤ 9223372036854775807) : Calls Try.prog 37 #[.pointer (some ⟨b, 0, none⟩)] w fun e w' =>
    e = .returned (.int .i64 (num7 s)) ∧ w' = w.setCell ⟨b, 0, none⟩ (.string (s.extract 7 s.size)) := by
  have t1 : (7 : Int) ≤ (s.size : Int) := by omega
  have t1' : decide ((7 : Int) ≤ (s.size : Int)) = true := decide_eq_true t1
  have hG := get7_any (s.extract 0 7) (by rw [ByteArray.size_extract]; omega)
  obtain ⟨n, hn⟩ : ∃ n, num7 s = n := ⟨_, rfl⟩
  have hG' : ∀ w, Calls Try.prog 39 #[.string (s.extract 0 7)] w fun e w' => e = .returned (.tuple #[.int .i64 n, .int .i64 0]) ∧ w = w' := by rw [← hn]; exact hG
  rw [hn]
  clear hG hn
  go_enter Try.func37, Try.ntmps37
  go_wp2_with (first
    | (go_at_call 39; go_loud (refine (hG' _).mono ?_); rintro e w3 ⟨rfl, rfl⟩)
    | (go_at_call 38; go_loud (refine (want_true _).mono ?_); rintro e w2 ⟨rfl, rfl⟩))
  go_ret
  exact ⟨rfl, rfl⟩
theorem num7_enc {s : ByteArray} (h : 7 ≤ s.size) : s.data.toList = enc7 (num7 s) ++ (s.extract 7 s.size).data.toList ∧ 0 ≤ num7 s ∧ num7 s < 72057594037927936 := by
  have hl : (s.extract 0 7).data.toList.length = 7 := by
    have : (s.extract 0 7).size = 7 := by rw [ByteArray.size_extract]; omega
    exact this
  have h1 := bytes_split s 7
  refine ⟨?_, by unfold num7; omega, ?_⟩
  · unfold num7
    rw [enc7_beV hl]
    exact h1
  · have := Rw.beV_lt (s.extract 0 7).data.toList
    rw [hl] at this
    unfold num7
    omega
end Go.Proofs.Ytmdhegmnfcodbaa
