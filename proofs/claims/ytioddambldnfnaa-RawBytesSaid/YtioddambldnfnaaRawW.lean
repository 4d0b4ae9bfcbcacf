/-
  The walks of what raw.unquote calls: the closure that tells a sign, and nibble.
-/
import Derived.Test.YtioddambldnfnaaBase
import Derived.Test.YtioddambldnfnaaRawV
namespace Go.Proofs.Ytioddambldnfnaa
open Go.RowKit

abbrev formPanic : Ending := .panicked [{ v := .iface 27 (.int .i64 4), recovered := false }]

theorem at_ok (s : ByteArray) (i : Int) (n B : Nat) (c : UInt8) (w : World) (hi : i = (n : Int)) (hc : w.cell? ⟨B, 0, none⟩ = some (.string s)) (h : Rw.atF s.data.toList n = some c) :
    Calls Try.prog 41 #[.int .i64 i, .pointer (some ⟨B, 0, none⟩)] w fun e w' => e = .returned (.int .u8 (c.toNat : Int)) ∧ w = w' := by
  subst hi
  have hlt : n < s.size := by
    rcases Nat.lt_or_ge n s.size with h1 | h1
    · exact h1
    · unfold Rw.atF at h; rw [List.getElem?_eq_none (by simpa using h1)] at h; cases h
  have hce : s[n] = c ∧ 32 ≤ c.toNat ∧ c.toNat ≤ 126 := by
    unfold Rw.atF at h
    rw [List.getElem?_eq_getElem (by simpa using hlt)] at h
    simp only at h
    split at h
    · rename_i hb
      have e := Option.some.inj h
      rw [e] at hb
      exact ⟨e, hb⟩
    · cases h
  obtain ⟨e, h1, h2⟩ := hce
  have t1 : decide ((s.size : Int) ≤ (n : Int)) = false := by simp; omega
  have t2 : decide ((c.toNat : Int) < 32) = false := by simp; omega
  have t3 : decide ((126 : Int) < (c.toNat : Int)) = false := by simp; omega
  clear h
  go_enter Try.func41, Try.ntmps41
  go_wp2
  go_ret
  exact ⟨rfl, rfl⟩

theorem at_no (s : ByteArray) (i : Int) (n B : Nat) (w : World) (hi : i = (n : Int)) (hc : w.cell? ⟨B, 0, none⟩ = some (.string s)) (h : Rw.atF s.data.toList n = none) :
    Calls Try.prog 41 #[.int .i64 i, .pointer (some ⟨B, 0, none⟩)] w fun e w' => e = formPanic ∧ w = w' := by
  subst hi
  by_cases hlt : n < s.size
  · have t1 : decide ((s.size : Int) ≤ (n : Int)) = false := by simp; omega
    have hce : ¬ (32 ≤ s[n].toNat ∧ s[n].toNat ≤ 126) := by
      unfold Rw.atF at h
      rw [List.getElem?_eq_getElem (by simpa using hlt)] at h
      simp only at h
      split at h
      · cases h
      · rename_i hb
        exact hb
    clear h
    by_cases h1 : 32 ≤ s[n].toNat
    · have t2 : decide ((s[n].toNat : Int) < 32) = false := by simp; omega
      have t3 : decide ((126 : Int) < (s[n].toNat : Int)) = true := by simp; omega
      clear hce
      go_enter Try.func41, Try.ntmps41
      go_wp2
      exact ⟨rfl, rfl, rfl⟩
    · have t2 : decide ((s[n].toNat : Int) < 32) = true := by simp; omega
      clear hce
      go_enter Try.func41, Try.ntmps41
      go_wp2
      exact ⟨rfl, rfl, rfl⟩
  · have t1 : decide ((s.size : Int) ≤ (n : Int)) = true := by simp; omega
    clear h
    go_enter Try.func41, Try.ntmps41
    go_wp2
    exact ⟨rfl, rfl, rfl⟩

theorem nib_ok (c : UInt8) (k : Nat) (w : World) (h : Rw.nibF c = some k) :
    Calls Try.prog 42 #[.int .u8 (c.toNat : Int)] w fun e w' => e = .returned (.int .u8 (k : Int)) ∧ w = w' := by
  have h8 := c.toNat_lt
  unfold Rw.nibF at h
  by_cases a1 : 48 ≤ c.toNat ∧ c.toNat ≤ 57
  · rw [if_pos a1] at h
    have e := Option.some.inj h
    obtain ⟨x1, x2⟩ := a1
    have HE := Lib.hid e
    clear h e
    go_enter Try.func42, Try.ntmps42
    go_wp2
    go_ret
    exact ⟨ret_i (by have := HE.out; omega), rfl⟩
  · rw [if_neg a1] at h
    by_cases a2 : 97 ≤ c.toNat ∧ c.toNat ≤ 102
    · rw [if_pos a2] at h
      have e := Option.some.inj h
      obtain ⟨x1, x2⟩ := a2
      have t1 : decide ((c.toNat : Int) ≤ 57) = false := by simp; omega
      have HE := Lib.hid e
      clear h e a1
      go_enter Try.func42, Try.ntmps42
      go_wp2
      go_ret
      exact ⟨ret_i (by have := HE.out; omega), rfl⟩
    · rw [if_neg a2] at h
      by_cases a3 : 65 ≤ c.toNat ∧ c.toNat ≤ 70
      · rw [if_pos a3] at h
        have e := Option.some.inj h
        obtain ⟨x1, x2⟩ := a3
        have t1 : decide ((c.toNat : Int) ≤ 57) = false := by simp; omega
        have t2 : decide ((97 : Int) ≤ (c.toNat : Int)) = false := by simp; omega
        have HE := Lib.hid e
        clear h e a1 a2
        go_enter Try.func42, Try.ntmps42
        go_wp2
        go_ret
        exact ⟨ret_i (by have := HE.out; omega), rfl⟩
      · rw [if_neg a3] at h
        cases h

theorem nib_no (c : UInt8) (w : World) (h : Rw.nibF c = none) :
    Calls Try.prog 42 #[.int .u8 (c.toNat : Int)] w fun e w' => e = formPanic ∧ w = w' := by
  have h8 := c.toNat_lt
  have hh : ¬ (48 ≤ c.toNat ∧ c.toNat ≤ 57) ∧ ¬ (97 ≤ c.toNat ∧ c.toNat ≤ 102) ∧ ¬ (65 ≤ c.toNat ∧ c.toNat ≤ 70) := by
    unfold Rw.nibF at h
    split at h
    · cases h
    · split at h
      · cases h
      · split at h
        · cases h
        · exact ⟨by assumption, by assumption, by assumption⟩
  obtain ⟨a1, a2, a3⟩ := hh
  have HA := Lib.hid (And.intro a1 (And.intro a2 a3))
  clear h a1 a2 a3
  go_enter Try.func42, Try.ntmps42
  go_wp2
  all_goals first
    | exact ⟨rfl, rfl, rfl⟩
    | (exfalso; have := HA.out; omega)
end Go.Proofs.Ytioddambldnfnaa
