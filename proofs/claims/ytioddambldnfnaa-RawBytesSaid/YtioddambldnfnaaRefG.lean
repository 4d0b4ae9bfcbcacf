/-
  The walks of the reference's digit and Unquote.
-/
import Derived.Test.YtioddambldnfnaaRawY
import Derived.StillTailTactics
namespace Go.Proofs.Ytioddambldnfnaa
open Go.RowKit

theorem dig_ok (c : UInt8) (k : Nat) (w : World) (h : Rw.nibF c = some k) :
    Calls Try.prog 38 #[.int .u8 (c.toNat : Int)] w fun e w' => e = .returned (.int .i64 (k : Int)) ∧ w' = w := by
  have h8 := c.toNat_lt
  unfold Rw.nibF at h
  by_cases a1 : 48 ≤ c.toNat ∧ c.toNat ≤ 57
  · rw [if_pos a1] at h
    have e := Option.some.inj h
    obtain ⟨x1, x2⟩ := a1
    have HE := Lib.hid e
    clear h e
    go_enter Try.func38, Try.ntmps38
    go_wp2
    go_ret
    exact ⟨ret_i (by have := HE.out; omega), rfl⟩
  · rw [if_neg a1] at h
    by_cases a2 : 97 ≤ c.toNat ∧ c.toNat ≤ 102
    · rw [if_pos a2] at h
      have e := Option.some.inj h
      obtain ⟨x1, x2⟩ := a2
      have t1 : decide ((c.toNat : Int) ≤ 57) = false := by simp; omega
      have HE := Lib.hid e
      clear h e a1
      go_enter Try.func38, Try.ntmps38
      go_wp2
      go_ret
      exact ⟨ret_i (by have := HE.out; omega), rfl⟩
    · rw [if_neg a2] at h
      by_cases a3 : 65 ≤ c.toNat ∧ c.toNat ≤ 70
      · rw [if_pos a3] at h
        have e := Option.some.inj h
        obtain ⟨x1, x2⟩ := a3
        have t1 : decide ((c.toNat : Int) ≤ 57) = false := by simp; omega
        have t2 : decide ((97 : Int) ≤ (c.toNat : Int)) = false := by simp; omega
        have HE := Lib.hid e
        clear h e a1 a2
        go_enter Try.func38, Try.ntmps38
        go_wp2
        go_ret
        exact ⟨ret_i (by have := HE.out; omega), rfl⟩
      · rw [if_neg a3] at h
        cases h

theorem nib_out {c : UInt8} (h : Rw.nibF c = none) : ¬ (48 ≤ c.toNat ∧ c.toNat ≤ 57) ∧ ¬ (97 ≤ c.toNat ∧ c.toNat ≤ 102) ∧ ¬ (65 ≤ c.toNat ∧ c.toNat ≤ 70) := by
  unfold Rw.nibF at h
  split at h
  · cases h
  · split at h
    · cases h
    · split at h
      · cases h
      · exact ⟨by assumption, by assumption, by assumption⟩

theorem dig_no (c : UInt8) (w : World) (h : Rw.nibF c = none) :
    Calls Try.prog 38 #[.int .u8 (c.toNat : Int)] w fun e w' => e = .returned (.int .i64 (-1)) ∧ w' = w := by
  have h8 := c.toNat_lt
  have HA := Lib.hid (nib_out h)
  clear h
  go_enter Try.func38, Try.ntmps38
  go_wp2
  all_goals first
    | (exfalso; have := HA.out; omega)
    | (go_ret; exact ⟨rfl, rfl⟩)

/-! What unqK does at a place, by the byte there. -/
section
open Rw
theorem atF_at (s : ByteArray) (i : Nat) (h : i < s.size) : atF s.data.toList i = if 32 ≤ s[i].toNat ∧ s[i].toNat ≤ 126 then some s[i] else none := by
  unfold atF
  rw [List.getElem?_eq_getElem (show i < s.data.toList.length by simpa using h)]
  rfl
theorem atF_out (s : ByteArray) (i : Nat) (h : ¬ i < s.size) : atF s.data.toList i = none := by
  unfold atF
  rw [List.getElem?_eq_none (by simp; omega)]
theorem nibAt_at (s : ByteArray) (i : Nat) (h : i < s.size) : nibAt s.data.toList i = nibF s[i] := by
  unfold nibAt
  rw [atF_at s i h]
  split
  · rfl
  · rename_i hr
    show none = _
    unfold nibF
    rw [if_neg (by omega), if_neg (by omega), if_neg (by omega)]
theorem nibAt_out (s : ByteArray) (i : Nat) (h : ¬ i < s.size) : nibAt s.data.toList i = none := by
  unfold nibAt; rw [atF_out s i h]; rfl
theorem unqK_quote' {s : ByteArray} {i g : Nat} {acc : List UInt8} (h : i < s.size) (hc : s[i].toNat = 34) : unqK s.data.toList (g + 1) i acc = some (acc, i + 1) := by
  rw [unqK, atF_at s i h, if_pos (by omega)]
  exact if_pos (UInt8.toNat.inj hc)
theorem unqK_range {s : ByteArray} {i g : Nat} {acc : List UInt8} (h : i < s.size) (hc : ¬ (32 ≤ s[i].toNat ∧ s[i].toNat ≤ 126)) : unqK s.data.toList (g + 1) i acc = none := by
  rw [unqK, atF_at s i h, if_neg hc]
theorem unqK_plain {s : ByteArray} {i g : Nat} {acc : List UInt8} (h : i < s.size) (hc : 32 ≤ s[i].toNat ∧ s[i].toNat ≤ 126) (h1 : s[i].toNat ≠ 34) (h2 : s[i].toNat ≠ 92) :
    unqK s.data.toList (g + 1) i acc = unqK s.data.toList g (i + 1) (acc ++ [s[i]]) := by
  rw [unqK, atF_at s i h, if_pos hc]
  simp only
  rw [if_neg (fun e => h1 (congrArg UInt8.toNat e)), if_neg (fun e => h2 (congrArg UInt8.toNat e))]
theorem unqK_esc {s : ByteArray} {i g : Nat} {acc : List UInt8} (h : i < s.size) (h2 : s[i].toNat = 92) :
    unqK s.data.toList (g + 1) i acc = match atF s.data.toList (i + 1) with
        | none => none
        | some d =>
          if d = 34 ∨ d = 92 then unqK s.data.toList g (i + 2) (acc ++ [d])
          else if d = 120 then
            match nibAt s.data.toList (i + 2), nibAt s.data.toList (i + 3) with
            | some h, some k => unqK s.data.toList g (i + 4) (acc ++ [UInt8.ofNat (16 * h + k)])
            | _, _ => none
          else none := by
  rw [unqK, atF_at s i h, if_pos (by omega)]
  simp only
  rw [if_neg (fun e => by have := congrArg UInt8.toNat e; rw [h2] at this; exact absurd this (by decide)), if_pos (UInt8.toNat.inj h2)]
  rfl
theorem unqK_last {s : ByteArray} {i g : Nat} {acc : List UInt8} (h : i < s.size) (h2 : s[i].toNat = 92) (h3 : ¬ i + 1 < s.size) : unqK s.data.toList (g + 1) i acc = none := by
  rw [unqK_esc h h2, atF_out s _ h3]
theorem unqK_two {s : ByteArray} {i g : Nat} {acc : List UInt8} (h : i < s.size) (h2 : s[i].toNat = 92) (h3 : i + 1 < s.size) (hd : s[i + 1].toNat = 34 ∨ s[i + 1].toNat = 92) :
    unqK s.data.toList (g + 1) i acc = unqK s.data.toList g (i + 2) (acc ++ [s[i + 1]]) := by
  rw [unqK_esc h h2, atF_at s _ h3, if_pos (by omega)]
  exact if_pos (hd.elim (fun e => Or.inl (UInt8.toNat.inj e)) (fun e => Or.inr (UInt8.toNat.inj e)))
theorem unqK_other {s : ByteArray} {i g : Nat} {acc : List UInt8} (h : i < s.size) (h2 : s[i].toNat = 92) (h3 : i + 1 < s.size) (hd : s[i + 1].toNat ≠ 34 ∧ s[i + 1].toNat ≠ 92 ∧ s[i + 1].toNat ≠ 120) :
    unqK s.data.toList (g + 1) i acc = none := by
  rw [unqK_esc h h2, atF_at s _ h3]
  split
  · rfl
  · rename_i d hd2
    split at hd2
    · obtain rfl := Option.some.inj hd2
      rw [if_neg, if_neg]
      · exact fun e => hd.2.2 (congrArg UInt8.toNat e)
      · rintro (e | e)
        · exact hd.1 (congrArg UInt8.toNat e)
        · exact hd.2.1 (congrArg UInt8.toNat e)
    · cases hd2
theorem unqK_hex {s : ByteArray} {i g : Nat} {acc : List UInt8} (h : i < s.size) (h2 : s[i].toNat = 92) (h3 : i + 1 < s.size) (hd : s[i + 1].toNat = 120) :
    unqK s.data.toList (g + 1) i acc = match nibAt s.data.toList (i + 2), nibAt s.data.toList (i + 3) with
            | some h, some k => unqK s.data.toList g (i + 4) (acc ++ [UInt8.ofNat (16 * h + k)])
            | _, _ => none := by
  rw [unqK_esc h h2, atF_at s _ h3, if_pos (by omega)]
  simp only
  rw [if_neg, if_pos (UInt8.toNat.inj hd)]
  rintro (e | e)
  · have := congrArg UInt8.toNat e; rw [hd] at this; exact absurd this (by decide)
  · have := congrArg UInt8.toNat e; rw [hd] at this; exact absurd this (by decide)
end
end Go.Proofs.Ytioddambldnfnaa
