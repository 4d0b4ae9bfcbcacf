
/-
  The order of bytes: plain facts.
-/
import Derived.Test.YtkeggcfnoonakaaGreatApp
import Derived.Lib.Bytealg
set_option linter.unusedSimpArgs false
set_option linter.unusedVariables false
namespace Go.Proofs.YtkeggcfnoonakaaGreat
open Go.Lib
theorem cmp_range : ∀ (a b : List UInt8), -1 ≤ compareBytes a b ∧ compareBytes a b ≤ 1
  | [], [] => by simp [compareBytes]
  | [], _ :: _ => by simp [compareBytes]
  | _ :: _, [] => by simp [compareBytes]
  | a :: al, b :: bs => by
    have ih := cmp_range al bs
    unfold compareBytes
    split
    · omega
    · split
      · omega
      · exact ih

theorem cmp_self : ∀ (a : List UInt8), compareBytes a a = 0
  | [] => rfl
  | a :: al => by unfold compareBytes; rw [if_neg (UInt8.lt_irrefl a), if_neg (UInt8.lt_irrefl a)]; exact cmp_self al

theorem cmp_zero : ∀ (a b : List UInt8), compareBytes a b = 0 → a = b
  | [], [], _ => rfl
  | [], _ :: _, h => by simp [compareBytes] at h
  | _ :: _, [], h => by simp [compareBytes] at h
  | a :: al, b :: bs, h => by
    unfold compareBytes at h
    split at h
    · omega
    · split at h
      · omega
      · rename_i h1 h2
        have e : a = b := by
          apply UInt8.toNat.inj
          rw [UInt8.lt_iff_toNat_lt] at h1 h2
          omega
        rw [e, cmp_zero al bs h]

theorem cmp_neg : ∀ (a b : List UInt8), compareBytes b a = -compareBytes a b
  | [], [] => rfl
  | [], _ :: _ => rfl
  | _ :: _, [] => rfl
  | a :: al, b :: bs => by
    unfold compareBytes
    by_cases h1 : a < b
    · have h2 : ¬ b < a := by rw [UInt8.lt_iff_toNat_lt] at h1 ⊢; omega
      rw [if_neg h2, if_pos h1, if_pos h1]; rfl
    · by_cases h2 : b < a
      · rw [if_pos h2, if_neg h1, if_pos h2]
      · rw [if_neg h2, if_neg h1, if_neg h1, if_neg h2]; exact cmp_neg al bs

/-- less, or equal and less .. : the order goes on. -/
theorem cmp_trans : ∀ (a b c : List UInt8), compareBytes a b ≤ 0 → compareBytes b c ≤ 0 → compareBytes a c ≤ 0 ∧ (compareBytes a b < 0 ∨ compareBytes b c < 0 → compareBytes a c < 0)
  | [], [], [], _, _ => by simp [compareBytes]
  | [], [], _ :: _, _, _ => by simp [compareBytes]
  | [], _ :: _, [], _, h => by simp [compareBytes] at h
  | [], _ :: _, _ :: _, _, _ => by simp [compareBytes]
  | _ :: _, [], _, h, _ => by simp [compareBytes] at h
  | _ :: _, _ :: _, [], _, h => by simp [compareBytes] at h
  | a :: al, b :: bs, c :: cs, h1, h2 => by
    have ih := cmp_trans al bs cs
    unfold compareBytes at h1 h2 ⊢
    simp only [UInt8.lt_iff_toNat_lt] at h1 h2 ⊢
    by_cases a1 : a.toNat < b.toNat
    · rw [if_pos a1] at h1 ⊢
      by_cases b1 : b.toNat < c.toNat
      · rw [if_pos (by omega)]; omega
      · rw [if_neg b1] at h2
        by_cases b2 : c.toNat < b.toNat
        · rw [if_pos b2] at h2; omega
        · rw [if_pos (by omega)]; omega
    · rw [if_neg a1] at h1 ⊢
      by_cases a2 : b.toNat < a.toNat
      · rw [if_pos a2] at h1; omega
      · rw [if_neg a2] at h1 ⊢
        by_cases b1 : b.toNat < c.toNat
        · rw [if_pos (by omega)]; omega
        · rw [if_neg b1] at h2 ⊢
          by_cases b2 : c.toNat < b.toNat
          · rw [if_pos b2] at h2; omega
          · rw [if_neg b2] at h2 ⊢
            rw [if_neg (by omega), if_neg (by omega)]
            exact ih h1 h2


end Go.Proofs.YtkeggcfnoonakaaGreat
