/-
  The order of bytes: plain facts.
-/
import Derived.Test.YtnfpnmfgppamgaaGreatBase
import Derived.Test.YtnfpnmfgppamgaaGreatPkE
namespace Go.Proofs.YtnfpnmfgppamgaaGreat
open Go.RowKit Go.Lib
theorem cmp_range : ∀ (a b : List UInt8), -1 ≤ compareBytes a b ∧ compareBytes a b ≤ 1
  | [], [] => by simp [compareBytes]
  | [], _ :: _ => by simp [compareBytes]
  | _ :: _, [] => by simp [compareBytes]
  | a :: al, b :: bs => by
    have ih := cmp_range al bs
    unfold compareBytes
    split
    · omega
    · split
      · omega
      · exact ih

theorem cmp_self : ∀ (a : List UInt8), compareBytes a a = 0
  | [] => rfl
  | a :: al => by unfold compareBytes; rw [if_neg (UInt8.lt_irrefl a), if_neg (UInt8.lt_irrefl a)]; exact cmp_self al

theorem cmp_zero : ∀ (a b : List UInt8), compareBytes a b = 0 → a = b
  | [], [], _ => rfl
  | [], _ :: _, h => by simp [compareBytes] at h
  | _ :: _, [], h => by simp [compareBytes] at h
  | a :: al, b :: bs, h => by
    unfold compareBytes at h
    split at h
    · omega
    · split at h
      · omega
      · rename_i h1 h2
        have e : a = b := by
          apply UInt8.toNat.inj
          rw [UInt8.lt_iff_toNat_lt] at h1 h2
          omega
        rw [e, cmp_zero al bs h]

theorem cmp_neg : ∀ (a b : List UInt8), compareBytes b a = -compareBytes a b
  | [], [] => rfl
  | [], _ :: _ => rfl
  | _ :: _, [] => rfl
  | a :: al, b :: bs => by
    unfold compareBytes
    by_cases h1 : a < b
    · have h2 : ¬ b < a := by rw [UInt8.lt_iff_toNat_lt] at h1 ⊢; omega
      rw [if_neg h2, if_pos h1, if_pos h1]; rfl
    · by_cases h2 : b < a
      · rw [if_pos h2, if_neg h1, if_pos h2]
      · rw [if_neg h2, if_neg h1, if_neg h1, if_neg h2]; exact cmp_neg al bs

/-- less, or equal and less .. : the order goes on. -/
theorem cmp_trans : ∀ (a b c : List UInt8), compareBytes a b ≤ 0 → compareBytes b c ≤ 0 → compareBytes a c ≤ 0 ∧ (compareBytes a b < 0 ∨ compareBytes b c < 0 → compareBytes a c < 0)
  | [], [], [], _, _ => by simp [compareBytes]
  | [], [], _ :: _, _, _ => by simp [compareBytes]
  | [], _ :: _, [], _, h => by simp [compareBytes] at h
  | [], _ :: _, _ :: _, _, _ => by simp [compareBytes]
  | _ :: _, [], _, h, _ => by simp [compareBytes] at h
  | _ :: _, _ :: _, [], _, h => by simp [compareBytes] at h
  | a :: al, b :: bs, c :: cs, h1, h2 => by
    have ih := cmp_trans al bs cs
    unfold compareBytes at h1 h2 ⊢
    simp only [UInt8.lt_iff_toNat_lt] at h1 h2 ⊢
    by_cases a1 : a.toNat < b.toNat
    · rw [if_pos a1] at h1 ⊢
      by_cases b1 : b.toNat < c.toNat
      · rw [if_pos (by omega)]; omega
      · rw [if_neg b1] at h2
        by_cases b2 : c.toNat < b.toNat
        · rw [if_pos b2] at h2; omega
        · rw [if_pos (by omega)]; omega
    · rw [if_neg a1] at h1 ⊢
      by_cases a2 : b.toNat < a.toNat
      · rw [if_pos a2] at h1; omega
      · rw [if_neg a2] at h1 ⊢
        by_cases b1 : b.toNat < c.toNat
        · rw [if_pos (by omega)]; omega
        · rw [if_neg b1] at h2 ⊢
          by_cases b2 : c.toNat < b.toNat
          · rw [if_pos b2] at h2; omega
          · rw [if_neg b2] at h2 ⊢
            rw [if_neg (by omega), if_neg (by omega)]
            exact ih h1 h2


theorem kcmp_trans {a b c : ByteArray} (h : kcmp a b < 0) (h2 : kcmp b c < 0) : kcmp a c < 0 :=
  (cmp_trans _ _ _ (Int.le_of_lt h) (Int.le_of_lt h2)).2 (Or.inl h)
theorem kcmp_self (a : ByteArray) : kcmp a a = 0 := cmp_self _
theorem kcmp_zero {a b : ByteArray} (h : kcmp a b = 0) : a = b := by
  have := cmp_zero _ _ h
  cases a; cases b
  simp only at this
  congr
  exact Array.toList_inj.1 this
theorem kcmp_neg (a b : ByteArray) : kcmp b a = - kcmp a b := cmp_neg _ _
theorem less_cmp : ∀ (a b : List UInt8), Op.bytesLess a b = decide (Lib.compareBytes a b < 0)
  | [], [] => by simp [Op.bytesLess, Lib.compareBytes]
  | [], _ :: _ => by simp [Op.bytesLess, Lib.compareBytes]
  | _ :: _, [] => by simp [Op.bytesLess, Lib.compareBytes]
  | a :: x, b :: y => by
    rw [Op.bytesLess, Lib.compareBytes, less_cmp x y]
    by_cases h : a < b
    · simp [h]
    · by_cases h2 : b < a
      · have hne : ¬ a = b := fun e => by subst e; exact h h2
        simp [h, h2, hne]
      · have e : a = b := by
          rw [UInt8.lt_iff_toNat_lt] at h h2
          exact UInt8.toNat_inj.1 (by omega)
        subst e
        simp [h]
theorem less_k (a b : ByteArray) : Op.bytesLess a.toList b.toList = decide (kcmp a b < 0) := by
  rw [less_cmp, ByteArray.toList_eq, ByteArray.toList_eq]
  rfl
theorem str_ne {a b : ByteArray} (h : a ≠ b) : (a.toList == b.toList) = false := by
  rw [beq_eq_false_iff_ne, ByteArray.toList_eq, ByteArray.toList_eq]
  intro e
  exact h (by cases a; cases b; simp only [ByteArray.mk.injEq]; exact Array.toList_inj.1 e)
theorem str_bne {a b : ByteArray} (h : a ≠ b) : (a.toList != b.toList) = true := by rw [bne, str_ne h]; rfl
theorem str_eq (a : ByteArray) : (a.toList == a.toList) = true := beq_self_eq_true _
theorem str_beq (a : ByteArray) : (a.toList != a.toList) = false := by rw [bne, str_eq]; rfl

theorem kcmp_le {a b c : ByteArray} (h : kcmp a b ≤ 0) (h2 : kcmp b c ≤ 0) : kcmp a c ≤ 0 := (cmp_trans _ _ _ h h2).1
end Go.Proofs.YtnfpnmfgppamgaaGreat
