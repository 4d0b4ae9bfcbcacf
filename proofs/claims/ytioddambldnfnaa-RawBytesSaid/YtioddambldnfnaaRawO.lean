/-
  Plain: the order of bytes (no program).
-/
import Derived.Lib.Bytealg
import Derived.Test.YtioddambldnfnaaRawJ
namespace Go.Proofs.Ytioddambldnfnaa.Rw
open Go.Lib

theorem cmp_range : ∀ (a b : List UInt8), -1 ≤ compareBytes a b ∧ compareBytes a b ≤ 1
  | [], [] => by simp [compareBytes]
  | [], _ :: _ => by simp [compareBytes]
  | _ :: _, [] => by simp [compareBytes]
  | a :: as, b :: bs => by
    have ih := cmp_range as bs
    unfold compareBytes
    split
    · omega
    · split
      · omega
      · exact ih

theorem cmp_self : ∀ (a : List UInt8), compareBytes a a = 0
  | [] => rfl
  | a :: as => by unfold compareBytes; rw [if_neg (UInt8.lt_irrefl a), if_neg (UInt8.lt_irrefl a)]; exact cmp_self as

theorem cmp_zero : ∀ (a b : List UInt8), compareBytes a b = 0 → a = b
  | [], [], _ => rfl
  | [], _ :: _, h => by simp [compareBytes] at h
  | _ :: _, [], h => by simp [compareBytes] at h
  | a :: as, b :: bs, h => by
    unfold compareBytes at h
    split at h
    · omega
    · split at h
      · omega
      · rename_i h1 h2
        have e : a = b := by
          apply UInt8.toNat.inj
          rw [UInt8.lt_iff_toNat_lt] at h1 h2
          omega
        rw [e, cmp_zero as bs h]

theorem cmp_neg : ∀ (a b : List UInt8), compareBytes b a = -compareBytes a b
  | [], [] => rfl
  | [], _ :: _ => rfl
  | _ :: _, [] => rfl
  | a :: as, b :: bs => by
    unfold compareBytes
    by_cases h1 : a < b
    · have h2 : ¬ b < a := by rw [UInt8.lt_iff_toNat_lt] at h1 ⊢; omega
      rw [if_neg h2, if_pos h1, if_pos h1]; rfl
    · by_cases h2 : b < a
      · rw [if_pos h2, if_neg h1, if_pos h2]
      · rw [if_neg h2, if_neg h1, if_neg h1, if_neg h2]; exact cmp_neg as bs

/-- less, or equal and less .. : the order goes on. -/
theorem cmp_trans : ∀ (a b c : List UInt8), compareBytes a b ≤ 0 → compareBytes b c ≤ 0 → compareBytes a c ≤ 0 ∧ (compareBytes a b < 0 ∨ compareBytes b c < 0 → compareBytes a c < 0)
  | [], [], [], _, _ => by simp [compareBytes]
  | [], [], _ :: _, _, _ => by simp [compareBytes]
  | [], _ :: _, [], _, h => by simp [compareBytes] at h
  | [], _ :: _, _ :: _, _, _ => by simp [compareBytes]
  | _ :: _, [], _, h, _ => by simp [compareBytes] at h
  | _ :: _, _ :: _, [], _, h => by simp [compareBytes] at h
  | a :: as, b :: bs, c :: cs, h1, h2 => by
    have ih := cmp_trans as bs cs
    unfold compareBytes at h1 h2 ⊢
    simp only [UInt8.lt_iff_toNat_lt] at h1 h2 ⊢
    by_cases a1 : a.toNat < b.toNat
    · rw [if_pos a1] at h1 ⊢
      by_cases b1 : b.toNat < c.toNat
      · rw [if_pos (by omega)]; omega
      · rw [if_neg b1] at h2
        by_cases b2 : c.toNat < b.toNat
        · rw [if_pos b2] at h2; omega
        · rw [if_pos (by omega)]; omega
    · rw [if_neg a1] at h1 ⊢
      by_cases a2 : b.toNat < a.toNat
      · rw [if_pos a2] at h1; omega
      · rw [if_neg a2] at h1 ⊢
        by_cases b1 : b.toNat < c.toNat
        · rw [if_pos (by omega)]; omega
        · rw [if_neg b1] at h2 ⊢
          by_cases b2 : c.toNat < b.toNat
          · rw [if_pos b2] at h2; omega
          · rw [if_neg b2] at h2 ⊢
            rw [if_neg (by omega), if_neg (by omega)]
            exact ih h1 h2

/-- Of two numbers in as many bytes the greater one has the greater bytes. -/
theorem cmp_be (k : Nat) : ∀ (v w : Nat), v < 256 ^ k → w < 256 ^ k → ((v < w) ↔ compareBytes (beF k v) (beF k w) < 0) ∧ (v = w ↔ compareBytes (beF k v) (beF k w) = 0) := by
  induction k with
  | zero => intro v w hv hw; simp at hv hw; subst hv; subst hw; simp [beF, compareBytes]
  | succ k ih =>
    intro v w hv hw
    have hp : 0 < 256 ^ k := Nat.pow_pos (by decide)
    rw [Nat.pow_succ] at hv hw
    have qv : v / 256 ^ k < 256 := by rw [Nat.div_lt_iff_lt_mul hp]; omega
    have qw : w / 256 ^ k < 256 := by rw [Nat.div_lt_iff_lt_mul hp]; omega
    have be_mod : ∀ (k u : Nat), beF k (u % 256 ^ k) = beF k u := by
      intro k
      induction k with
      | zero => intro u; rfl
      | succ k ih2 =>
        intro u
        have hp : 0 < 256 ^ k := Nat.pow_pos (by decide)
        unfold beF
        congr 1
        · apply UInt8.toNat.inj
          rw [UInt8.toNat_ofNat', UInt8.toNat_ofNat', Nat.pow_succ, Nat.mod_mul_right_div_self]
          simp
        · rw [← ih2, Nat.pow_succ, Nat.mod_mul_right_mod, ih2]
    have hcmp : compareBytes (beF (k + 1) v) (beF (k + 1) w) = if v / 256 ^ k < w / 256 ^ k then -1 else if w / 256 ^ k < v / 256 ^ k then 1 else compareBytes (beF k (v % 256 ^ k)) (beF k (w % 256 ^ k)) := by
      rw [be_mod, be_mod]
      show compareBytes (UInt8.ofNat (v / 256 ^ k) :: beF k v) (UInt8.ofNat (w / 256 ^ k) :: beF k w) = _
      rw [compareBytes]
      simp only [UInt8.lt_iff_toNat_lt, UInt8.toNat_ofNat']
      rw [Nat.mod_eq_of_lt (show v / 256 ^ k < 2 ^ 8 from qv), Nat.mod_eq_of_lt (show w / 256 ^ k < 2 ^ 8 from qw)]
    have h := ih (v % 256 ^ k) (w % 256 ^ k) (Nat.mod_lt _ hp) (Nat.mod_lt _ hp)
    have ev := Nat.div_add_mod v (256 ^ k)
    have ew := Nat.div_add_mod w (256 ^ k)
    rw [hcmp]
    generalize 256 ^ k = p at *
    generalize hqv : v / p = a at *
    generalize hqw : w / p = b at *
    generalize hrv : v % p = r at *
    generalize hrw : w % p = s at *
    have r1 : r < p := by rw [← hrv]; exact Nat.mod_lt _ hp
    have s1 : s < p := by rw [← hrw]; exact Nat.mod_lt _ hp
    by_cases h1 : a < b
    · rw [if_pos h1]
      have : p * (a + 1) ≤ p * b := Nat.mul_le_mul_left _ h1
      rw [Nat.mul_add] at this
      constructor <;> constructor <;> intro _ <;> omega
    · rw [if_neg h1]
      by_cases h2 : b < a
      · rw [if_pos h2]
        have : p * (b + 1) ≤ p * a := Nat.mul_le_mul_left _ h2
        rw [Nat.mul_add] at this
        constructor <;> constructor <;> intro _ <;> omega
      · rw [if_neg h2]
        obtain rfl : a = b := by omega
        constructor
        · rw [← h.1]; omega
        · rw [← h.2]; omega
end Go.Proofs.Ytioddambldnfnaa.Rw
