/-
  Numbers of 64 bits, positive and normal: what a product and a quotient are, their scale and their order. Plain.
-/
import Derived.Test.YtnnjngooggenpaaFl
namespace Go.Proofs.Ytnnjngooggenpaa
open Ieee

/-- The word of a normal number m * 2 ^ p. -/
def wd (m : Nat) (p : Int) : Nat := (p + 1074).toNat * 4503599627370496 + m
/-- A mantissa. -/
def Man (m : Nat) : Prop := 4503599627370496 ≤ m ∧ m < 9007199254740992
theorem d_least : Ieee.double.leastPlace = -1074 := by decide +kernel
theorem d_binade : Ieee.double.binade = 4503599627370496 := by decide +kernel
theorem d_inf : Ieee.double.infRung = 9218868437227405312 := by decide +kernel
theorem d_sign : Ieee.double.signWeight = 9223372036854775808 := by decide +kernel
theorem d_frac : Ieee.double.fractionBits = 52 := rfl

theorem read_wd {m : Nat} {p : Int} (hm : Man m) (h1 : -1074 ≤ p) (h2 : p ≤ 970) : Ieee.double.read (wd m p) = .number false m p := by
  obtain ⟨a, b⟩ := hm
  have e1 : wd m p < 9223372036854775808 := by unfold wd; omega
  unfold Ieee.Format.read
  rw [d_sign, d_binade, d_inf, d_least]
  have e2 : wd m p / 9223372036854775808 % 2 = 0 := by omega
  have e3 : wd m p % 9223372036854775808 = wd m p := Nat.mod_eq_of_lt e1
  have e4 : wd m p % 4503599627370496 = m - 4503599627370496 := by unfold wd; omega
  have e5 : wd m p / 4503599627370496 = (p + 1074).toNat + 1 := by unfold wd; omega
  simp only [e2, e3, e4, e5]
  rw [if_neg (by unfold wd; omega), if_pos (by unfold wd; omega)]
  have e6 : 4503599627370496 + (m - 4503599627370496) = m := by omega
  have e7 : (-1074 : Int) + (((p + 1074).toNat + 1 - 1 : Nat) : Int) = p := by omega
  rw [e6, e7]
  rfl

/-- Half to even. -/
def rnd (n g : Nat) : Nat := n / g + (decide (g < 2 * (n % g)) || (g == 2 * (n % g) && n / g % 2 == 1)).toNat
theorem rnd_mono {a b g : Nat} (hg : 0 < g) (h : a ≤ b) : rnd a g ≤ rnd b g := by
  unfold rnd
  have h1 : a / g ≤ b / g := Nat.div_le_div_right h
  rcases Nat.lt_or_ge (a / g) (b / g) with h2 | h2
  · have : (decide (g < 2 * (a % g)) || (g == 2 * (a % g) && a / g % 2 == 1)).toNat ≤ 1 := Bool.toNat_le _
    omega
  · have e : a / g = b / g := by omega
    have d1 := Nat.div_add_mod a g
    have d2 := Nat.div_add_mod b g
    rw [e] at d1
    have hm : a % g ≤ b % g := by omega
    rw [e]
    refine Nat.add_le_add_left ?_ _
    by_cases c1 : (decide (g < 2 * (a % g)) || (g == 2 * (a % g) && b / g % 2 == 1)) = true
    · have c2 : (decide (g < 2 * (b % g)) || (g == 2 * (b % g) && b / g % 2 == 1)) = true := by
        simp only [Bool.or_eq_true, decide_eq_true_eq, Bool.and_eq_true, beq_iff_eq] at c1 ⊢
        omega
      rw [c1, c2]
      exact Nat.le_refl _
    · rw [Bool.not_eq_true] at c1
      rw [c1]
      exact Nat.zero_le _
theorem rnd_exact {n g : Nat} (hg : 0 < g) : rnd (n * g) g = n := by
  unfold rnd
  rw [Nat.mul_div_cancel _ hg, Nat.mul_mod_left]
  have : (decide (g < 2 * 0) || (g == 2 * 0 && n % 2 == 1)) = false := by
    simp only [Nat.mul_zero, Nat.not_lt_zero, decide_false, Bool.false_or, Bool.and_eq_false_iff, beq_eq_false_iff_ne]
    exact .inl (by omega)
  rw [this]
  rfl
theorem cut_rnd (n drop : Nat) (h : drop ≤ n.log2 + 2) : Toward.even.cut false n drop = rnd n (2 ^ drop) := by
  unfold Toward.cut rnd
  rw [Nat.min_eq_left h, Nat.one_shiftLeft]

/-- Of a number's digits: those that are kept. -/
def kept (mag : Nat) : Nat := if mag.log2 ≤ 52 then mag * 2 ^ (52 - mag.log2) else rnd mag (2 ^ (mag.log2 - 52))
theorem log_le {m : Nat} (h : 0 < m) : 2 ^ m.log2 ≤ m := Nat.log2_self_le (by omega)
theorem log_lt (m : Nat) : m < 2 ^ (m.log2 + 1) := Nat.lt_log2_self
theorem kept_bd {mag : Nat} (h : 0 < mag) : 4503599627370496 ≤ kept mag ∧ kept mag ≤ 9007199254740992 := by
  have h1 := log_le h
  have h2 := log_lt mag
  unfold kept
  split
  · rename_i hl
    have e : 2 ^ mag.log2 * 2 ^ (52 - mag.log2) = 4503599627370496 := by rw [← Nat.pow_add, show mag.log2 + (52 - mag.log2) = 52 by omega]
    have e2 : 2 ^ (mag.log2 + 1) * 2 ^ (52 - mag.log2) = 9007199254740992 := by rw [← Nat.pow_add, show mag.log2 + 1 + (52 - mag.log2) = 53 by omega]
    have a := Nat.mul_le_mul_right (2 ^ (52 - mag.log2)) h1
    have b := Nat.mul_le_mul_right (2 ^ (52 - mag.log2)) (Nat.le_of_lt h2)
    rw [e] at a
    rw [e2] at b
    exact ⟨a, b⟩
  · rename_i hl
    have hg : 0 < 2 ^ (mag.log2 - 52) := Nat.two_pow_pos _
    have a := rnd_mono hg (a := 4503599627370496 * 2 ^ (mag.log2 - 52)) (b := mag) (by
      have e : 4503599627370496 * 2 ^ (mag.log2 - 52) = 2 ^ mag.log2 := by
        rw [show (4503599627370496 : Nat) = 2 ^ 52 by decide, ← Nat.pow_add, show 52 + (mag.log2 - 52) = mag.log2 by omega]
      omega)
    have b := rnd_mono hg (a := mag) (b := 9007199254740992 * 2 ^ (mag.log2 - 52)) (by
      have e : 9007199254740992 * 2 ^ (mag.log2 - 52) = 2 ^ (mag.log2 + 1) := by
        rw [show (9007199254740992 : Nat) = 2 ^ 53 by decide, ← Nat.pow_add, show 53 + (mag.log2 - 52) = mag.log2 + 1 by omega]
      omega)
    rw [rnd_exact hg] at a b
    exact ⟨a, b⟩
/-- The rung of a number. -/
def rung (mag : Nat) (place : Int) : Nat := (place + mag.log2 + 1022).toNat * 4503599627370496 + kept mag
theorem write_rung {mag : Nat} {place : Int} (hm : 0 < mag) (h1 : -1022 ≤ place + mag.log2) (h2 : place + mag.log2 ≤ 1000) : Ieee.double.write (.number false mag place) = rung mag place := by
  have hk := kept_bd hm
  show Ieee.double.nearest false mag place = _
  unfold Ieee.Format.nearest
  rw [if_neg (by omega), d_frac, d_least, d_binade, d_inf]
  simp only []
  have hlast : max (place + (mag.log2 : Int) - ((52 : Nat) : Int)) (-1074) = place + (mag.log2 : Int) - 52 := by omega
  rw [hlast]
  have hc : Toward.even.cut false (mag <<< (place - (place + (mag.log2 : Int) - 52)).toNat) (place + (mag.log2 : Int) - 52 - place).toNat = kept mag := by
    unfold kept
    by_cases hl : mag.log2 ≤ 52
    · rw [if_pos hl, show (place + (mag.log2 : Int) - 52 - place).toNat = 0 by omega, cut_rnd _ _ (by omega), show (place - (place + (mag.log2 : Int) - 52)).toNat = 52 - mag.log2 by omega, Nat.shiftLeft_eq]
      have := rnd_exact (n := mag * 2 ^ (52 - mag.log2)) (g := 1) (by omega)
      rw [Nat.mul_one] at this
      exact this
    · rw [if_neg hl, show (place - (place + (mag.log2 : Int) - 52)).toNat = 0 by omega, Nat.shiftLeft_zero, show (place + (mag.log2 : Int) - 52 - place).toNat = mag.log2 - 52 by omega, cut_rnd _ _ (by omega)]
  rw [hc]
  unfold Ieee.Format.word rung
  rw [if_neg (by decide), Nat.min_eq_left (by omega)]
  have : (place + (mag.log2 : Int) - 52 - -1074).toNat = (place + (mag.log2 : Int) + 1022).toNat := by omega
  rw [this]
/-- .. which is the word of a normal number. -/
theorem rung_wd {mag : Nat} (hm : 0 < mag) : ∃ m d, Man m ∧ ((mag.log2 : Int) ≤ d + 52 ∧ d + 52 ≤ mag.log2 + 1) ∧ ∀ place : Int, -1022 ≤ place + mag.log2 → rung mag place = wd m (place + d) := by
  have hk := kept_bd hm
  by_cases h : kept mag = 9007199254740992
  · refine ⟨4503599627370496, (mag.log2 : Int) - 51, ⟨by omega, by omega⟩, by omega, fun place hp => ?_⟩
    unfold rung wd
    rw [h]
    omega
  · refine ⟨kept mag, (mag.log2 : Int) - 52, ⟨by omega, by omega⟩, by omega, fun place hp => ?_⟩
    unfold rung wd
    omega
theorem log_mono {a b : Nat} (h0 : 0 < a) (h : a ≤ b) : a.log2 ≤ b.log2 := by
  rcases Nat.lt_or_ge b.log2 a.log2 with h1 | h1
  · have a1 := log_le h0
    have b1 := log_lt b
    have : 2 ^ (b.log2 + 1) ≤ 2 ^ a.log2 := Nat.pow_le_pow_right (by omega) (by omega)
    omega
  · exact h1
theorem rung_mono {a b : Nat} {place : Int} (h0 : 0 < a) (h : a ≤ b) (hp : -1022 ≤ place + a.log2) : rung a place ≤ rung b place := by
  have hl := log_mono h0 h
  have ka := kept_bd h0
  have kb := kept_bd (Nat.lt_of_lt_of_le h0 h)
  unfold rung
  rcases Nat.lt_or_ge a.log2 b.log2 with h1 | h1
  · have : (place + (a.log2 : Int) + 1022).toNat + 1 ≤ (place + (b.log2 : Int) + 1022).toNat := by omega
    have := Nat.mul_le_mul_right 4503599627370496 this
    omega
  · have e : a.log2 = b.log2 := by omega
    have : kept a ≤ kept b := by
      unfold kept
      rw [e]
      split
      · exact Nat.mul_le_mul_right _ h
      · exact rnd_mono (Nat.two_pow_pos _) h
    rw [e]
    omega
theorem log_shift {m k : Nat} (h : 0 < m) : (m * 2 ^ k).log2 = m.log2 + k := by
  have h1 := log_le h
  have h2 := log_lt m
  have hp : 0 < 2 ^ k := Nat.two_pow_pos _
  refine (Nat.log2_eq_iff (by have := Nat.mul_pos h hp; omega)).2 ⟨?_, ?_⟩
  · rw [Nat.pow_add]; exact Nat.mul_le_mul_right _ h1
  · rw [show m.log2 + k + 1 = (m.log2 + 1) + k by omega, Nat.pow_add]; exact Nat.mul_lt_mul_of_pos_right h2 hp
theorem rnd_shift {n g k : Nat} (hk : 0 < k) : rnd (n * k) (g * k) = rnd n g := by
  unfold rnd
  have e1 : n * k / (g * k) = n / g := Nat.mul_div_mul_right _ _ hk
  have e2 : n * k % (g * k) = n % g * k := Nat.mul_mod_mul_right _ _ _
  rw [e1, e2]
  have e3 : decide (g * k < 2 * (n % g * k)) = decide (g < 2 * (n % g)) := by
    rw [decide_eq_decide, ← Nat.mul_assoc]
    exact Nat.mul_lt_mul_right hk
  have e4 : (g * k == 2 * (n % g * k)) = (g == 2 * (n % g)) := by
    rw [Bool.eq_iff_iff, beq_iff_eq, beq_iff_eq, ← Nat.mul_assoc]
    exact Nat.mul_left_inj (by omega)
  rw [e3, e4]
theorem kept_shift {m k : Nat} (h : 0 < m) : kept (m * 2 ^ k) = kept m := by
  unfold kept
  rw [log_shift h]
  by_cases h1 : m.log2 ≤ 52
  · rw [if_pos h1]
    by_cases h2 : m.log2 + k ≤ 52
    · rw [if_pos h2, Nat.mul_assoc, ← Nat.pow_add, show k + (52 - (m.log2 + k)) = 52 - m.log2 by omega]
    · rw [if_neg h2]
      have e : m * 2 ^ k = m * 2 ^ (52 - m.log2) * 2 ^ (m.log2 + k - 52) := by rw [Nat.mul_assoc, ← Nat.pow_add, show 52 - m.log2 + (m.log2 + k - 52) = k by omega]
      rw [e]
      exact rnd_exact (Nat.two_pow_pos _)
  · rw [if_neg h1, if_neg (by omega)]
    have e : 2 ^ (m.log2 + k - 52) = 2 ^ (m.log2 - 52) * 2 ^ k := by rw [← Nat.pow_add, show m.log2 - 52 + k = m.log2 + k - 52 by omega]
    rw [e]
    exact rnd_shift (Nat.two_pow_pos _)
theorem rung_shift {m k : Nat} {place : Int} (h : 0 < m) : rung (m * 2 ^ k) place = rung m (place + k) := by
  unfold rung
  rw [kept_shift h, log_shift h]
  have : (place + ((m.log2 + k : Nat) : Int) + 1022).toNat = (place + k + (m.log2 : Int) + 1022).toNat := by omega
  rw [this]
theorem kept_man {m : Nat} (h : Man m) : m.log2 = 52 ∧ kept m = m := by
  have hl : m.log2 = 52 := (Nat.log2_eq_iff (by have := h.1; omega)).2 ⟨by have := h.1; omega, by have := h.2; omega⟩
  refine ⟨hl, ?_⟩
  unfold kept
  rw [hl, if_pos (by omega)]
  simp
theorem rung_man {m k : Nat} {place : Int} (h : Man m) (hp : -1074 ≤ place + k) : rung (m * 2 ^ k) place = wd m (place + k) := by
  have hm : 0 < m := by have := h.1; omega
  rw [rung_shift hm]
  unfold rung wd
  rw [(kept_man h).1, (kept_man h).2]
  omega
end Go.Proofs.Ytnnjngooggenpaa
