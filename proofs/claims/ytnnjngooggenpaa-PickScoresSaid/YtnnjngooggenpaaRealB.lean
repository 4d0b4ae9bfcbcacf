/-
  Scores as numbers: their scale and their order. Plain.
-/
import Derived.Test.YtnnjngooggenpaaReal
import Derived.Test.YtnnjngooggenpaaPkB
namespace Go.Proofs.Ytnnjngooggenpaa
open Ieee

/-- A word that is a normal number above nothing. -/
structure Nm (w m : Nat) (p : Int) : Prop where
  read : Ieee.double.read w = .number false m p
  man : Man m
theorem Nm.wd {m : Nat} {p : Int} (h : Man m) (h1 : -1074 ≤ p) (h2 : p ≤ 970) : Nm (wd m p) m p := ⟨read_wd h h1 h2, h⟩
theorem Nm.notN {w m : Nat} {p : Int} (h : Nm w m p) : isN w = false := by unfold isN; rw [h.read]; rfl
theorem log_man {m : Nat} (h : Man m) : m.log2 = 52 := (kept_man h).1
theorem mul_nm {x y m n : Nat} {p q : Int} (hx : Nm x m p) (hy : Nm y n q) : Ieee.double.mul x y = some (Ieee.double.write (.number false (m * n) (p + q))) := by
  unfold Ieee.Format.mul
  rw [hx.read, hy.read]
  rfl
/-- The digits of a quotient. -/
def Qm (m n : Nat) : Nat := 2 * (m * 18014398509481984 / n) + (m * 18014398509481984 % n != 0).toNat
theorem quo_eq {k m n : Nat} {p q : Int} (hn : n ≠ 0) : Ieee.Datum.quotient k (.number false m p) (.number false n q) = some (.number false (2 * ((m <<< (k + n.log2 - m.log2)) / n) + ((m <<< (k + n.log2 - m.log2)) % n != 0).toNat) (p - q - ((k + n.log2 - m.log2 : Nat) : Int) - 1)) := by
  unfold Ieee.Datum.quotient
  simp only [if_neg hn]
  rfl
theorem div_nm {x y m n : Nat} {p q : Int} (hx : Nm x m p) (hy : Nm y n q) : Ieee.double.div x y = some (Ieee.double.write (.number false (Qm m n) (p - q - 55))) := by
  unfold Ieee.Format.div
  have hn : n ≠ 0 := by have := hy.man.1; omega
  rw [hx.read, hy.read, d_frac, quo_eq hn, log_man hx.man, log_man hy.man, Option.map_some]
  have e1 : (52 : Nat) + 2 + 52 - 52 = 54 := rfl
  have e2 : p - q - ((54 : Nat) : Int) - 1 = p - q - 55 := by omega
  rw [e1, e2, Nat.shiftLeft_eq]
  rfl
theorem div_zero_nm {y n : Nat} {q : Int} (hy : Nm y n q) : Ieee.double.div 0 y = some 0 := by
  unfold Ieee.Format.div
  have hn : n ≠ 0 := by have := hy.man.1; omega
  rw [show Ieee.double.read 0 = .number false 0 (-1074) by decide +kernel, hy.read, quo_eq hn, Option.map_some]
  have e : (2 * ((0 <<< (Ieee.double.fractionBits + 2 + n.log2 - Nat.log2 0)) / n) + ((0 <<< (Ieee.double.fractionBits + 2 + n.log2 - Nat.log2 0)) % n != 0).toNat) = 0 := by
    rw [Nat.zero_shiftLeft, Nat.zero_div, Nat.zero_mod]
    rfl
  rw [e]
  show some (Ieee.double.nearest false 0 _) = _
  unfold Ieee.Format.nearest
  rw [if_pos rfl]
  rfl
theorem Qm_bd {m n : Nat} (hm : Man m) (hn : Man n) : 18014398509481984 ≤ Qm m n ∧ Qm m n < 72057594037927936 := by
  obtain ⟨a, b⟩ := hm
  obtain ⟨c, d⟩ := hn
  have h1 : 9007199254740992 ≤ m * 18014398509481984 / n := (Nat.le_div_iff_mul_le (by omega)).2 (by omega)
  have h2 : m * 18014398509481984 / n < 36028797018963968 := (Nat.div_lt_iff_lt_mul (by omega)).2 (by omega)
  have h3 : (m * 18014398509481984 % n != 0).toNat ≤ 1 := Bool.toNat_le _
  unfold Qm
  omega
theorem Qm_log {m n : Nat} (hm : Man m) (hn : Man n) : 54 ≤ (Qm m n).log2 ∧ (Qm m n).log2 ≤ 55 := by
  have h := Qm_bd hm hn
  have a := log_le (m := Qm m n) (by omega)
  have b := log_lt (Qm m n)
  constructor
  · rcases Nat.lt_or_ge (Qm m n).log2 54 with h1 | h1
    · have : 2 ^ ((Qm m n).log2 + 1) ≤ 2 ^ 54 := Nat.pow_le_pow_right (by omega) (by omega)
      omega
    · exact h1
  · rcases Nat.lt_or_ge 55 (Qm m n).log2 with h1 | h1
    · have : 2 ^ 56 ≤ 2 ^ (Qm m n).log2 := Nat.pow_le_pow_right (by omega) (by omega)
      omega
    · exact h1
/-- A digit behind the last for what is left over. -/
def stick (M n : Nat) : Nat := 2 * (M / n) + (M % n != 0).toNat
theorem stick_mono {a b n : Nat} (h : a ≤ b) : stick a n ≤ stick b n := by
  unfold stick
  have h1 : a / n ≤ b / n := Nat.div_le_div_right h
  have ha : (a % n != 0).toNat ≤ 1 := Bool.toNat_le _
  rcases Nat.lt_or_ge (a / n) (b / n) with h2 | h2
  · omega
  · have e : a / n = b / n := by omega
    have d1 := Nat.div_add_mod a n
    have d2 := Nat.div_add_mod b n
    rw [e] at d1
    have hm : a % n ≤ b % n := by omega
    rw [e]
    refine Nat.add_le_add_left ?_ _
    by_cases c : a % n = 0
    · rw [c]; exact Nat.zero_le _
    · have c2 : b % n ≠ 0 := by omega
      have e1 : (a % n != 0) = true := by simpa using c
      have e2 : (b % n != 0) = true := by simpa using c2
      rw [e1, e2]
      exact Nat.le_refl _
theorem Qm_mono {a b n : Nat} (h : a ≤ b) : Qm a n ≤ Qm b n := stick_mono (Nat.mul_le_mul_right _ h)
/-- Digits of another place. -/
theorem stick_half {M1 M2 n : Nat} (hn : 0 < n) (key : M1 + n ≤ 2 * M2) : stick M1 n ≤ 2 * stick M2 n := by
  have d2 := Nat.div_add_mod M2 n
  have r2 := Nat.mod_lt M2 hn
  unfold stick
  generalize M2 / n = f2 at *
  generalize M2 % n = r at *
  have hs : (M1 % n != 0).toNat ≤ 1 := Bool.toNat_le _
  by_cases c : r = 0
  · have h1 : M1 / n < 2 * f2 := by
      rw [Nat.div_lt_iff_lt_mul hn]
      have : 2 * f2 * n = 2 * (n * f2) := by rw [Nat.mul_assoc, Nat.mul_comm f2 n]
      omega
    have e : (r != 0) = false := by simpa using c
    rw [e]
    show _ ≤ 2 * (2 * f2 + 0)
    omega
  · have h1 : M1 / n < 2 * f2 + 1 := by
      rw [Nat.div_lt_iff_lt_mul hn]
      have : (2 * f2 + 1) * n = 2 * (n * f2) + n := by rw [Nat.add_mul, Nat.mul_assoc, Nat.mul_comm f2 n]; omega
      omega
    have e : (r != 0) = true := by simpa using c
    rw [e]
    show _ ≤ 2 * (2 * f2 + 1)
    omega
theorem Qm_half {m n : Nat} (hm : Man m) (hn : Man n) : Qm m n ≤ 2 * Qm 4503599627370496 n := by
  obtain ⟨_, b⟩ := hm
  obtain ⟨c, d⟩ := hn
  exact stick_half (by omega) (by omega)
/-- Of two numbers the greater one, or the same. -/
def Ge (m' : Nat) (p' : Int) (m : Nat) (p : Int) : Prop := p < p' ∨ p = p' ∧ m ≤ m'
theorem div_ge {m m' n : Nat} {p p' : Int} (q : Int) (hm : Man m) (hm' : Man m') (hn : Man n) (h : Ge m' p' m p) (hp : -1022 ≤ p - q - 55 + 54) : rung (Qm m n) (p - q - 55) ≤ rung (Qm m' n) (p' - q - 55) := by
  have h0 : 0 < Qm m n := by have := (Qm_bd hm hn).1; omega
  have h0' : 0 < Qm m' n := by have := (Qm_bd hm' hn).1; omega
  have hl := (Qm_log hm hn).1
  rcases h with h | ⟨rfl, h⟩
  · obtain ⟨k, hk⟩ : ∃ k : Nat, p' = p + (k + 1 : Nat) := ⟨(p' - p - 1).toNat, by omega⟩
    have e : p' - q - 55 = p - q - 55 + ((k + 1 : Nat) : Int) := by omega
    rw [e, ← rung_shift h0']
    refine rung_mono h0 ?_ (by omega)
    have a := Qm_half hm hn
    have b := Qm_mono (n := n) hm'.1
    have c : Qm m' n * 2 ≤ Qm m' n * 2 ^ (k + 1) := Nat.mul_le_mul_left _ (by rw [Nat.pow_succ]; have := Nat.two_pow_pos k; omega)
    omega
  · exact rung_mono h0 (Qm_mono h) (by omega)
theorem wd_ge {m m' : Nat} {p p' : Int} (hm : Man m) (hm' : Man m') (h1 : -1074 ≤ p) (h2 : -1074 ≤ p') (h : wd m p ≤ wd m' p') : Ge m' p' m p := by
  obtain ⟨a, b⟩ := hm
  obtain ⟨c, d⟩ := hm'
  unfold wd at h
  unfold Ge
  omega
theorem order_ge {x y m m' : Nat} {p p' : Int} (hx : Nm x m p) (hy : Nm y m' p') (h : Ge m' p' m p) : Ieee.double.order y x ≠ some .lt := by
  unfold Ieee.Format.order
  rw [hx.read, hy.read]
  obtain ⟨a, b⟩ := hx.man
  obtain ⟨c, d⟩ := hy.man
  show some (compare _ _) ≠ _
  intro e
  injection e with e
  rw [Int.compare_eq_lt] at e
  unfold signed at e
  simp only [Bool.false_eq_true, if_false, Nat.shiftLeft_eq] at e
  have e' : m' * 2 ^ (p' - min p' p).toNat < m * 2 ^ (p - min p' p).toNat := by exact_mod_cast e
  rcases h with h | ⟨rfl, h⟩
  · have h1 : (p - min p' p).toNat = 0 := by omega
    obtain ⟨k, hk⟩ : ∃ k, (p' - min p' p).toNat = k + 1 := ⟨(p' - p - 1).toNat, by omega⟩
    rw [h1, hk, Nat.pow_succ] at e'
    have := Nat.two_pow_pos k
    have h3 : m' * 2 ≤ m' * (2 ^ k * 2) := Nat.mul_le_mul_left _ (by omega)
    omega
  · have := Nat.mul_le_mul_right (2 ^ (p - min p p).toNat) h
    omega
theorem order_self {x m : Nat} {p : Int} (hx : Nm x m p) : Ieee.double.order x x = some .eq := by
  unfold Ieee.Format.order
  rw [hx.read]
  show some (compare _ _) = _
  rw [Int.compare_eq_eq.2 rfl]
theorem order_zero {y m : Nat} {p : Int} (hy : Nm y m p) : Ieee.double.order y 0 ≠ some .lt := by
  unfold Ieee.Format.order
  rw [hy.read, show Ieee.double.read 0 = .number false 0 (-1074) by decide +kernel]
  show some (compare _ _) ≠ _
  intro e
  injection e with e
  rw [Int.compare_eq_lt] at e
  unfold signed at e
  simp only [Bool.false_eq_true, if_false, Nat.shiftLeft_eq, Nat.zero_mul] at e
  omega
theorem order_00 : Ieee.double.order 0 0 = some .eq := by decide +kernel

/-- A count, as a number. -/
theorem ofInt_nm {n : Nat} (h : 0 < n) (h2 : n < 2147483648) : ∃ l : Nat, l ≤ 30 ∧ 2 ^ l ≤ n ∧ n < 2 ^ (l + 1) ∧ Man (n * 2 ^ (52 - l)) ∧ Nm (floatOfInt .f64 n) (n * 2 ^ (52 - l)) ((l : Int) - 52) := by
  have h3 := log_le h
  have h4 := log_lt n
  have hl : n.log2 ≤ 30 := by
    rcases Nat.lt_or_ge 30 n.log2 with h1 | h1
    · have : 2 ^ 31 ≤ 2 ^ n.log2 := Nat.pow_le_pow_right (by omega) (by omega)
      omega
    · exact h1
  have hman : Man (n * 2 ^ (52 - n.log2)) := by
    have hk : kept n = n * 2 ^ (52 - n.log2) := by unfold kept; rw [if_pos (by omega)]
    have hb := kept_bd h
    rw [hk] at hb
    refine ⟨hb.1, ?_⟩
    have e : 2 ^ (n.log2 + 1) * 2 ^ (52 - n.log2) = 9007199254740992 := by rw [← Nat.pow_add, show n.log2 + 1 + (52 - n.log2) = 53 by omega]
    have := Nat.mul_lt_mul_of_pos_right h4 (Nat.two_pow_pos (52 - n.log2))
    omega
  refine ⟨n.log2, hl, h3, h4, hman, ?_⟩
  have hw : floatOfInt .f64 n = wd (n * 2 ^ (52 - n.log2)) ((n.log2 : Int) - 52) := by
    have e : floatOfInt .f64 (n : Int) = Ieee.double.write (.number false n 0) := by
      show Ieee.double.write (.number (decide ((n : Int) < 0)) (n : Int).natAbs 0) = _
      rw [show decide ((n : Int) < 0) = false by simp, Int.natAbs_natCast]
    rw [e, write_rung h (by omega) (by omega)]
    unfold rung wd kept
    rw [if_pos (by omega)]
    omega
  rw [hw]
  exact Nm.wd hman (by omega) (by omega)
theorem ofInt_zero : floatOfInt .f64 ((0 : Nat) : Int) = 0 := by decide +kernel
theorem ofInt_ge {n n' l l' : Nat} (hnn : n ≤ n') (h1 : 2 ^ l ≤ n) (h2 : n < 2 ^ (l + 1)) (h3 : n' < 2 ^ (l' + 1)) (h4 : 2 ^ l' ≤ n') (hl : l ≤ 30) (hl' : l' ≤ 30) : Ge (n' * 2 ^ (52 - l')) ((l' : Int) - 52) (n * 2 ^ (52 - l)) ((l : Int) - 52) := by
  have hle : l ≤ l' := by
    rcases Nat.lt_or_ge l' l with h | h
    · have : 2 ^ (l' + 1) ≤ 2 ^ l := Nat.pow_le_pow_right (by omega) (by omega)
      omega
    · exact h
  rcases Nat.lt_or_ge l l' with h | h
  · exact .inl (by omega)
  · obtain rfl : l = l' := by omega
    exact .inr ⟨rfl, Nat.mul_le_mul_right _ hnn⟩

/-- A quotient of a count: its word, at whatever place. -/
theorem div_count {n : Nat} (h : 0 < n) (h2 : n < 2147483648) {y k : Nat} {q : Int} (hy : Nm y k q) (hq : -800 ≤ q ∧ q ≤ 700) :
    ∃ l : Nat, l ≤ 30 ∧ 2 ^ l ≤ n ∧ n < 2 ^ (l + 1) ∧ Man (n * 2 ^ (52 - l)) ∧ fdiv (floatOfInt .f64 n) y = rung (Qm (n * 2 ^ (52 - l)) k) ((l : Int) - 52 - q - 55) := by
  obtain ⟨l, hl, h3, h4, hman, hnm⟩ := ofInt_nm h h2
  refine ⟨l, hl, h3, h4, hman, ?_⟩
  unfold fdiv
  rw [div_nm hnm hy]
  have hb := Qm_bd hman hy.man
  have hlg := Qm_log hman hy.man
  rw [write_rung (by omega) (by omega) (by omega), Option.getD_some]
/-- More of them is not less. -/
theorem div_count_ge {n n' : Nat} (hn : n ≤ n') (h2 : n' < 2147483648) {y k : Nat} {q : Int} (hy : Nm y k q) (hq : -800 ≤ q ∧ q ≤ 700) :
    Ieee.double.order (fdiv (floatOfInt .f64 n') y) (fdiv (floatOfInt .f64 n) y) ≠ some .lt ∧ isN (fdiv (floatOfInt .f64 n) y) = false ∧ Ieee.double.order (fdiv (floatOfInt .f64 n) y) (fdiv (floatOfInt .f64 n) y) = some .eq := by
  have z : fdiv (floatOfInt .f64 ((0 : Nat) : Int)) y = 0 := by unfold fdiv; rw [ofInt_zero, div_zero_nm hy]; rfl
  have zn : isN 0 = false := by decide +kernel
  have word : ∀ n, 0 < n → n < 2147483648 → ∃ m p, Nm (fdiv (floatOfInt .f64 (n : Nat)) y) m p := fun n h h2 => by
    obtain ⟨l, hl, _, _, hman, e⟩ := div_count h h2 hy hq
    have hlg := Qm_log hman hy.man
    obtain ⟨m, d, hmm, hd, hw⟩ := rung_wd (mag := Qm (n * 2 ^ (52 - l)) k) (by have := (Qm_bd hman hy.man).1; omega)
    rw [e, hw _ (by omega)]
    exact ⟨m, _, Nm.wd hmm (by omega) (by omega)⟩
  rcases Nat.eq_zero_or_pos n with rfl | h
  · rw [z]
    refine ⟨?_, zn, order_00⟩
    rcases Nat.eq_zero_or_pos n' with rfl | h'
    · rw [z, order_00]; decide
    · obtain ⟨m, p, hw⟩ := word n' h' h2
      exact order_zero hw
  · obtain ⟨m0, p0, hw0⟩ := word n h (by omega)
    refine ⟨?_, hw0.notN, order_self hw0⟩
    obtain ⟨l, hl, a1, a2, hman, e⟩ := div_count h (by omega) hy hq
    obtain ⟨l', hl', b1, b2, hman', e'⟩ := div_count (Nat.lt_of_lt_of_le h hn) h2 hy hq
    have hlg := Qm_log hman hy.man
    have hlg' := Qm_log hman' hy.man
    have hge := div_ge q hman hman' hy.man (ofInt_ge hn a1 a2 b2 b1 hl hl') (by omega)
    obtain ⟨m, d, hmm, hd, hw⟩ := rung_wd (mag := Qm (n * 2 ^ (52 - l)) k) (by have := (Qm_bd hman hy.man).1; omega)
    obtain ⟨m', d', hmm', hd', hw'⟩ := rung_wd (mag := Qm (n' * 2 ^ (52 - l')) k) (by have := (Qm_bd hman' hy.man).1; omega)
    rw [e, e', hw _ (by omega), hw' _ (by omega)]
    rw [hw _ (by omega), hw' _ (by omega)] at hge
    exact order_ge (Nm.wd hmm (by omega) (by omega)) (Nm.wd hmm' (by omega) (by omega)) (wd_ge hmm hmm' (by omega) (by omega) hge)

def two64 : Nat := 4611686018427387904
theorem two_nm : Nm two64 4503599627370496 (-51) := ⟨by decide +kernel, by decide, by decide⟩
theorem Qm_two {m : Nat} : Qm m 4503599627370496 = m * 2 ^ 3 := by
  unfold Qm
  have e : m * 18014398509481984 = m * 4 * 4503599627370496 := by omega
  rw [e, Nat.mul_div_cancel _ (by omega), Nat.mul_mod_left]
  show 2 * (m * 4) + 0 = _
  omega
theorem half_wd {m : Nat} {p : Int} (hm : Man m) (h1 : -900 ≤ p) (h2 : p ≤ 900) : fdiv (wd m p) two64 = wd m (p - 1) := by
  have hx : Nm (wd m p) m p := Nm.wd hm (by omega) (by omega)
  have hl3 : (m * 2 ^ 3).log2 = 55 := by rw [log_shift (by have := hm.1; omega), log_man hm]
  have e : Ieee.double.write (.number false (m * 2 ^ 3) (p - -51 - 55)) = wd m (p - 1) := by
    rw [write_rung (by have := hm.1; omega) (by rw [hl3]; omega) (by rw [hl3]; omega), rung_man hm (by omega)]
    have : p - -51 - 55 + ((3 : Nat) : Int) = p - 1 := by omega
    rw [this]
  unfold fdiv
  rw [div_nm hx two_nm, Qm_two, e, Option.getD_some]
/-- Twice the divisor: half the quotient. -/
theorem div_count_half {n : Nat} (h2 : n < 2147483648) {y y2 k : Nat} {q : Int} (hy : Nm y k q) (hy2 : Nm y2 k (q + 1)) (hq : -800 ≤ q ∧ q ≤ 699) :
    Ieee.double.order (fdiv (floatOfInt .f64 n) y2) (fdiv (fdiv (floatOfInt .f64 n) y) two64) = some .eq := by
  rcases Nat.eq_zero_or_pos n with rfl | h
  · have z : fdiv (floatOfInt .f64 ((0 : Nat) : Int)) y = 0 := by unfold fdiv; rw [ofInt_zero, div_zero_nm hy]; rfl
    have z2 : fdiv (floatOfInt .f64 ((0 : Nat) : Int)) y2 = 0 := by unfold fdiv; rw [ofInt_zero, div_zero_nm hy2]; rfl
    have z3 : fdiv 0 two64 = 0 := by unfold fdiv; rw [div_zero_nm two_nm]; rfl
    rw [z, z2, z3]
    exact order_00
  · obtain ⟨l, hl, _, _, hman, e⟩ := div_count h h2 hy (by omega)
    obtain ⟨l2, hl2, _, _, hman2, e2⟩ := div_count h h2 hy2 (by omega)
    have hll : l = l2 := by
      rename_i a b c d
      rcases Nat.lt_trichotomy l l2 with h | h | h
      · have : 2 ^ (l + 1) ≤ 2 ^ l2 := Nat.pow_le_pow_right (by omega) (by omega)
        omega
      · exact h
      · have : 2 ^ (l2 + 1) ≤ 2 ^ l := Nat.pow_le_pow_right (by omega) (by omega)
        omega
    subst hll
    have hlg := Qm_log hman hy.man
    obtain ⟨m, d, hmm, hd, hw⟩ := rung_wd (mag := Qm (n * 2 ^ (52 - l)) k) (by have := (Qm_bd hman hy.man).1; omega)
    rw [e, e2, hw _ (by omega), hw _ (by omega)]
    have hh := half_wd hmm (p := (l : Int) - 52 - q - 55 + d) (by omega) (by omega)
    have e3 : (l : Int) - 52 - q - 55 + d - 1 = (l : Int) - 52 - (q + 1) - 55 + d := by omega
    rw [e3] at hh
    rw [hh]
    exact order_self (Nm.wd hmm (by omega) (by omega))
end Go.Proofs.Ytnnjngooggenpaa
