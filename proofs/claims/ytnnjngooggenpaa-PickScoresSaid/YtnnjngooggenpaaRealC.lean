/-
  Scores as numbers: a file more; a base twice as great. Plain.
-/
import Derived.Test.YtnnjngooggenpaaRealB
namespace Go.Proofs.Ytnnjngooggenpaa
open Ieee

def big64 : Nat := 5055640609639927018
def few64 : Nat := 4158027847206421152
theorem read_big : ∃ m, Ieee.double.read big64 = .number false m 47 ∧ Man m := ⟨7105427357601002, by decide +kernel, by decide, by decide⟩
theorem read_few : ∃ m, Ieee.double.read few64 = .number false m (-152) ∧ Man m := ⟨5708990770823840, by decide +kernel, by decide, by decide⟩
theorem read_zero : Ieee.double.read 0 = .number false 0 (-1074) := by decide +kernel
theorem read_num {b m : Nat} {s : Bool} {p : Int} (h : Ieee.double.read b = .number s m p) : (m < 4503599627370496 ∧ p = -1074) ∨ (Man m ∧ -1074 ≤ p) := by
  unfold Ieee.Format.read at h
  rw [d_sign, d_binade, d_inf, d_least] at h
  simp only [] at h
  split at h
  · injection h with _ h1 h2
    exact .inl ⟨by omega, h2.symm⟩
  · split at h
    · injection h with _ h1 h2
      have := Nat.mod_lt (b % 9223372036854775808) (show 0 < 4503599627370496 by omega)
      exact .inr ⟨⟨by omega, by omega⟩, by omega⟩
    · split at h <;> cases h
theorem cmp_gt {a b : Int} (h : b < a) : (some (compare a b) : Option Ordering) = some .gt := by rw [Int.compare_eq_gt.2 h]
theorem cmp_lt {a b : Int} (h : a < b) : (some (compare a b) : Option Ordering) = some .lt := by rw [Int.compare_eq_lt.2 h]
theorem order_num {x y m n : Nat} {p q : Int} (hx : Ieee.double.read x = .number false m p) (hy : Ieee.double.read y = .number false n q) :
    Ieee.double.order x y = some (compare ((m * 2 ^ (p - min p q).toNat : Nat) : Int) ((n * 2 ^ (q - min p q).toNat : Nat) : Int)) := by
  unfold Ieee.Format.order
  rw [hx, hy]
  show some (compare (signed false m _) (signed false n _)) = _
  unfold signed
  simp only [Bool.false_eq_true, if_false, Nat.shiftLeft_eq]
theorem base_read {b : Nat} (h0 : Ieee.double.order b 0 = some .gt) (h1 : Ieee.double.order b big64 ≠ some .gt) (h2 : Ieee.double.order b few64 ≠ some .lt) : ∃ m p, Nm b m p ∧ -152 ≤ p ∧ p ≤ 47 := by
  obtain ⟨mb, rb, hmb⟩ := read_big
  obtain ⟨mf, rf, hmf⟩ := read_few
  cases e : Ieee.double.read b with
  | nan s t =>
    unfold Ieee.Format.order at h0
    rw [e] at h0
    cases h0
  | infinity s =>
    cases s with
    | true =>
      unfold Ieee.Format.order at h0
      rw [e, read_zero] at h0
      cases h0
    | false =>
      refine absurd ?_ h1
      unfold Ieee.Format.order
      rw [e, rb]
      rfl
  | number s m p =>
    cases s with
    | true =>
      unfold Ieee.Format.order at h0
      rw [e, read_zero] at h0
      have h0' : (some (compare (signed true m _) (signed false 0 _)) : Option Ordering) = some .gt := h0
      injection h0' with h0'
      rw [Int.compare_eq_gt] at h0'
      unfold signed at h0'
      simp only [if_true, Bool.false_eq_true, if_false, Nat.zero_shiftLeft] at h0'
      generalize (m <<< (p - min p (-1074)).toNat : Nat) = z at h0'
      omega
    | false =>
      rcases read_num e with ⟨hm, rfl⟩ | ⟨hm, hp⟩
      · refine absurd ?_ h2
        rw [order_num e rf]
        refine cmp_lt ?_
        have e1 : ((-1074 : Int) - min (-1074) (-152)).toNat = 0 := by omega
        obtain ⟨k, hk⟩ : ∃ k, ((-152 : Int) - min (-1074) (-152)).toNat = k := ⟨_, rfl⟩
        rw [e1, hk]
        have : mf * 1 ≤ mf * 2 ^ k := Nat.mul_le_mul_left _ (Nat.one_le_two_pow)
        have := hmf.1
        exact_mod_cast (show m * 2 ^ 0 < mf * 2 ^ k by omega)
      · refine ⟨m, p, ⟨e, hm⟩, ?_, ?_⟩
        · rcases Int.lt_or_le p (-152) with h | h
          · refine absurd ?_ h2
            rw [order_num e rf]
            refine cmp_lt ?_
            have e1 : (p - min p (-152)).toNat = 0 := by omega
            obtain ⟨k, hk⟩ : ∃ k, ((-152 : Int) - min p (-152)).toNat = k + 1 := ⟨(-152 - p - 1).toNat, by omega⟩
            rw [e1, hk, Nat.pow_succ]
            have h3 : mf * 2 ≤ mf * (2 ^ k * 2) := Nat.mul_le_mul_left _ (by have := Nat.two_pow_pos k; omega)
            have := hmf.1
            have := hm.2
            exact_mod_cast (show m * 2 ^ 0 < mf * (2 ^ k * 2) by omega)
          · exact h
        · rcases Int.lt_or_le 47 p with h | h
          · refine absurd ?_ h1
            rw [order_num e rb]
            refine cmp_gt ?_
            have e1 : ((47 : Int) - min p 47).toNat = 0 := by omega
            obtain ⟨k, hk⟩ : ∃ k, (p - min p 47).toNat = k + 1 := ⟨(p - 47 - 1).toNat, by omega⟩
            rw [e1, hk, Nat.pow_succ]
            have h3 : m * 2 ≤ m * (2 ^ k * 2) := Nat.mul_le_mul_left _ (by have := Nat.two_pow_pos k; omega)
            have := hmb.2
            have := hm.1
            exact_mod_cast (show mb * 2 ^ 0 < m * (2 ^ k * 2) by omega)
          · exact h

theorem log_prod {m n : Nat} (hm : Man m) (hn : Man n) : 104 ≤ (m * n).log2 ∧ (m * n).log2 ≤ 105 := by
  have h1 : 4503599627370496 * 4503599627370496 ≤ m * n := Nat.mul_le_mul hm.1 hn.1
  have h2 : m * n < 9007199254740992 * 9007199254740992 := Nat.mul_lt_mul'' hm.2 hn.2
  have h0 : 0 < m * n := by omega
  have a := log_le h0
  have b := log_lt (m * n)
  constructor
  · rcases Nat.lt_or_ge (m * n).log2 104 with h | h
    · have : 2 ^ ((m * n).log2 + 1) ≤ 2 ^ 104 := Nat.pow_le_pow_right (by omega) (by omega)
      omega
    · exact h
  · rcases Nat.lt_or_ge 105 (m * n).log2 with h | h
    · have : 2 ^ 106 ≤ 2 ^ (m * n).log2 := Nat.pow_le_pow_right (by omega) (by omega)
      omega
    · exact h
/-- A product, at whatever place. -/
theorem mul_at {m n : Nat} (hm : Man m) (hn : Man n) : ∃ m' d, Man m' ∧ 52 ≤ d ∧ d ≤ 54 ∧ ∀ (x y : Nat) (p q : Int), Nm x m p → Nm y n q → -1074 ≤ p + q → p + q ≤ 800 → Nm (fmul x y) m' (p + q + d) := by
  have hl := log_prod hm hn
  have h0 : 0 < m * n := Nat.mul_pos (by have := hm.1; omega) (by have := hn.1; omega)
  obtain ⟨m', d, hmm, hd, hw⟩ := rung_wd h0
  refine ⟨m', d, hmm, by omega, by omega, fun x y p q hx hy h1 h2 => ?_⟩
  unfold fmul
  rw [mul_nm hx hy, write_rung h0 (by omega) (by omega), hw _ (by omega)]
  exact Nm.wd hmm (by omega) (by omega)
theorem base_at {base base2 ratio m n : Nat} {p q : Int} (hb : Nm base m p) (hb2 : Nm base2 m (p + 1)) (hr : Nm ratio n q) (hp : -152 ≤ p ∧ p ≤ 47) (hq : -152 ≤ q ∧ q ≤ 47) : ∀ k : Nat, k ≤ 4 →
    ∃ mk pk, Nm (baseI base ratio k) mk pk ∧ Nm (baseI base2 ratio k) mk (pk + 1) ∧ -152 - 100 * k ≤ pk ∧ pk ≤ 47 + 101 * k
  | 0, _ => ⟨m, p, hb, hb2, by omega, by omega⟩
  | k + 1, h => by
    obtain ⟨mk, pk, h1, h2, h3, h4⟩ := base_at hb hb2 hr hp hq k (by omega)
    obtain ⟨m', d, hm', hd1, hd2, hw⟩ := mul_at h1.man hr.man
    refine ⟨m', pk + q + d, hw _ _ _ _ h1 hr (by omega) (by omega), ?_, by omega, by omega⟩
    have := hw _ _ _ _ h2 hr (by omega) (by omega)
    rwa [show pk + 1 + q + d = pk + q + d + 1 by omega] at this
theorem twice_nm {base m : Nat} {p : Int} (hb : Nm base m p) (hp : -1000 ≤ p ∧ p ≤ 700) : Nm (fmul two64 base) m (p + 1) := by
  unfold fmul
  rw [mul_nm two_nm hb]
  have hm := hb.man
  have e : 4503599627370496 * m = m * 2 ^ 52 := by rw [Nat.mul_comm]
  have hl : (m * 2 ^ 52).log2 = 104 := by rw [log_shift (by have := hm.1; omega), log_man hm]
  rw [e, write_rung (by have := hm.1; omega) (by rw [hl]; omega) (by rw [hl]; omega), rung_man hm (by omega)]
  have := Nm.wd hm (p := -51 + p + 52) (by omega) (by omega)
  show Nm (wd m (-51 + p + 52)) m (p + 1)
  rwa [show (-51 : Int) + p + 52 = p + 1 by omega] at *

theorem four_nm : Nm 4616189618054758400 4503599627370496 (-50) := ⟨by decide +kernel, by decide, by decide⟩
theorem ofL_app (L : List Fi) (f : Fi) (lv : Int) : (ofL L lv).length ≤ (ofL (L ++ [f]) lv).length := by
  unfold ofL
  rw [List.filter_append, List.length_append]
  omega
theorem bytes_app (L : List Fi) (f : Fi) (lv : Int) : bytesOf L lv ≤ bytesOf (L ++ [f]) lv := by
  have h := bytesOf_bd L lv
  have e : bytesOf (L ++ [f]) lv = addB lv (bytesOf L lv) f := by unfold bytesOf; rw [List.foldl_append]; rfl
  rw [e]
  unfold addB
  split <;> omega
theorem sc_succ (L : List Fi) (base ratio k : Nat) : sc L base ratio (k + 1) = fdiv (floatOfInt .f64 (bytesOf L ((k + 1 : Nat) : Int))) (baseI base ratio k) := rfl
/-- What the law asks, of the scores alone. -/
theorem scores_say {L : List Fi} {f : Fi} {base ratio m n : Nat} {p q : Int} (hL : L.length ≤ 200) (hb : Nm base m p) (hr : Nm ratio n q) (hp : -152 ≤ p ∧ p ≤ 47) (hq : -152 ≤ q ∧ q ≤ 47) :
    ∀ i, i < 6 → Ieee.double.order (sc (L ++ [f]) base ratio i) (sc L base ratio i) ≠ some .lt ∧ isN (sc L base ratio i) = false ∧ isN (sc L (fmul two64 base) ratio i) = false ∧ (0 < i → Ieee.double.order (sc L (fmul two64 base) ratio i) (fdiv (sc L base ratio i) two64) = some .eq) ∧ (i = 0 → Ieee.double.order (sc L (fmul two64 base) ratio i) (sc L base ratio i) = some .eq) := by
  intro i hi
  have hb2 := twice_nm hb (by omega)
  cases i with
  | zero =>
    have h1 := ofL_len (L ++ [f]) 0
    have h2 := div_count_ge (ofL_app L f 0) (by rw [List.length_append] at h1; simp at h1; omega) four_nm (by omega)
    exact ⟨h2.1, h2.2.1, h2.2.1, fun h => by omega, fun _ => h2.2.2⟩
  | succ k =>
    obtain ⟨mk, pk, h1, h2, h3, h4⟩ := base_at hb hb2 hr hp hq k (by omega)
    have b1 := bytesOf_bd L ((k + 1 : Nat) : Int)
    have b2 := bytesOf_bd (L ++ [f]) ((k + 1 : Nat) : Int)
    have b3 := bytes_app L f ((k + 1 : Nat) : Int)
    obtain ⟨n1, e1⟩ : ∃ n1 : Nat, bytesOf L ((k + 1 : Nat) : Int) = n1 := ⟨(bytesOf L ((k + 1 : Nat) : Int)).toNat, by omega⟩
    obtain ⟨n2, e2⟩ : ∃ n2 : Nat, bytesOf (L ++ [f]) ((k + 1 : Nat) : Int) = n2 := ⟨(bytesOf (L ++ [f]) ((k + 1 : Nat) : Int)).toNat, by omega⟩
    rw [sc_succ, sc_succ, sc_succ, e1, e2]
    have c1 := div_count_ge (n := n1) (n' := n2) (by omega) (by omega) h1 (by omega)
    have c2 := div_count_ge (n := n1) (n' := n1) (Nat.le_refl _) (by omega) h2 (by omega)
    have c3 := div_count_half (n := n1) (by omega) h1 h2 (by omega)
    exact ⟨c1.1, c1.2.1, c2.2.1, fun _ => c3, fun h => by omega⟩
end Go.Proofs.Ytnnjngooggenpaa
