/-
  Plain: reading a number in decimal digits (no program).
-/
import Derived.Lib.Strings
import Derived.Test.YtioddambldnfnaaRawI
namespace Go.Proofs.Ytioddambldnfnaa.Rw

def cutR (l : List UInt8) : List UInt8 := Lib.trimPrefix l [45]
def cutB (l : List UInt8) : Bool := Lib.hasPrefix l [45]
def isDig (c : UInt8) : Bool := decide (48 ≤ c.toNat) && decide (c.toNat ≤ 57)
def decV (l : List UInt8) : Nat := l.foldl (fun v c => 10 * v + (c.toNat - 48)) 0
def numOk (r : List UInt8) (below : Bool) : Bool :=
  decide (1 ≤ r.length) && decide (r.length ≤ 16) && !(decide (r.getD 0 0 = 48) && (decide (1 < r.length) || below)) && r.all isDig
def numV (r : List UInt8) (below : Bool) : Int := if below then -(decV r : Int) else (decV r : Int)

theorem decV_snoc (l : List UInt8) (c : UInt8) : decV (l ++ [c]) = 10 * decV l + (c.toNat - 48) := by simp [decV]
theorem decV_from (l : List UInt8) (h : l.all isDig = true) : ∀ a : Nat, l.foldl (fun v c => 10 * v + (c.toNat - 48)) a < (a + 1) * 10 ^ l.length := by
  induction l with
  | nil => intro a; simp
  | cons c l ih =>
    intro a
    simp only [List.all_cons, Bool.and_eq_true] at h
    have hc := h.1
    simp only [isDig, Bool.and_eq_true, decide_eq_true_eq] at hc
    rw [List.foldl_cons, List.length_cons, Nat.pow_succ]
    refine Nat.lt_of_lt_of_le (ih h.2 _) ?_
    rw [Nat.mul_comm (10 ^ l.length) 10, ← Nat.mul_assoc]
    exact Nat.mul_le_mul_right _ (by omega)
theorem decV_lt (l : List UInt8) (h : l.all isDig = true) : decV l < 10 ^ l.length := by
  have := decV_from l h 0
  simpa [decV] using this

theorem digit_byte {v : Nat} (h : v < 10) : (UInt8.ofNat (48 + v)).toNat = 48 + v := by
  rw [UInt8.toNat_ofNat']; omega
theorem decK_ok (k : Nat) : ∀ v, v < 10 ^ (k + 1) → decV (decK k v) = v ∧ (decK k v).all isDig = true ∧ (v ≠ 0 → (decK k v).getD 0 0 ≠ 48) := by
  induction k with
  | zero =>
    intro v hv
    have hv' : v < 10 := by simpa using hv
    refine ⟨?_, ?_, ?_⟩
    · simp [decK, decV]; omega
    · simp [decK, isDig]; omega
    · intro h0 e
      have := congrArg UInt8.toNat (show UInt8.ofNat (48 + v) = 48 from e)
      rw [digit_byte hv'] at this
      have e2 : (48 : UInt8).toNat = 48 := rfl
      omega
  | succ k ih =>
    intro v hv
    by_cases hs : v < 10
    · rw [decK_small (k + 1) hs]
      refine ⟨?_, ?_, ?_⟩
      · simp [decV]; omega
      · simp [isDig]; omega
      · intro h0 e
        have := congrArg UInt8.toNat (show UInt8.ofNat (48 + v) = 48 from e)
        rw [digit_byte hs] at this
        have e2 : (48 : UInt8).toNat = 48 := rfl
        omega
    · rw [decK_big k (by omega)]
      obtain ⟨h1, h2, h3⟩ := ih (v / 10) (by rw [Nat.pow_succ] at hv; omega)
      have hm : v % 10 < 10 := by omega
      refine ⟨?_, ?_, ?_⟩
      · rw [decV_snoc, h1, digit_byte hm]; omega
      · rw [List.all_append, h2]; simp [isDig]; omega
      · intro _
        have hl := (decK_len k (v / 10)).1
        rw [List.getD_eq_getElem?_getD, List.getElem?_append_left (by omega), ← List.getD_eq_getElem?_getD]
        exact h3 (by omega)

theorem decF_len (k : Nat) : ∀ v n, v < 10 ^ (k + 1) → (v < 10 ^ (n + 1) ↔ (decK k v).length ≤ n + 1) := by
  induction k with
  | zero => intro v n hv; have : 10 ^ 1 ≤ 10 ^ (n + 1) := Nat.pow_le_pow_right (by decide) (by omega); simp [decK]; simp at hv; omega
  | succ k ih =>
    intro v n hv
    by_cases hs : v < 10
    · rw [decK_small (k + 1) hs]
      have : 10 ^ 1 ≤ 10 ^ (n + 1) := Nat.pow_le_pow_right (by decide) (by omega)
      simp; omega
    · rw [decK_big k (by omega), List.length_append, List.length_singleton]
      have hk := ih (v / 10)
      cases n with
      | zero => have := (decK_len k (v / 10)).1; rw [Nat.zero_add, Nat.pow_one]; omega
      | succ n =>
        have h := hk n (by rw [Nat.pow_succ] at hv; omega)
        have e : v < 10 ^ (n + 1 + 1) ↔ v / 10 < 10 ^ (n + 1) := by rw [Nat.pow_succ]; omega
        rw [e, h]; omega

/-- The digits of a number read back. -/
theorem cut_dig (v : Int) (hv : v.natAbs < 10 ^ 19) : cutB (digF v) = decide (v < 0) ∧ cutR (digF v) = decF v.natAbs := by
  unfold cutB cutR Lib.trimPrefix Lib.hasPrefix digF
  by_cases h : v < 0
  · rw [if_pos h]; simp [h]
  · rw [if_neg h]
    have hd : ¬ (([45] : List UInt8).isPrefixOf (decF v.natAbs) = true) := by
      intro hp
      obtain ⟨t, ht⟩ := List.isPrefixOf_iff_prefix.1 hp
      have hall := (decK_ok 18 v.natAbs hv).2.1
      change (decF v.natAbs).all isDig = true at hall
      rw [← ht] at hall
      simp [isDig] at hall
    rw [if_neg hd]
    simp [h, hd]

theorem num_dig (v : Int) (hv : v.natAbs < 10 ^ 19) : numOk (cutR (digF v)) (cutB (digF v)) = decide (v.natAbs < 10000000000000000) ∧ numV (cutR (digF v)) (cutB (digF v)) = v := by
  obtain ⟨h1, h2⟩ := cut_dig v hv
  obtain ⟨k1, k2, k3⟩ := decK_ok 18 v.natAbs hv
  have k4 := decF_len 18 v.natAbs 15 hv
  have k5 := decK_len 18 v.natAbs
  rw [h1, h2]
  constructor
  · unfold numOk
    have e1 : decide (1 ≤ (decF v.natAbs).length) = true := by simp; exact k5.1
    have e2 : decide ((decF v.natAbs).length ≤ 16) = decide (v.natAbs < 10000000000000000) := by rw [decide_eq_decide]; exact k4.symm
    have e3 : (decF v.natAbs).all isDig = true := k2
    have e4 : (decide ((decF v.natAbs).getD 0 0 = 48) && (decide (1 < (decF v.natAbs).length) || decide (v < 0))) = false := by
      by_cases h0 : v = 0
      · subst h0; decide
      · have : (decF v.natAbs).getD 0 0 ≠ 48 := k3 (by omega)
        rw [decide_eq_false this]; rfl
    rw [e1, e2, e3, e4]
    simp
  · unfold numV
    have : decV (decF v.natAbs) = v.natAbs := k1
    rw [this]
    by_cases h : v < 0
    · rw [if_pos (by simp [h])]; omega
    · rw [if_neg (by simp [h])]; omega
end Go.Proofs.Ytioddambldnfnaa.Rw
