/-
  Plain: what is laid in few bytes is read back; of no beginning is anything told but that it is too short (no program).
-/
import Derived.Test.YtioddambldnfnaaRawE
namespace Go.Proofs.Ytioddambldnfnaa.Rw

theorem big_byte (v : Nat) : (UInt8.ofNat (v % 128 + 128)).toNat = v % 128 + 128 := by
  rw [UInt8.toNat_ofNat']; omega
theorem small_byte {v : Nat} (h : v < 128) : (UInt8.ofNat v).toNat = v := by
  rw [UInt8.toNat_ofNat']; omega

theorem getK_put (k : Nat) : ∀ (f i a v : Nat) (more : List UInt8), k < f → v < 128 ^ (k + 1) → (i = 0 ∨ v ≠ 0) →
    getK f i a (putK k v ++ more) = (a + v * 128 ^ i, i + (putK k v).length, 0) := by
  induction k with
  | zero =>
    intro f i a v more hf hv hz
    obtain ⟨g, rfl⟩ : ∃ g, f = g + 1 := ⟨f - 1, by omega⟩
    have hv' : v < 128 := by simpa using hv
    simp only [putK, List.cons_append, List.nil_append, getK, small_byte hv', List.length_singleton]
    rw [if_neg (by omega), if_neg, Nat.mod_eq_of_lt hv']
    rintro ⟨h1, h2⟩
    have := congrArg UInt8.toNat h2
    rw [small_byte hv'] at this
    rcases hz with h | h
    · omega
    · exact h this
  | succ k ih =>
    intro f i a v more hf hv hz
    obtain ⟨g, rfl⟩ : ∃ g, f = g + 1 := ⟨f - 1, by omega⟩
    by_cases hs : v < 128
    · rw [putK_small (k + 1) hs]
      simp only [List.cons_append, List.nil_append, getK, small_byte hs, List.length_singleton]
      rw [if_neg (by omega), if_neg, Nat.mod_eq_of_lt hs]
      rintro ⟨h1, h2⟩
      have := congrArg UInt8.toNat h2
      rw [small_byte hs] at this
      rcases hz with h | h
      · omega
      · exact h this
    · rw [putK_big k (by omega)]
      simp only [List.cons_append, getK, big_byte, List.length_cons]
      rw [if_pos (by omega), ih g (i + 1) _ (v / 128) more (by omega) (by rw [Nat.pow_succ] at hv; omega) (by omega)]
      have e : a + (v % 128 + 128) % 128 * 128 ^ i + v / 128 * 128 ^ (i + 1) = a + v * 128 ^ i := by
        have e1 : (v % 128 + 128) % 128 = v % 128 := by omega
        have e2 : v = 128 * (v / 128) + v % 128 := by omega
        rw [e1, Nat.pow_succ]
        generalize 128 ^ i = p
        have e3 : v * p = (128 * (v / 128) + v % 128) * p := by rw [← e2]
        rw [e3, Nat.add_mul, Nat.add_assoc]
        congr 1
        rw [Nat.add_comm]
        congr 1
        rw [Nat.mul_comm 128 (v / 128), Nat.mul_assoc, Nat.mul_comm 128 p]
      rw [e]
      congr 2
      omega

theorem getF_put (v : Nat) (hv : v < 9223372036854775808) (more : List UInt8) : getF (putF v ++ more) = (v, (putF v).length, 0) := by
  have h := getK_put 8 9 0 0 v more (by omega) (by exact hv) (Or.inl rfl)
  simpa [getF, putF] using h

theorem getK_short (k : Nat) : ∀ (f i a v j : Nat), k < f → v < 128 ^ (k + 1) → j < (putK k v).length → getK f i a ((putK k v).take j) = (0, 0, 3) := by
  induction k with
  | zero =>
    intro f i a v j hf hv hj
    obtain ⟨g, rfl⟩ : ∃ g, f = g + 1 := ⟨f - 1, by omega⟩
    obtain rfl : j = 0 := by simp [putK] at hj; omega
    rfl
  | succ k ih =>
    intro f i a v j hf hv hj
    obtain ⟨g, rfl⟩ : ∃ g, f = g + 1 := ⟨f - 1, by omega⟩
    by_cases hs : v < 128
    · rw [putK_small (k + 1) hs] at hj ⊢
      obtain rfl : j = 0 := by simp at hj; omega
      rfl
    · rw [putK_big k (by omega)] at hj ⊢
      cases j with
      | zero => rfl
      | succ j =>
        rw [List.take_succ_cons, getK, if_pos (by rw [big_byte]; omega)]
        exact ih g (i + 1) _ (v / 128) j (by omega) (by rw [Nat.pow_succ] at hv; omega) (by simpa using hj)

theorem getF_short (v j : Nat) (hv : v < 9223372036854775808) (hj : j < (putF v).length) : getF ((putF v).take j) = (0, 0, 3) :=
  getK_short 8 9 0 0 v j (by omega) hv hj
end Go.Proofs.Ytioddambldnfnaa.Rw
