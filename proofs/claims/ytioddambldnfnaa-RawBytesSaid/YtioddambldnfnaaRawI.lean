/-
  Plain: decimal digits (no program).
-/
import GoSem.Claim
namespace Go.Proofs.Ytioddambldnfnaa.Rw

def decK : Nat → Nat → List UInt8
  | 0, v => [UInt8.ofNat (48 + v)]
  | k + 1, v => if v < 10 then [UInt8.ofNat (48 + v)] else decK k (v / 10) ++ [UInt8.ofNat (48 + v % 10)]
def decF (v : Nat) : List UInt8 := decK 18 v
/-- The digits of a number, with its sign. -/
def digF (v : Int) : List UInt8 := if v < 0 then 45 :: decF v.natAbs else decF v.natAbs

theorem decK_small (k : Nat) {v : Nat} (h : v < 10) : decK k v = [UInt8.ofNat (48 + v)] := by
  cases k with
  | zero => rfl
  | succ k => rw [decK, if_pos h]
theorem decK_big (k : Nat) {v : Nat} (h : 10 ≤ v) : decK (k + 1) v = decK k (v / 10) ++ [UInt8.ofNat (48 + v % 10)] := by
  rw [decK, if_neg (by omega)]
theorem decK_len (k : Nat) : ∀ v, 1 ≤ (decK k v).length ∧ (decK k v).length ≤ k + 1 := by
  induction k with
  | zero => intro v; simp [decK]
  | succ k ih =>
    intro v
    rw [decK]
    split
    · simp
    · have := ih (v / 10)
      simp only [List.length_append, List.length_singleton]
      omega
end Go.Proofs.Ytioddambldnfnaa.Rw
