/-
  Plain facts on numbers in few bytes (no program).
-/
import GoSem.Claim
namespace Go.Proofs.Ytioddambldnfnaa.Rw

/-- The bytes of a number below 128 ^ (k + 1). -/
def putK : Nat → Nat → List UInt8
  | 0, v => [UInt8.ofNat v]
  | k + 1, v => if v < 128 then [UInt8.ofNat v] else UInt8.ofNat (v % 128 + 128) :: putK k (v / 128)
def putF (v : Nat) : List UInt8 := putK 8 v

theorem putK_small (k : Nat) {v : Nat} (h : v < 128) : putK k v = [UInt8.ofNat v] := by
  cases k with
  | zero => rfl
  | succ k => unfold putK; rw [if_pos h]
theorem putK_big (k : Nat) {v : Nat} (h : 128 ≤ v) : putK (k + 1) v = UInt8.ofNat (v % 128 + 128) :: putK k (v / 128) := by
  rw [putK, if_neg (by omega)]
theorem putK_len (k : Nat) : ∀ v, 1 ≤ (putK k v).length ∧ (putK k v).length ≤ k + 1 := by
  induction k with
  | zero => intro v; simp [putK]
  | succ k ih =>
    intro v
    rw [putK]
    split
    · simp
    · have := ih (v / 128)
      simp only [List.length_cons]
      omega
end Go.Proofs.Ytioddambldnfnaa.Rw
