/-
  Plain: a number in so many bytes (no program).
-/
import GoSem.Claim
set_option linter.unusedSimpArgs false
set_option linter.unusedVariables false
namespace Go.Proofs.YtnegappgdpeabaaGreat.Rw

/-- The lowest k bytes of a number, the highest first. -/
def beF : Nat → Nat → List UInt8
  | 0, _ => []
  | k + 1, v => UInt8.ofNat (v / 256 ^ k) :: beF k v
theorem beF_len (k v : Nat) : (beF k v).length = k := by
  induction k with
  | zero => rfl
  | succ k ih => simp [beF, ih]

/-- What Put answers. -/
def putOk (v n : Int) : Bool := decide (1 ≤ n) && decide (n ≤ 7) && decide (0 ≤ v) && decide (v.toNat < 256 ^ n.toNat)
end Go.Proofs.YtnegappgdpeabaaGreat.Rw
