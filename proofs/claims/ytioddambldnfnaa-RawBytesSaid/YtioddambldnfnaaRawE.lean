/-
  Plain: reading a number in few bytes (no program).
-/
import Derived.Test.YtioddambldnfnaaRawC
namespace Go.Proofs.Ytioddambldnfnaa.Rw

/-- Reading: what is left of nine rounds, the place, the number so far, the rest. The third answer: 0, or the error's number. -/
def getK : Nat → Nat → Nat → List UInt8 → Nat × Nat × Nat
  | 0, _, _, _ => (0, 0, 4)
  | _ + 1, _, _, [] => (0, 0, 3)
  | f + 1, i, v, c :: r =>
    if 128 ≤ c.toNat then getK f (i + 1) (v + c.toNat % 128 * 128 ^ i) r
    else if 0 < i ∧ c = 0 then (0, 0, 4)
    else (v + c.toNat % 128 * 128 ^ i, i + 1, 0)
def getF (l : List UInt8) : Nat × Nat × Nat := getK 9 0 0 l

theorem getK_none (f : Nat) : ∀ (i v : Nat) (l : List UInt8), (getK f i v l).2.2 ≠ 0 → (getK f i v l).1 = 0 ∧ (getK f i v l).2.1 = 0 := by
  induction f with
  | zero => intro i v l _; exact ⟨rfl, rfl⟩
  | succ f ih =>
    intro i v l
    cases l with
    | nil => intro _; exact ⟨rfl, rfl⟩
    | cons c r =>
      rw [getK]
      split
      · exact ih _ _ _
      · split
        · intro _; exact ⟨rfl, rfl⟩
        · intro h; exact absurd rfl h
end Go.Proofs.Ytioddambldnfnaa.Rw
