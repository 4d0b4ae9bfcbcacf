/-
  Plain: texts in quotes (no program).
-/
import GoSem.Claim
namespace Go.Proofs.Ytioddambldnfnaa.Rw

def hexd (n : Nat) : UInt8 := if n < 10 then UInt8.ofNat (48 + n) else UInt8.ofNat (87 + n)
def quoteB (c : UInt8) : List UInt8 :=
  if c = 34 ∨ c = 92 then [92, c] else if 32 ≤ c.toNat ∧ c.toNat ≤ 126 then [c] else [92, 120, hexd (c.toNat / 16), hexd (c.toNat % 16)]
def quoteIn (l : List UInt8) : List UInt8 := (l.map quoteB).flatten
def quoteF (l : List UInt8) : List UInt8 := 34 :: (quoteIn l ++ [34])
theorem quoteIn_snoc (l : List UInt8) (c : UInt8) : quoteIn (l ++ [c]) = quoteIn l ++ quoteB c := by simp [quoteIn]
theorem quoteIn_cons (l : List UInt8) (c : UInt8) : quoteIn (c :: l) = quoteB c ++ quoteIn l := by simp [quoteIn]
theorem quoteB_len (c : UInt8) : 1 ≤ (quoteB c).length ∧ (quoteB c).length ≤ 4 := by
  unfold quoteB
  split
  · simp
  · split <;> simp
theorem quoteIn_len (l : List UInt8) : (quoteIn l).length ≤ 4 * l.length := by
  induction l with
  | nil => simp [quoteIn]
  | cons c l ih => have := quoteB_len c; rw [quoteIn_cons, List.length_append, List.length_cons]; omega
end Go.Proofs.Ytioddambldnfnaa.Rw
