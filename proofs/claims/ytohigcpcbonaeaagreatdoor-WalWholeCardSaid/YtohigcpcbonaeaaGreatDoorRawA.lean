/-
  Plain facts on check sums (no program): one bit step is one to one on 32 bits, so bytes of which one is changed have another sum.
-/
import GoSem.Claim
namespace Go.Proofs.YtohigcpcbonaeaaGreatDoor.Rw

def bit1 (x : Nat) : Nat := if x % 2 = 1 then (x / 2) ^^^ 2197175160 else x / 2
def bitsK : Nat → Nat → Nat
  | 0, x => x
  | k + 1, x => bit1 (bitsK k x)
def sumStep (x : Nat) (c : UInt8) : Nat := bitsK 8 (x ^^^ c.toNat)
def sumTo (l : List UInt8) (x : Nat) : Nat := l.foldl sumStep x
def sumF (l : List UInt8) : Nat := sumTo l 4294967295 ^^^ 4294967295

theorem xor_right {a b c : Nat} (h : a ^^^ c = b ^^^ c) : a = b := by
  have := congrArg (fun z => z ^^^ c) h
  simpa [Nat.xor_assoc] using this
theorem xor_left {a b c : Nat} (h : c ^^^ a = c ^^^ b) : a = b := by
  rw [Nat.xor_comm c a, Nat.xor_comm c b] at h
  exact xor_right h

theorem xor_lt {a b : Nat} (ha : a < 4294967296) (hb : b < 4294967296) : a ^^^ b < 4294967296 :=
  Nat.xor_lt_two_pow (n := 32) ha hb

theorem bit1_lt {x : Nat} (h : x < 4294967296) : bit1 x < 4294967296 := by
  unfold bit1; split
  · exact xor_lt (by omega) (by omega)
  · omega

theorem bitsK_lt (k : Nat) {x : Nat} (h : x < 4294967296) : bitsK k x < 4294967296 := by
  induction k with
  | zero => exact h
  | succ k ih => exact bit1_lt ih

theorem byte_lt (c : UInt8) : c.toNat < 4294967296 := Nat.lt_trans c.toNat_lt (by omega)

theorem sumStep_lt {x : Nat} (h : x < 4294967296) (c : UInt8) : sumStep x c < 4294967296 := bitsK_lt 8 (xor_lt h (byte_lt c))

theorem sumTo_lt (l : List UInt8) : ∀ {x : Nat}, x < 4294967296 → sumTo l x < 4294967296 := by
  induction l with
  | nil => exact fun h => h
  | cons c l ih => exact fun h => ih (sumStep_lt h c)

theorem sumF_lt (l : List UInt8) : sumF l < 4294967296 := xor_lt (sumTo_lt l (by omega)) (by omega)

theorem top_half {y : Nat} (h : y < 2147483648) : y.testBit 31 = false :=
  Nat.testBit_lt_two_pow (i := 31) h

theorem bit1_inj {x y : Nat} (hx : x < 4294967296) (hy : y < 4294967296) (h : bit1 x = bit1 y) : x = y := by
  have hp : Nat.testBit 2197175160 31 = true := by decide +kernel
  unfold bit1 at h
  have t1 : (x / 2).testBit 31 = false := top_half (by omega)
  have t2 : (y / 2).testBit 31 = false := top_half (by omega)
  split at h <;> split at h
  · have := xor_right h
    omega
  · have e := congrArg (fun z => Nat.testBit z 31) h
    simp only [Nat.testBit_xor, t1, t2, hp] at e
    cases e
  · have e := congrArg (fun z => Nat.testBit z 31) h
    simp only [Nat.testBit_xor, t1, t2, hp] at e
    cases e
  · omega

theorem bitsK_inj (k : Nat) {x y : Nat} (hx : x < 4294967296) (hy : y < 4294967296) (h : bitsK k x = bitsK k y) : x = y := by
  induction k with
  | zero => exact h
  | succ k ih => exact ih (bit1_inj (bitsK_lt k hx) (bitsK_lt k hy) h)

theorem sumStep_inj {x y : Nat} (c : UInt8) (hx : x < 4294967296) (hy : y < 4294967296) (h : sumStep x c = sumStep y c) : x = y :=
  xor_right (bitsK_inj 8 (xor_lt hx (byte_lt c)) (xor_lt hy (byte_lt c)) h)

theorem sumStep_byte {x : Nat} {c d : UInt8} (hx : x < 4294967296) (h : sumStep x c = sumStep x d) : c = d := by
  have := xor_left (bitsK_inj 8 (xor_lt hx (byte_lt c)) (xor_lt hx (byte_lt d)) h)
  exact UInt8.toNat.inj this

theorem sumTo_inj (l : List UInt8) : ∀ {x y : Nat}, x < 4294967296 → y < 4294967296 → sumTo l x = sumTo l y → x = y := by
  induction l with
  | nil => exact fun _ _ h => h
  | cons c l ih => exact fun hx hy h => sumStep_inj c hx hy (ih (sumStep_lt hx c) (sumStep_lt hy c) h)

theorem sumTo_append (a b : List UInt8) (x : Nat) : sumTo (a ++ b) x = sumTo b (sumTo a x) := List.foldl_append ..

/-- One byte is changed: another sum. -/
theorem sumF_changed (a b : List UInt8) (c d : UInt8) (h : c ≠ d) : sumF (a ++ c :: b) ≠ sumF (a ++ d :: b) := by
  intro e
  have e1 := xor_right (e : sumTo (a ++ c :: b) 4294967295 ^^^ 4294967295 = sumTo (a ++ d :: b) 4294967295 ^^^ 4294967295)
  rw [sumTo_append, sumTo_append] at e1
  have hx : sumTo a 4294967295 < 4294967296 := sumTo_lt a (by omega)
  have e2 := sumTo_inj b (sumStep_lt hx c) (sumStep_lt hx d) e1
  exact h (sumStep_byte hx e2)

theorem sumF_set (l : List UInt8) (k : Nat) (hk : k < l.length) (d : UInt8) (h : l[k] ≠ d) : sumF l ≠ sumF (l.set k d) := by
  have e1 : l = l.take k ++ l[k] :: l.drop (k + 1) := by simp
  have e2 : l.set k d = l.take k ++ d :: l.drop (k + 1) := List.set_eq_take_append_cons_drop .. |>.trans (by rw [if_pos hk])
  rw [e2]
  intro e
  rw [e1] at e
  simp at e
  exact sumF_changed (l.take k) (l.drop (k + 1)) (l[k]) d h (by simpa using e)

theorem sumTo_snoc (l : List UInt8) (c : UInt8) (x : Nat) : sumTo (l ++ [c]) x = sumStep (sumTo l x) c := by rw [sumTo_append]; rfl

theorem take_snoc (s : ByteArray) (k : Nat) (h : k < s.size) : s.data.toList.take (k + 1) = s.data.toList.take k ++ [s[k]] := by
  rw [List.take_succ_eq_append_getElem (by simpa using h)]; rfl

/-- The sum behind k bytes. -/
def sumAt (s : ByteArray) (k : Nat) : Nat := sumTo (s.data.toList.take k) 4294967295
theorem sumAt_lt (s : ByteArray) (k : Nat) : sumAt s k < 4294967296 := sumTo_lt _ (by omega)
theorem sumAt_succ (s : ByteArray) (k : Nat) (h : k < s.size) : sumAt s (k + 1) = bitsK 8 (sumAt s k ^^^ s[k].toNat) := by
  unfold sumAt; rw [take_snoc s k h, sumTo_snoc]; rfl
theorem sumAt_end (s : ByteArray) : sumAt s s.size = sumTo s.data.toList 4294967295 := by
  unfold sumAt; rw [List.take_of_length_le (by simp)]
end Go.Proofs.YtohigcpcbonaeaaGreatDoor.Rw
