/-
  The walk of raw.Get; numbers laid and read back.
-/
import Derived.Test.YtnegappgdpeabaaGreatBase
import Derived.Test.YtnegappgdpeabaaGreatRawJ
set_option linter.unusedSimpArgs false
set_option linter.unusedVariables false
namespace Go.Proofs.YtnegappgdpeabaaGreat
open Go.RowKit
theorem w64 {n : Int} (h0 : -9223372036854775808 ≤ n) (h1 : n ≤ 9223372036854775807) : wrap64 n = n := by unfold wrap64; omega
/-- Bytes as a number, the highest first. -/
def _root_.Go.Proofs.YtnegappgdpeabaaGreat.Rw.beV (l : List UInt8) : Nat := l.foldl (fun v c => v * 256 + c.toNat) 0
theorem _root_.Go.Proofs.YtnegappgdpeabaaGreat.Rw.beV_snoc (l : List UInt8) (c : UInt8) : Rw.beV (l ++ [c]) = Rw.beV l * 256 + c.toNat := by simp [Rw.beV]
theorem beV_from (l : List UInt8) : ∀ a : Nat, l.foldl (fun v c => v * 256 + c.toNat) a < (a + 1) * 256 ^ l.length := by
  induction l with
  | nil => intro a; simp
  | cons c l ih =>
    intro a
    have h := ih (a * 256 + c.toNat)
    have hc := c.toNat_lt
    rw [List.foldl_cons, List.length_cons, Nat.pow_succ]
    refine Nat.lt_of_lt_of_le h ?_
    rw [Nat.mul_comm (256 ^ l.length) 256, ← Nat.mul_assoc]
    exact Nat.mul_le_mul_right _ (by omega)
theorem _root_.Go.Proofs.YtnegappgdpeabaaGreat.Rw.beV_lt (l : List UInt8) : Rw.beV l < 256 ^ l.length := by
  have := beV_from l 0
  simpa [Rw.beV] using this
def getOk (l : List UInt8) : Bool := decide (1 ≤ l.length) && decide (l.length ≤ 7)
/-- What Get answers. -/
def getAns (l : List UInt8) : Value := if getOk l then .tuple #[.int .i64 (Rw.beV l : Int), .int .i64 0] else .tuple #[.int .i64 0, .int .i64 1]

theorem get_bits (v : Nat) (c : UInt8) (hv : v < 36028797018963968) : bits .or .i64 (wrap64 ((v : Int) * 256)) (wrap64 (c.toNat : Int)) = ((v * 256 + c.toNat : Nat) : Int) := by
  have hc := c.toNat_lt
  rw [w64 (by omega) (by omega), w64 (by omega) (by omega)]
  have h := (bits_nat .i64 63 (by decide) (fun n h0 h1 => by exact IntWalk.i64_in _ (by omega)) (v * 256) c.toNat (by omega) (by omega)).2
  have hor := Nat.two_pow_add_eq_or_of_lt (i := 8) (b := c.toNat) (by omega) v
  rw [show 2 ^ 8 * v = v * 256 from by omega] at hor
  rw [show (v : Int) * 256 = ((v * 256 : Nat) : Int) from by omega, h, hor]

set_option maxRecDepth 100000 in
theorem get_any (s : ByteArray) (w : World) (hs : s.size ≤ maxLen) :
    Calls Tryz.prog 119 #[.string s] w fun e w' => e = .returned (getAns s.data.toList) ∧ w = w' := by
  unfold maxLen at hs
  by_cases h1 : s.size = 0
  · have hb : decide ((s.size : Int) < 1) = true := by simp; omega
    have Hans : Hid (getAns s.data.toList = .tuple #[.int .i64 0, .int .i64 1]) := by
      unfold getAns getOk; rw [if_neg (by simp [h1])]; exact rfl
    clear h1
    go_enter Tryz.func119, Tryz.ntmps119
    go_wp2
    go_ret2
    exact ⟨by rw [Hans.out]; rfl, rfl⟩
  · have hb : decide ((s.size : Int) < 1) = false := by simp; omega
    by_cases h7 : 7 < s.size
    · have hb7 : decide (7 < (s.size : Int)) = true := by simp; omega
      have Hans : Hid (getAns s.data.toList = .tuple #[.int .i64 0, .int .i64 1]) := by
        unfold getAns getOk; rw [if_neg (by simp; omega)]; exact rfl
      go_enter Tryz.func119, Tryz.ntmps119
      go_wp2
      go_ret2
      exact ⟨by rw [Hans.out]; rfl, rfl⟩
    · have hb7 : decide (7 < (s.size : Int)) = false := by simp; omega
      have Hans : Hid (getAns s.data.toList = .tuple #[.int .i64 (Rw.beV s.data.toList : Int), .int .i64 0]) := by
        unfold getAns getOk; rw [if_pos (by simp; omega)]; exact rfl
      go_enter Tryz.func119, Tryz.ntmps119
      go_wp2
      go_loop [4, 16] (fun x y => ∃ i : Nat, i ≤ s.size ∧ y = .int .i64 (i : Int) ∧ x = .int .i64 (Rw.beV (s.data.toList.take i) : Int)) (fun _ y => s.size - (intOf y).toNat)
      case atStart => exact ⟨0, by omega, rfl, rfl⟩
      case round =>
        obtain ⟨i, hi, rfl, rfl⟩ := hrel
        by_cases hlt : i < s.size
        · have hsn : Rw.beV (s.data.toList.take (i + 1)) = Rw.beV (s.data.toList.take i) * 256 + s[i].toNat := by
            rw [List.take_succ_eq_append_getElem (by simpa using hlt), Rw.beV_snoc]; rfl
          have hv : Rw.beV (s.data.toList.take i) < 36028797018963968 := by
            have h := Rw.beV_lt (s.data.toList.take i)
            have h2 : 256 ^ (s.data.toList.take i).length ≤ 256 ^ 6 := Nat.pow_le_pow_right (by decide) (by have := List.length_take_le i s.data.toList; omega)
            omega
          have hg := get_bits _ s[i] hv
          have HS := Lib.hid hsn
          have HV := Lib.hid hv
          clear hsn hv
          go_wp2
          go_round
          case rel => exact ⟨i + 1, by omega, by go_num, val_i (by have := HS.out; omega)⟩
          case measure => simp [intOf]; omega
        · obtain rfl : i = s.size := by omega
          have HT : Hid (s.data.toList.take s.size = s.data.toList) := by unfold Hid; rw [List.take_of_length_le (by simp)]
          go_wp2
          go_ret2
          exact ⟨by rw [Hans.out, HT.out]; rfl, rfl⟩

theorem beV_cons (c : UInt8) (l : List UInt8) : Rw.beV (c :: l) = c.toNat * 256 ^ l.length + Rw.beV l := by
  have key : ∀ (l : List UInt8) (a : Nat), l.foldl (fun v c => v * 256 + c.toNat) a = a * 256 ^ l.length + Rw.beV l := by
    intro l
    induction l with
    | nil => intro a; simp [Rw.beV]
    | cons d l ih =>
      intro a
      unfold Rw.beV
      rw [List.foldl_cons, List.foldl_cons, ih, ih, List.length_cons, Nat.pow_succ, Nat.zero_mul, Nat.zero_add, Nat.add_mul, Nat.mul_assoc, Nat.mul_comm 256, Nat.add_assoc]
  have := key l c.toNat
  unfold Rw.beV at this ⊢
  rw [List.foldl_cons, Nat.zero_mul, Nat.zero_add]
  exact this
/-- What was read is laid as it was. -/
theorem beF_mod (k : Nat) : ∀ v m : Nat, Rw.beF k (v + m * 256 ^ k) = Rw.beF k v := by
  induction k with
  | zero => intro v m; rfl
  | succ k ih =>
    intro v m
    unfold Rw.beF
    have h1 : v + m * 256 ^ (k + 1) = v + (m * 256) * 256 ^ k := by rw [Nat.pow_succ, Nat.mul_assoc, Nat.mul_comm 256]
    have hp : 0 < 256 ^ k := Nat.pow_pos (by decide)
    have h2 : (v + m * 256 ^ (k + 1)) / 256 ^ k = v / 256 ^ k + m * 256 := by
      rw [h1, Nat.add_mul_div_right _ _ hp]
    rw [h2, h1, ih]
    congr 1
    apply UInt8.toNat.inj
    simp
theorem beF_beV : ∀ l : List UInt8, Rw.beF l.length (Rw.beV l) = l
  | [] => rfl
  | c :: l => by
    rw [List.length_cons, beV_cons]
    unfold Rw.beF
    have hp : 0 < 256 ^ l.length := Nat.pow_pos (by decide)
    have h1 := Rw.beV_lt l
    rw [Nat.add_comm, Nat.add_mul_div_right _ _ hp, Nat.div_eq_of_lt h1, Nat.zero_add, beF_mod, beF_beV l]
    congr 1
    apply UInt8.toNat.inj
    simp
end Go.Proofs.YtnegappgdpeabaaGreat
