/-
  The walk of raw.Sum: it computes sumF.
-/
import Derived.Test.YtohigcpcbonaeaaGreatDoorBase
import Derived.Test.YtohigcpcbonaeaaGreatDoorRawA
namespace Go.Proofs.YtohigcpcbonaeaaGreatDoor
open Go.RowKit

theorem xor_u32 (a b : Nat) (ha : a < 4294967296) (hb : b < 4294967296) : bits .xor .u32 a b = ((a ^^^ b : Nat) : Int) := by
  have hx := Rw.xor_lt ha hb
  have e : (BitVec.ofInt IntKind.u32.bits (a : Int) ^^^ BitVec.ofInt IntKind.u32.bits (b : Int)).toNat = a ^^^ b := by
    rw [BitVec.toNat_xor, BitVec.ofInt_natCast, BitVec.ofInt_natCast, BitVec.toNat_ofNat, BitVec.toNat_ofNat, Nat.mod_eq_of_lt (a := a) (by exact ha), Nat.mod_eq_of_lt (a := b) (by exact hb)]
  show IntKind.u32.wrap ((BitVec.ofInt IntKind.u32.bits (a : Int) ^^^ BitVec.ofInt IntKind.u32.bits (b : Int)).toNat : Int) = _
  rw [e, IntKind.wrap_u32]
  omega

theorem and_one_u32 (a : Nat) (ha : a < 4294967296) : bits .and .u32 a 1 = ((a % 2 : Nat) : Int) := by
  have h := (bits_nat .u32 32 (by decide) (fun n h0 h1 => by rw [IntKind.wrap_u32]; omega) a 1 (by omega) (by omega)).1
  rw [Nat.and_one_is_mod] at h
  exact h

theorem xor_step (a : Nat) (c : UInt8) (ha : a < 4294967296) : bits .xor .u32 a ((c.toNat : Int) % 4294967296) = ((a ^^^ c.toNat : Nat) : Int) := by
  have hc := c.toNat_lt
  rw [Int.emod_eq_of_lt (by omega) (by omega)]
  exact xor_u32 a c.toNat ha (by omega)

theorem odd_step (a : Nat) (ha : a < 4294967296) (h : (bits .and .u32 a 1 == 1) = true) : bits .xor .u32 ((a : Int) / 2) 2197175160 = ((Rw.bit1 a : Nat) : Int) := by
  rw [and_one_u32 a ha] at h
  have h1 : a % 2 = 1 := by have := beq_iff_eq.1 h; omega
  have := xor_u32 (a / 2) 2197175160 (by omega) (by omega)
  unfold Rw.bit1
  rw [if_pos h1]
  rw [← this]
  rfl

theorem even_step (a : Nat) (ha : a < 4294967296) (h : (bits .and .u32 a 1 == 1) = false) : (a : Int) / 2 = ((Rw.bit1 a : Nat) : Int) := by
  rw [and_one_u32 a ha] at h
  have h1 : ¬ a % 2 = 1 := by have := beq_eq_false_iff_ne.1 h; omega
  unfold Rw.bit1
  rw [if_neg h1]
  rfl

set_option maxHeartbeats 400000 in
theorem sum_any (s : ByteArray) (w : World) (hs : s.size ≤ maxLen) :
    Calls Tryz.prog 41 #[.string s] w fun e w' => e = .returned (.int .i64 (Rw.sumF s.data.toList)) ∧ w = w' := by
  unfold maxLen at hs
  go_enter Tryz.func41, Tryz.ntmps41
  go_wp2
  go_loop [3, 8] (fun x i => ∃ (k : Nat), k ≤ s.size ∧ i = .int .i64 k ∧ x = .int .u32 (Rw.sumAt s k : Int)) (fun _ i => s.size - (intOf i).toNat)
  case atStart => exact ⟨0, by omega, rfl, rfl⟩
  case round =>
    obtain ⟨k, hk, rfl, rfl⟩ := hrel
    have hb := Rw.sumAt_lt s k
    by_cases hlt : k < s.size
    · have hxs := xor_step (Rw.sumAt s k) s[k] hb
      have Hn := Lib.hid (Rw.sumAt_succ s k hlt)
      go_wp2
      clear hxs
      go_loop [3, 17] (fun x i => ∃ (j : Nat), j ≤ 8 ∧ i = .int .i64 j ∧ x = .int .u32 (Rw.bitsK j (Rw.sumAt s k ^^^ s[k].toNat) : Int)) (fun _ i => 8 - (intOf i).toNat)
      case atStart => exact ⟨0, by omega, rfl, rfl⟩
      case round =>
        obtain ⟨j, hj, rfl, rfl⟩ := hrel
        have hb2 := Rw.bitsK_lt j (Rw.xor_lt hb (Rw.byte_lt s[k]))
        by_cases hlt2 : j < 8
        · go_wp2
          · have ho : (bits .and .u32 (Rw.bitsK j (Rw.sumAt s k ^^^ s[k].toNat) : Int) 1 == 1) = true := by assumption
            go_round
            case rel => exact ⟨j + 1, by omega, by go_num, val_i (odd_step _ hb2 ho)⟩
            case measure => simp [intOf]; omega
          · have ho : (bits .and .u32 (Rw.bitsK j (Rw.sumAt s k ^^^ s[k].toNat) : Int) 1 == 1) = false := by assumption
            go_round
            case rel => exact ⟨j + 1, by omega, by go_num, val_i (even_step _ hb2 ho)⟩
            case measure => simp [intOf]; omega
        · obtain rfl : j = 8 := by omega
          go_wp2
          go_round
          case rel => exact ⟨k + 1, by omega, by go_num, by rw [Hn.out]⟩
          case measure => simp [intOf]; omega
    · obtain rfl : k = s.size := by omega
      have hx := xor_u32 (Rw.sumAt s s.size) 4294967295 hb (by omega)
      have hx2 : ((Rw.sumAt s s.size ^^^ 4294967295 : Nat) : Int) = (Rw.sumF s.data.toList : Int) := by rw [Rw.sumAt_end]; rfl
      have hlt := Rw.sumF_lt s.data.toList
      have HX : bits .xor .u32 (Rw.sumAt s s.size : Int) 4294967295 = (Rw.sumF s.data.toList : Int) := hx.trans hx2
      clear hx hx2
      go_wp2
      go_ret
      exact ⟨rfl, rfl⟩
end Go.Proofs.YtohigcpcbonaeaaGreatDoor
