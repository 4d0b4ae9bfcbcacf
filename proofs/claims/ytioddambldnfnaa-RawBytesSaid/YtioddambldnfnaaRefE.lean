/-
  The walks of the reference's Sum and Compare.
-/
import Derived.Test.YtioddambldnfnaaRawB
import Derived.Test.YtioddambldnfnaaRawL
namespace Go.Proofs.Ytioddambldnfnaa
open Go.RowKit

theorem xor_i64 (a b : Nat) (ha : a < 4294967296) (hb : b < 4294967296) : bits .xor .i64 a b = ((a ^^^ b : Nat) : Int) := by
  have hx := Rw.xor_lt ha hb
  have e : (BitVec.ofInt IntKind.i64.bits (a : Int) ^^^ BitVec.ofInt IntKind.i64.bits (b : Int)).toNat = a ^^^ b := by
    rw [BitVec.toNat_xor, BitVec.ofInt_natCast, BitVec.ofInt_natCast, BitVec.toNat_ofNat, BitVec.toNat_ofNat, Nat.mod_eq_of_lt (a := a) (by show a < 18446744073709551616; omega), Nat.mod_eq_of_lt (a := b) (by show b < 18446744073709551616; omega)]
  show IntKind.i64.wrap ((BitVec.ofInt IntKind.i64.bits (a : Int) ^^^ BitVec.ofInt IntKind.i64.bits (b : Int)).toNat : Int) = _
  rw [e]
  generalize a ^^^ b = x at hx
  rw [IntKind.wrap_i64]
  omega

set_option maxHeartbeats 400000 in
theorem refsum_any (s : ByteArray) (w : World) (hs : s.size ≤ maxLen) :
    Calls Try.prog 29 #[.string s] w fun e w' => e = .returned (.int .i64 (Rw.sumF s.data.toList)) ∧ w = w' := by
  unfold maxLen at hs
  go_enter Try.func29, Try.ntmps29
  go_wp2
  go_loop [3, 4] (fun x i => ∃ (k : Nat), k ≤ s.size ∧ i = .int .i64 k ∧ x = .int .i64 (Rw.sumAt s k : Int)) (fun _ i => s.size - (intOf i).toNat)
  case atStart => exact ⟨0, by omega, rfl, rfl⟩
  case round =>
    obtain ⟨k, hk, rfl, rfl⟩ := hrel
    have hb := Rw.sumAt_lt s k
    by_cases hlt : k < s.size
    · have hxs : bits .xor .i64 (Rw.sumAt s k : Int) (s[k].toNat : Int) = ((Rw.sumAt s k ^^^ s[k].toNat : Nat) : Int) := xor_i64 _ _ hb (Rw.byte_lt _)
      have Hn := Lib.hid (Rw.sumAt_succ s k hlt)
      have hc8 := s[k].toNat_lt
      go_wp2
      clear hxs
      go_loop [3, 5] (fun x i => ∃ (j : Nat), j ≤ 8 ∧ i = .int .i64 j ∧ x = .int .i64 (Rw.bitsK j (Rw.sumAt s k ^^^ s[k].toNat) : Int)) (fun _ i => 8 - (intOf i).toNat)
      case atStart => exact ⟨0, by omega, rfl, rfl⟩
      case round =>
        obtain ⟨j, hj, rfl, rfl⟩ := hrel
        have hb2 := Rw.bitsK_lt j (Rw.xor_lt hb (Rw.byte_lt s[k]))
        obtain ⟨x, hx⟩ : ∃ x, x = Rw.bitsK j (Rw.sumAt s k ^^^ s[k].toNat) := ⟨_, rfl⟩
        rw [← hx] at hb2 ⊢
        have HX := Lib.hid hx
        clear hx
        by_cases hlt2 : j < 8
        · have HN : Hid (Rw.bitsK (j + 1) (Rw.sumAt s k ^^^ s[k].toNat) = Rw.bit1 x) := by unfold Hid; rw [HX.out]; rfl
          by_cases ho : x % 2 = 1
          · have t1 : ((x : Int) % 2 == 1) = true := by rw [beq_iff_eq]; omega
            obtain ⟨y, hy, HY⟩ : ∃ y : Nat, bits .xor .i64 ((x : Int) / 2) 2197175160 = (y : Int) ∧ Hid (y = Rw.bit1 x) := by
              refine ⟨(x / 2) ^^^ 2197175160, ?_, ?_⟩
              · exact xor_i64 (x / 2) 2197175160 (by omega) (by omega)
              · unfold Hid Rw.bit1; rw [if_pos ho]
            clear ho
            go_wp2
            go_round
            case rel => exact ⟨j + 1, by omega, by go_num, val_i (by rw [HN.out, HY.out])⟩
            case measure => simp [intOf]; omega
          · have t1 : ((x : Int) % 2 == 1) = false := by rw [beq_eq_false_iff_ne]; omega
            have HY : Hid (x / 2 = Rw.bit1 x) := by unfold Hid Rw.bit1; rw [if_neg ho]
            clear ho
            go_wp2
            go_round
            case rel => exact ⟨j + 1, by omega, by go_num, val_i (by rw [HN.out, ← HY.out]; omega)⟩
            case measure => simp [intOf]; omega
        · obtain rfl : j = 8 := by omega
          go_wp2
          go_round
          case rel => exact ⟨k + 1, by omega, by go_num, val_i (by rw [HX.out, Hn.out])⟩
          case measure => simp [intOf]; omega
    · obtain rfl : k = s.size := by omega
      have hx := xor_i64 (Rw.sumAt s s.size) 4294967295 hb (by omega)
      have hx2 : ((Rw.sumAt s s.size ^^^ 4294967295 : Nat) : Int) = (Rw.sumF s.data.toList : Int) := by rw [Rw.sumAt_end]; rfl
      have hlt := Rw.sumF_lt s.data.toList
      have HX : bits .xor .i64 (Rw.sumAt s s.size : Int) 4294967295 = (Rw.sumF s.data.toList : Int) := hx.trans hx2
      clear hx hx2
      go_wp2
      go_ret
      exact ⟨rfl, rfl⟩

theorem cmp_drop (a b : ByteArray) (i : Nat) (ha : i < a.size) (hb : i < b.size) :
    Lib.compareBytes (a.data.toList.drop i) (b.data.toList.drop i) = if a[i] < b[i] then -1 else if b[i] < a[i] then 1 else Lib.compareBytes (a.data.toList.drop (i + 1)) (b.data.toList.drop (i + 1)) := by
  rw [List.drop_eq_getElem_cons (show i < a.data.toList.length by simpa using ha), List.drop_eq_getElem_cons (show i < b.data.toList.length by simpa using hb)]
  rfl

set_option maxRecDepth 100000 in
theorem refcompare_any (a b : ByteArray) (w : World) (ha : a.size ≤ maxLen) (hb : b.size ≤ maxLen) :
    Calls Try.prog 30 #[.string a, .string b] w fun e w' => e = .returned (.int .i64 (Lib.compareBytes a.data.toList b.data.toList)) ∧ Below w.heap.size w w' := by
  unfold maxLen at ha hb
  go_enter Try.func30, Try.ntmps30
  go_wp2
  go_loopw [5] (fun x wr => ∃ i : Nat, i ≤ a.size ∧ i ≤ b.size ∧ x = .int .i64 (i : Int) ∧ Lib.compareBytes (a.data.toList.drop i) (b.data.toList.drop i) = Lib.compareBytes a.data.toList b.data.toList ∧ Below w.heap.size w wr)
    (fun x _ => a.size - (intOf x).toNat)
  case atStart => exact ⟨0, by omega, by omega, rfl, by simp, Below.refl _ _⟩
  case round =>
    obtain ⟨i, hia, hib, rfl, hcmp, hbel⟩ := hrel
    have HC := Lib.hid hcmp
    clear hcmp
    by_cases h1 : i < a.size
    · by_cases h2 : i < b.size
      · have HD := Lib.hid (cmp_drop a b i h1 h2)
        have e1 : (a[i] < b[i]) ↔ a[i].toNat < b[i].toNat := UInt8.lt_iff_toNat_lt
        have e2 : (b[i] < a[i]) ↔ b[i].toNat < a[i].toNat := UInt8.lt_iff_toNat_lt
        have HE1 := Lib.hid e1
        have HE2 := Lib.hid e2
        clear e1 e2
        by_cases c1 : a[i].toNat < b[i].toNat
        · have t1 : decide ((a[i].toNat : Int) < (b[i].toNat : Int)) = true := by simp; omega
          have t1n : decide (a[i].toNat < b[i].toNat) = true := by simp; omega
          have HA : Hid (Lib.compareBytes a.data.toList b.data.toList = -1) := by have := HD.out; rw [HC.out, if_pos (HE1.out.2 c1)] at this; exact this
          clear c1
          go_wp2
          go_quiet (fail)
          go_wp2
          go_ret
          exact ⟨ret_i HA.out.symm, below_drewN hbel _⟩
        · have t1 : decide ((a[i].toNat : Int) < (b[i].toNat : Int)) = false := by simp; omega
          have t1n : decide (a[i].toNat < b[i].toNat) = false := by simp; omega
          by_cases c2 : b[i].toNat < a[i].toNat
          · have t2 : decide ((b[i].toNat : Int) < (a[i].toNat : Int)) = true := by simp; omega
            have t2n : decide (b[i].toNat < a[i].toNat) = true := by simp; omega
            have HA : Hid (Lib.compareBytes a.data.toList b.data.toList = 1) := by have := HD.out; rw [HC.out, if_neg (fun h => c1 (HE1.out.1 h)), if_pos (HE2.out.2 c2)] at this; exact this
            clear c1 c2
            go_wp2
            go_quiet (fail)
            go_wp2
            go_quiet (fail)
            go_wp2
            go_ret
            exact ⟨ret_i HA.out.symm, by first | exact below_drewN hbel _ | exact below_drewN (below_drewN hbel _) _⟩
          · have t2 : decide ((b[i].toNat : Int) < (a[i].toNat : Int)) = false := by simp; omega
            have t2n : decide (b[i].toNat < a[i].toNat) = false := by simp; omega
            have HA : Hid (Lib.compareBytes (a.data.toList.drop (i + 1)) (b.data.toList.drop (i + 1)) = Lib.compareBytes a.data.toList b.data.toList) := by
              have := HD.out; rw [HC.out, if_neg (fun h => c1 (HE1.out.1 h)), if_neg (fun h => c2 (HE2.out.1 h))] at this; exact this.symm
            clear c1 c2
            go_wp2
            go_quiet (fail)
            go_wp2
            go_quiet (fail)
            go_wp2
            go_roundw
            case rel => exact ⟨i + 1, by omega, by omega, by go_num, HA.out, by first | exact below_drewN hbel _ | exact below_drewN (below_drewN hbel _) _⟩
            case measure => simp [intOf]; omega
      · obtain rfl : i = b.size := by omega
        have HA : Hid (Lib.compareBytes a.data.toList b.data.toList = 1) := by
          have := HC.out
          rw [List.drop_eq_nil_of_le (show b.data.toList.length ≤ b.size by simp), List.drop_eq_getElem_cons (show b.size < a.data.toList.length by simpa using h1)] at this
          exact this.symm
        go_wp2
        go_ret
        exact ⟨ret_i HA.out.symm, hbel⟩
    · obtain rfl : i = a.size := by omega
      by_cases h2 : a.size < b.size
      · have HA : Hid (Lib.compareBytes a.data.toList b.data.toList = -1) := by
          have := HC.out
          rw [List.drop_eq_nil_of_le (show a.data.toList.length ≤ a.size by simp), List.drop_eq_getElem_cons (show a.size < b.data.toList.length by simpa using h2)] at this
          exact this.symm
        go_wp2
        go_ret
        exact ⟨ret_i HA.out.symm, hbel⟩
      · have HA : Hid (Lib.compareBytes a.data.toList b.data.toList = 0) := by
          have := HC.out
          rw [List.drop_eq_nil_of_le (show a.data.toList.length ≤ a.size by simp), List.drop_eq_nil_of_le (show b.data.toList.length ≤ a.size by simp; omega)] at this
          exact this.symm
        go_wp2
        go_ret
        exact ⟨ret_i HA.out.symm, hbel⟩
end Go.Proofs.Ytioddambldnfnaa
