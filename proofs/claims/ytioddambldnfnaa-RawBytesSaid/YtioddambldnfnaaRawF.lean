/-
  The walk of raw.getVar, raw.GetVar.
-/
import Derived.Test.YtioddambldnfnaaBase
import Derived.Test.YtioddambldnfnaaRawE
import Derived.Laws.ShiftsVarLaws
import Derived.IntWalk
namespace Go.Proofs.Ytioddambldnfnaa
open Go.RowKit

theorem and128 (c : UInt8) : bits .and .u8 (c.toNat : Int) 128 = ((128 * (c.toNat / 128) : Nat) : Int) := by
  have hc := c.toNat_lt
  have h := (bits_nat .u8 8 (by decide) (fun n h0 h1 => by rw [IntKind.wrap_u8]; omega) c.toNat 128 (by omega) (by omega)).1
  have e : c.toNat &&& 128 = 128 * (c.toNat / 128) := by
    have : ∀ n : Nat, n < 256 → n &&& 128 = 128 * (n / 128) := by decide +kernel
    exact this _ hc
  rw [e] at h
  exact h
theorem andNot128 (c : UInt8) : bits .andNot .u8 (c.toNat : Int) 128 = ((c.toNat % 128 : Nat) : Int) := by
  have : ∀ n : Nat, n < 256 → bits .andNot .u8 (n : Int) 128 = ((n % 128 : Nat) : Int) := by decide +kernel
  exact this _ c.toNat_lt

theorem pow128_le {i : Nat} (h : i ≤ 8) : 128 ^ i ≤ 72057594037927936 := Nat.pow_le_pow_right (by decide) h

theorem w64 {n : Int} (h0 : -9223372036854775808 ≤ n) (h1 : n ≤ 9223372036854775807) : wrap64 n = n := by unfold wrap64; omega

theorem get_lt {v c p : Nat} (h : v < p) : v + c % 128 * p < p * 128 := by
  have : c % 128 * p ≤ 127 * p := Nat.mul_le_mul_right _ (by omega)
  omega

theorem getBits (v i : Nat) (c : UInt8) (hi : i ≤ 8) (hv : v < 128 ^ i) :
    bits .or .i64 (v : Int) (wrap64 (wrap64 (bits .andNot .u8 (c.toNat : Int) 128) * 2 ^ (7 * i))) = ((v + c.toNat % 128 * 128 ^ i : Nat) : Int) := by
  have hp := pow128_le hi
  have e2 : (2 : Int) ^ (7 * i) = ((128 ^ i : Nat) : Int) := by rw [Int.pow_mul]; norm_cast
  have hm : c.toNat % 128 * 128 ^ i ≤ 127 * 72057594037927936 := Nat.mul_le_mul (by omega) hp
  rw [andNot128, e2]
  have w1 : wrap64 ((c.toNat % 128 : Nat) : Int) = ((c.toNat % 128 : Nat) : Int) := w64 (by omega) (by omega)
  have w2 : wrap64 (((c.toNat % 128 : Nat) : Int) * ((128 ^ i : Nat) : Int)) = ((c.toNat % 128 * 128 ^ i : Nat) : Int) := by
    rw [← Int.natCast_mul]; exact w64 (by omega) (by omega)
  rw [w1, w2]
  have h := (bits_nat .i64 63 (by decide) (fun n h0 h1 => by exact IntWalk.i64_in _ (by omega)) v (c.toNat % 128 * 128 ^ i) (by omega) (by omega)).2
  rw [h]
  have hor := Nat.two_pow_add_eq_or_of_lt (i := 7 * i) (b := v) (by rw [Nat.pow_mul]; exact hv) (c.toNat % 128)
  rw [Nat.pow_mul] at hor
  rw [Nat.or_comm, Nat.mul_comm, show (128 : Nat) = 2 ^ 7 from rfl, ← hor]
  rw [Nat.add_comm, Nat.mul_comm]

/-- How getVar ends. -/
def GetEnd (l : List UInt8) (w : World) (e : Ending) (w' : World) : Prop :=
  w' = w ∧ ((Rw.getF l).2.2 = 0 ∧ e = .returned (.tuple #[.int .i64 ((Rw.getF l).1 : Int), .int .i64 ((Rw.getF l).2.1 : Int)]) ∨
    (Rw.getF l).2.2 ≠ 0 ∧ e = .panicked [{ v := .iface 27 (.int .i64 ((Rw.getF l).2.2 : Int)), recovered := false }])

set_option maxRecDepth 100000 in
theorem getvar_in (s : ByteArray) (w : World) (hs : s.size ≤ maxLen) :
    Calls Try.prog 34 #[.string s] w (GetEnd s.data.toList w) := by
  unfold maxLen at hs
  go_enter Try.func34, Try.ntmps34
  go_wp2
  go_loop [4, 6] (fun x y => ∃ (f i v : Nat), f + i = 9 ∧ i ≤ s.size ∧ x = .int .i64 (v : Int) ∧ y = .int .i64 (i : Int) ∧ Rw.getK f i v (s.data.toList.drop i) = Rw.getF s.data.toList ∧ v < 128 ^ i)
    (fun _ y => 9 - (intOf y).toNat)
  case atStart => exact ⟨9, 0, 0, rfl, by omega, rfl, rfl, rfl, by omega⟩
  case round =>
    obtain ⟨f, i, v, hf, hi, rfl, rfl, hk, hv⟩ := hrel
    have HK := Lib.hid hk
    have HV := Lib.hid hv
    have HF := Lib.hid hf
    have hi9 : i ≤ 9 := by omega
    clear hk hv hf
    by_cases h9 : i < 9
    · by_cases hlt : i < s.size
      · have hdrop : s.data.toList.drop i = s[i] :: s.data.toList.drop (i + 1) := List.drop_eq_getElem_cons (by simpa using hlt)
        obtain ⟨f', rfl⟩ : ∃ f', f = f' + 1 := ⟨8 - i, by have := HF.out; omega⟩
        have hk1 := HK.out
        rw [hdrop] at hk1
        have HD := Lib.hid hk1
        clear hdrop hk1 HK
        have hb := getBits v i s[i] (by omega) HV.out
        have hc := s[i].toNat_lt
        have hne : ((i : Int) == (s.size : Int)) = false := by simp; omega
        by_cases hbig : 128 ≤ s[i].toNat
        · have ha : (bits .and .u8 (s[i].toNat : Int) 128 != 0) = true := by rw [and128, bne_iff_ne]; omega
          have HN : Hid (Rw.getK f' (i + 1) (v + s[i].toNat % 128 * 128 ^ i) (s.data.toList.drop (i + 1)) = Rw.getF s.data.toList) := by
            have := HD.out; rw [Rw.getK, if_pos hbig] at this; exact this
          go_wp2
          go_round
          case rel =>
            refine ⟨f', i + 1, _, by have := HF.out; omega, by omega, rfl, by go_num, HN.out, ?_⟩
            rw [Nat.pow_succ]
            exact get_lt HV.out
          case measure => simp [intOf]; omega
        · have ha : (bits .and .u8 (s[i].toNat : Int) 128 != 0) = false := by rw [and128]; simp; omega
          by_cases hz : 0 < i ∧ s[i] = 0
          · have HN : Hid ((0, 0, 4) = Rw.getF s.data.toList) := by
              have := HD.out; rw [Rw.getK, if_neg hbig, if_pos hz] at this; exact this
            obtain ⟨hi0, hz0⟩ := hz
            have hz1 : ((s[i].toNat : Int) == 0) = true := by rw [hz0]; rfl
            clear hz0
            go_wp2
            refine ⟨rfl, rfl, Or.inr ⟨?_, ?_⟩⟩
            · rw [← HN.out]; decide
            · rw [← HN.out]; rfl
          · have HN : Hid ((v + s[i].toNat % 128 * 128 ^ i, i + 1, 0) = Rw.getF s.data.toList) := by
              have := HD.out; rw [Rw.getK, if_neg hbig, if_neg hz] at this; exact this
            by_cases hi0 : 0 < i
            · have hz1 : ((s[i].toNat : Int) == 0) = false := by
                rw [beq_eq_false_iff_ne]
                intro h
                exact hz ⟨hi0, UInt8.toNat.inj (by simpa using h)⟩
              clear hz
              go_wp2
              go_ret2
              refine ⟨rfl, Or.inl ⟨?_, ?_⟩⟩
              · rw [← HN.out]
              · rw [← HN.out]; rfl
            · clear hz
              go_wp2
              go_ret2
              refine ⟨rfl, Or.inl ⟨?_, ?_⟩⟩
              · rw [← HN.out]
              · rw [← HN.out]; rfl
      · obtain rfl : i = s.size := by omega
        obtain ⟨f', rfl⟩ : ∃ f', f = f' + 1 := ⟨8 - s.size, by have := HF.out; omega⟩
        have HN : Hid ((0, 0, 3) = Rw.getF s.data.toList) := by
          have := HK.out; rw [List.drop_eq_nil_of_le (by simp), Rw.getK] at this; exact this
        have heq : ((s.size : Int) == (s.size : Int)) = true := by simp
        go_wp2
        refine ⟨rfl, rfl, Or.inr ⟨?_, ?_⟩⟩
        · rw [← HN.out]; decide
        · rw [← HN.out]; rfl
    · obtain rfl : i = 9 := by omega
      obtain rfl : f = 0 := by have := HF.out; omega
      have HN : Hid ((0, 0, 4) = Rw.getF s.data.toList) := by
        have := HK.out; rw [Rw.getK] at this; exact this
      go_wp2
      refine ⟨rfl, rfl, Or.inr ⟨?_, ?_⟩⟩
      · rw [← HN.out]; decide
      · rw [← HN.out]; rfl
end Go.Proofs.Ytioddambldnfnaa
