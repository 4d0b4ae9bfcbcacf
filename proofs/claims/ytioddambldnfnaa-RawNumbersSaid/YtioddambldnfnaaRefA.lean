/-
  The walks of the reference's Put, Get, PutVar.
-/
import Derived.Test.YtioddambldnfnaaRawK
import Derived.Test.YtioddambldnfnaaRawL
import Derived.Test.YtioddambldnfnaaRawD
import Derived.Test.YtioddambldnfnaaRawR
namespace Go.Proofs.Ytioddambldnfnaa
open Go.RowKit

set_option maxRecDepth 100000 in
set_option maxHeartbeats 1000000 in
theorem refput_any (v n : Int) (hv1 : v ≤ 9223372036854775807) (w : World) :
    Calls Try.prog 17 #[.int .i64 v, .int .i64 n] w fun e w' => e = .returned (putAns v n) ∧ Below w.heap.size w w' := by
  by_cases hbad : n < 1 ∨ 7 < n ∨ v < 0
  · have HA : Hid (putAns v n = .tuple #[.string ⟨#[]⟩, .int .i64 1]) := by
      unfold Hid putAns Rw.putOk; rw [if_neg (by simp; omega)]
    by_cases a1 : n < 1
    · clear hbad hv1
      go_enter Try.func17, Try.ntmps17
      go_wp2
      go_ret2
      exact ⟨by rw [HA.out]; rfl, Below.refl _ _⟩
    · have hn1 : decide (n < 1) = false := by simp; omega
      by_cases a2 : 7 < n
      · clear hbad hv1
        go_enter Try.func17, Try.ntmps17
        go_wp2
        go_ret2
        exact ⟨by rw [HA.out]; rfl, Below.refl _ _⟩
      · have hn7 : decide (7 < n) = false := by simp; omega
        have hv0 : decide (v < 0) = true := by simp; omega
        clear hbad hv1
        go_enter Try.func17, Try.ntmps17
        go_wp2
        go_ret2
        exact ⟨by rw [HA.out]; rfl, Below.refl _ _⟩
  · obtain ⟨u, rfl⟩ := Int.eq_ofNat_of_zero_le (show 0 ≤ v by omega)
    obtain ⟨k, rfl⟩ := Int.eq_ofNat_of_zero_le (show 0 ≤ n by omega)
    have hk1 : 1 ≤ k := by omega
    have hk7 : k ≤ 7 := by omega
    have hn1 : decide ((k : Int) < 1) = false := by simp; omega
    have hn7 : decide (7 < (k : Int)) = false := by simp; omega
    have hv0 : decide ((u : Int) < 0) = false := by simp
    have HU : Hid (u < 9223372036854775808) := by unfold Hid; omega
    obtain ⟨arr, harr, hmk⟩ := make_b k w (by omega)
    have hb0 : Buf (w.alloc (.cells arr 5)) w.heap.size k k [] := ⟨_, _, heap_alloc_new _ _, harr, by simp, by rw [List.drop_eq_nil_of_le (by simp [harr])]; rfl⟩
    have HB0 := Lib.hid hb0
    clear harr hb0 hbad hv1
    go_enter Try.func17, Try.ntmps17
    go_wp2
    go_loopw [0, 7] (fun x y wr => ∃ (j z : Nat) (i : Int), j ≤ k ∧ x = .int .i64 (z : Int) ∧ z = u / 256 ^ j ∧ y = .int .i64 i ∧ i + 1 + j = k ∧ Buf wr w.heap.size k (k - j) (Rw.beF j u) ∧ Below w.heap.size w wr)
      (fun _ y _ => (intOf y + 1).toNat)
    case atStart => exact ⟨0, u, (k : Int) - 1, by omega, rfl, by simp, rfl, by omega, HB0.out, (Below.refl _ _).alloc (Nat.le_refl _) _⟩
    case round =>
      obtain ⟨j, z, i, hj, rfl, hz, rfl, hij, hbuf, hbel⟩ := hrel
      have hzb : z < 9223372036854775808 := by rw [hz]; exact Nat.lt_of_le_of_lt (Nat.div_le_self _ _) HU.out
      have HZ := Lib.hid hz
      have HZB := Lib.hid hzb
      have HIJ := Lib.hid hij
      by_cases hi : 0 ≤ i
      · obtain ⟨m, rfl⟩ := Int.eq_ofNat_of_zero_le hi
        have hmk2 : m < k := by omega
        have hfz := hbuf.free m
        obtain ⟨cv, hcv⟩ := hbuf.some_cell m hmk2
        obtain ⟨c, hc, Hc⟩ : ∃ c : UInt8, (z : Int) % 256 = (c.toNat : Int) ∧ Hid (c = UInt8.ofNat (u / 256 ^ j)) := ⟨_, by rw [← hz]; simp, rfl⟩
        have hbuf1 := hbuf.step c (i := m) (by omega)
        have hbel1 := hbel.setCell (p := ⟨w.heap.size, m, none⟩) (Nat.le_refl _) (.int .u8 (c.toNat : Int))
        have hdv : wrap64 ((z : Int) / 256) = (z : Int) / 256 := w64 (by omega) (by omega)
        clear hz hzb hij hi
        go_wp2
        go_roundw
        case rel =>
          refine ⟨j + 1, z / 256, (m : Int) - 1, by have := HIJ.out; omega, by go_num, ?_, rfl, by have := HIJ.out; omega, ?_, hbel1⟩
          · rw [HZ.out, Nat.pow_succ, Nat.div_div_eq_div_mul]
          · rw [Hc.out] at hbuf1
            have e : k - (j + 1) = m := by have := HIJ.out; omega
            rw [e, Hc.out]
            exact hbuf1
        case measure => simp [intOf]
      · obtain rfl : j = k := by omega
        have hb2 : Buf wr w.heap.size j 0 (Rw.beF j u) := by rw [Nat.sub_self] at hbuf; exact hbuf
        have hs := hb2.str j (Rw.beF_len j u).symm
        clear hbuf hb2 hz hzb hij
        by_cases hfit : u < 256 ^ j
        · have hz0 : z = 0 := by rw [HZ.out]; exact Nat.div_eq_of_lt hfit
          have hzt : decide ((0 : Int) < (z : Int)) = false := by simp; omega
          have hzt2 : decide (0 < z) = false := by simp; omega
          have HA : Hid (putAns (u : Int) (j : Int) = .tuple #[.string ⟨(Rw.beF j u).toArray⟩, .int .i64 0]) := by
            unfold Hid putAns Rw.putOk; rw [if_pos (by simp; omega)]; rfl
          clear hz0 hfit
          go_wp2
          go_ret2
          exact ⟨by rw [HA.out]; rfl, hbel⟩
        · have hz0 : 0 < z := by rw [HZ.out]; exact Nat.div_pos (by omega) (Nat.pow_pos (by decide))
          have HA : Hid (putAns (u : Int) (j : Int) = .tuple #[.string ⟨#[]⟩, .int .i64 1]) := by
            unfold Hid putAns Rw.putOk; rw [if_neg (by simp; omega)]
          have hzt : decide ((0 : Int) < (z : Int)) = true := by simp; omega
          have hzt2 : decide (0 < z) = true := by simp; omega
          clear hz0 hfit
          go_wp2
          go_ret2
          exact ⟨by rw [HA.out]; rfl, hbel⟩

set_option maxRecDepth 100000 in
theorem refget_any (s : ByteArray) (w : World) (hs : s.size ≤ maxLen) :
    Calls Try.prog 19 #[.string s] w fun e w' => e = .returned (getAns s.data.toList) ∧ w = w' := by
  unfold maxLen at hs
  by_cases h1 : s.size = 0
  · have hb : decide ((s.size : Int) < 1) = true := by simp; omega
    have Hans : Hid (getAns s.data.toList = .tuple #[.int .i64 0, .int .i64 1]) := by
      unfold getAns getOk; rw [if_neg (by simp [h1])]; exact rfl
    clear h1
    go_enter Try.func19, Try.ntmps19
    go_wp2
    go_ret2
    exact ⟨by rw [Hans.out]; rfl, rfl⟩
  · have hb : decide ((s.size : Int) < 1) = false := by simp; omega
    by_cases h7 : 7 < s.size
    · have hb7 : decide (7 < (s.size : Int)) = true := by simp; omega
      have Hans : Hid (getAns s.data.toList = .tuple #[.int .i64 0, .int .i64 1]) := by
        unfold getAns getOk; rw [if_neg (by simp; omega)]; exact rfl
      go_enter Try.func19, Try.ntmps19
      go_wp2
      go_ret2
      exact ⟨by rw [Hans.out]; rfl, rfl⟩
    · have hb7 : decide (7 < (s.size : Int)) = false := by simp; omega
      have Hans : Hid (getAns s.data.toList = .tuple #[.int .i64 (Rw.beV s.data.toList : Int), .int .i64 0]) := by
        unfold getAns getOk; rw [if_pos (by simp; omega)]; exact rfl
      go_enter Try.func19, Try.ntmps19
      go_wp2
      go_loop [4, 5] (fun x y => ∃ i : Nat, i ≤ s.size ∧ y = .int .i64 (i : Int) ∧ x = .int .i64 (Rw.beV (s.data.toList.take i) : Int)) (fun _ y => s.size - (intOf y).toNat)
      case atStart => exact ⟨0, by omega, rfl, rfl⟩
      case round =>
        obtain ⟨i, hi, rfl, rfl⟩ := hrel
        by_cases hlt : i < s.size
        · have hsn : Rw.beV (s.data.toList.take (i + 1)) = Rw.beV (s.data.toList.take i) * 256 + s[i].toNat := by
            rw [List.take_succ_eq_append_getElem (by simpa using hlt), Rw.beV_snoc]; rfl
          have hv : Rw.beV (s.data.toList.take i) < 36028797018963968 := by
            have h := Rw.beV_lt (s.data.toList.take i)
            have h2 : 256 ^ (s.data.toList.take i).length ≤ 256 ^ 6 := Nat.pow_le_pow_right (by decide) (by have := List.length_take_le i s.data.toList; omega)
            omega
          have HS := Lib.hid hsn
          have hc8 := s[i].toNat_lt
          clear hsn
          go_wp2
          go_round
          case rel => exact ⟨i + 1, by omega, by go_num, val_i (by have := HS.out; omega)⟩
          case measure => simp [intOf]; omega
        · obtain rfl : i = s.size := by omega
          have HT : Hid (s.data.toList.take s.size = s.data.toList) := by unfold Hid; rw [List.take_of_length_le (by simp)]
          go_wp2
          go_ret2
          exact ⟨by rw [Hans.out, HT.out]; rfl, rfl⟩

/-- What PutVar answers. -/
def pvAns (v : Int) : Value := if v < 0 then .string ⟨#[]⟩ else .string ⟨(Rw.putF v.toNat).toArray⟩
theorem putvar_all (v : Int) (hv1 : v ≤ 9223372036854775807) (w : World) :
    Calls Try.prog 15 #[.int .i64 v] w fun e w' => e = .returned (pvAns v) ∧ Below w.heap.size w w' := by
  unfold pvAns
  by_cases h : v < 0
  · rw [if_pos h]
    exact (putvar_neg v w h).mono fun e w' ⟨h1, h2⟩ => ⟨h1, h2 ▸ Below.refl _ _⟩
  · rw [if_neg h]
    obtain ⟨u, rfl⟩ := Int.eq_ofNat_of_zero_le (show 0 ≤ v by omega)
    exact putvar_any u w (by omega)

theorem refputvar_neg (v : Int) (w : World) (h : v < 0) :
    Calls Try.prog 25 #[.int .i64 v] w fun e w' => e = .returned (.string ⟨#[]⟩) ∧ w = w' := by
  go_enter Try.func25, Try.ntmps25
  go_wp2
  go_ret
  exact ⟨rfl, rfl⟩

set_option maxRecDepth 100000 in
theorem refputvar_any (v : Nat) (w : World) (hv : v < 9223372036854775808) :
    Calls Try.prog 25 #[.int .i64 v] w fun e w' => e = .returned (.string ⟨(Rw.putF v).toArray⟩) ∧ Below w.heap.size w w' := by
  have HV := Lib.hid hv
  clear hv
  go_enter Try.func25, Try.ntmps25
  go_wp2
  go_loopw [0, 3] (fun x b wr => ∃ (u f : Nat) (l : List UInt8), x = .int .i64 (u : Int) ∧ l ++ Rw.putK f u = Rw.putF v ∧ u < 128 ^ (f + 1) ∧ l.length + f = 8 ∧ OwnB wr w.heap.size b l ∧ Below w.heap.size w wr)
    (fun x _ _ => (intOf x).toNat)
  case atStart => exact ⟨v, 8, [], rfl, rfl, by have := HV.out; omega, rfl, OwnB.nil _ _, Below.refl _ _⟩
  case round =>
    obtain ⟨u, f, l, rfl, hl, hu, hf, hown, hbel⟩ := hrel
    have HL := Lib.hid hl
    have HU := Lib.hid hu
    have HF := Lib.hid hf
    clear hl hu hf
    by_cases hlt : 128 ≤ u
    · obtain ⟨c, hc, Hc⟩ : ∃ c : UInt8, (u : Int) % 128 + 128 = (c.toNat : Int) ∧ Hid (c = UInt8.ofNat (u % 128 + 128)) := ⟨_, by rw [Rw.big_byte]; omega, rfl⟩
      have hub : u < 9223372036854775808 := by
        have hp : 128 ^ (f + 1) ≤ 128 ^ 9 := Nat.pow_le_pow_right (by decide) (by have := HF.out; omega)
        have e9 : (128 : Nat) ^ 9 = 9223372036854775808 := by decide
        rw [e9] at hp
        have := HU.out
        omega
      have hdv : (u : Int) ≤ 9223372036854775807 := by omega
      clear hub
      have hm0 : (0 : Int) ≤ (u : Int) % 128 := by omega
      have hm1 : (u : Int) % 128 < 128 := by omega
      go_wp2_with (at_builtin; refine wpList_append_b rfl _ _ rfl w.heap.size _ l rfl (hown.alloc _) ⟨wr.heap.size, 0, none⟩ 1 1 [c] rfl rfl (new_b _ _ _ _ ?c1) ?c2 ?c3 ?_)
      case c1 => rfl
      case c2 => have := HF.out; omega
      case c3 => have := hbel.size; simp; omega
      intro v' w1 hown1 hg
      have hbel1 := below_app hbel hown (Nat.le_refl _) hbel.size hg
      clear hg hown hbel
      go_wp2
      clear hdv hm0 hm1
      go_roundw
      case rel =>
        obtain ⟨f', rfl⟩ : ∃ f', f = f' + 1 := by
          rcases f with _ | f'
          · have := HU.out; omega
          · exact ⟨f', rfl⟩
        refine ⟨u / 128, f', l ++ [c], by go_num, ?_, ?_, ?_, hown1, hbel1⟩
        · rw [← HL.out, Rw.putK_big f' hlt, Hc.out]; simp
        · have := HU.out; rw [Nat.pow_succ] at this; omega
        · have := HF.out; simp; omega
      case measure => simp [intOf]; omega
    · have hc : UInt8.toNat (UInt8.ofNat u) = u := by simp; omega
      have Hc := Lib.hid hc
      clear hc
      go_wp2_with (at_builtin; refine wpList_append_b rfl _ _ rfl w.heap.size _ l rfl (hown.alloc _) ⟨wr.heap.size, 0, none⟩ 1 1 [UInt8.ofNat u] rfl rfl (new_b _ _ _ _ ?c1) ?c2 ?c3 ?_)
      case c1 => simp only [bCells, List.map, Hc.out]
      case c2 => have := HF.out; omega
      case c3 => have := hbel.size; simp; omega
      intro v' w1 hown1 hg
      have hbel1 := below_app hbel hown (Nat.le_refl _) hbel.size hg
      have hs := hown1.str
      clear hg hown hbel
      go_wp2
      go_ret
      refine ⟨ret_s ?_, hbel1⟩
      rw [← HL.out, Rw.putK_small f (by omega)]

theorem refputvar_all (v : Int) (hv1 : v ≤ 9223372036854775807) (w : World) :
    Calls Try.prog 25 #[.int .i64 v] w fun e w' => e = .returned (pvAns v) ∧ Below w.heap.size w w' := by
  unfold pvAns
  by_cases h : v < 0
  · rw [if_pos h]
    exact (refputvar_neg v w h).mono fun e w' ⟨h1, h2⟩ => ⟨h1, h2 ▸ Below.refl _ _⟩
  · rw [if_neg h]
    obtain ⟨u, rfl⟩ := Int.eq_ofNat_of_zero_le (show 0 ≤ v by omega)
    exact refputvar_any u w (by omega)
end Go.Proofs.Ytioddambldnfnaa
