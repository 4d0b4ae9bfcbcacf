/-
  The walk of raw.Digits.
-/
import Derived.Test.YtioddambldnfnaaBase
import Derived.Test.YtioddambldnfnaaRawI
namespace Go.Proofs.Ytioddambldnfnaa
open Go.RowKit

theorem arr_slice (B i n : Nat) (w : World) (hi : n + i = 20) (hn : 0 < n) : (Instr.sliceAt 53 (.pointer (some ⟨B, 0, none⟩)) (some (.int .i64 (i : Int))) none none).run Try.prog w = .ok (.slice (some ⟨B, i, none⟩) n n) w := by
  have hl : Try.prog.arrayLen 53 = 20 := by kernel_rfl
  have he : Try.prog.elem 53 = 5 := by kernel_rfl
  have hs : (sizeOf 5 : Sem Nat).run Try.prog w = .ok 1 w := by kernel_rfl
  have hu : Try.prog.underlying 53 = some (.array (Try.prog.arrayLen 53) (Try.prog.elem 53)) := by kernel_rfl
  rw [run_sliceAt_array_l w 53 _ hu .i64 i (by omega) (by rw [hl]; omega), he, hs, hl]
  simp only [Result.andThen, slicedAt, Int.toNat_natCast]
  rw [if_neg (by omega), add_none]
  obtain rfl : n = 20 - i := by omega
  simp

set_option maxRecDepth 100000 in
theorem digits_any (v : Int) (w : World) (h0 : -9223372036854775808 ≤ v) (h1 : v ≤ 9223372036854775807) :
    Calls Try.prog 23 #[.int .i64 v] w fun e w' => e = .returned (.string ⟨(Rw.digF v).toArray⟩) ∧ Below w.heap.size w w' := by
  obtain ⟨m, hm⟩ : ∃ m : Nat, m = v.natAbs := ⟨_, rfl⟩
  have hmb : m < 10000000000000000000 := by omega
  have HM := Lib.hid hm
  have HMB := Lib.hid hmb
  clear hmb
  by_cases hneg : v < 0
  · have hw : IntKind.u64.wrap (-IntKind.u64.wrap v) = (m : Int) := by
      simp [IntKind.wrap, IntKind.bits, IntKind.signed]; omega
    clear hm
    have hb : Buf (w.alloc (.cells #[.int .u8 0, .int .u8 0, .int .u8 0, .int .u8 0, .int .u8 0, .int .u8 0, .int .u8 0, .int .u8 0, .int .u8 0, .int .u8 0, .int .u8 0, .int .u8 0, .int .u8 0, .int .u8 0, .int .u8 0, .int .u8 0, .int .u8 0, .int .u8 0, .int .u8 0, .int .u8 0] 53)) w.heap.size 20 20 [] := ⟨_, _, heap_alloc_new _ _, rfl, rfl, rfl⟩
    go_enter Try.func23, Try.ntmps23
    go_wp2
    go_loopw [4, 5] (fun x y wr => ∃ (u f i : Nat) (l : List UInt8), x = .int .u64 (u : Int) ∧ y = .int .i64 (i : Int) ∧ i = f + 2 ∧ Rw.decK f u ++ l = Rw.decF m ∧ u < 10 ^ (f + 1) ∧ l.length + f = 18 ∧ Buf wr w.heap.size 20 i l ∧ Below w.heap.size w wr)
      (fun _ y _ => (intOf y).toNat)
    case atStart => exact ⟨m, 18, 20, [], rfl, rfl, rfl, by rw [List.append_nil]; rfl, HMB.out, rfl, hb, (Below.refl _ _).alloc (Nat.le_refl _) _⟩
    case round =>
      obtain ⟨u, f, i, l, rfl, rfl, hi, hd, hu, hl, hbuf, hbel⟩ := hrel
      have hi2 : 2 ≤ i := by omega
      have hi20 : i ≤ 20 := by omega
      have hfz := hbuf.free (i - 1)
      obtain ⟨cv, hcv⟩ := hbuf.some_cell (i - 1) (by omega)
      have hu64 : u < 18446744073709551616 := by
        have : 10 ^ (f + 1) ≤ 10 ^ 19 := Nat.pow_le_pow_right (by decide) (by omega)
        omega
      obtain ⟨c, hc, Hc⟩ : ∃ c : UInt8, 48 + (u : Int) % 10 = (c.toNat : Int) ∧ Hid (c = UInt8.ofNat (48 + u % 10)) := ⟨_, by simp; omega, rfl⟩
      have HC := Lib.hid hc
      have HD := Lib.hid hd
      have HU := Lib.hid hu
      have HL := Lib.hid hl
      have HI := Lib.hid hi
      have HU64 := Lib.hid hu64
      have hbuf1 := hbuf.step c (i := i - 1) (by omega)
      have hbel1 := hbel.setCell (p := ⟨w.heap.size, i - 1, none⟩) (Nat.le_refl _) (.int .u8 (c.toNat : Int))
      have hfz2 := hbuf1.free (i - 1 - 1)
      obtain ⟨cv2, hcv2⟩ := hbuf1.some_cell (i - 1 - 1) (by omega)
      have hbuf2 := hbuf1.step 45 (i := i - 1 - 1) (by omega)
      have hbel2 := hbel1.setCell (p := ⟨w.heap.size, i - 1 - 1, none⟩) (Nat.le_refl _) (.int .u8 45)
      have hsl : ∀ W, (Instr.sliceAt 53 (.pointer (some ⟨w.heap.size, 0, none⟩)) (some (.int .i64 ((i : Int) - 1 - 1))) none none).run Try.prog W = .ok (.slice (some ⟨w.heap.size, i - 1 - 1, none⟩) (l.length + 1 + 1) (l.length + 1 + 1)) W := fun W => by
        have e := arr_slice w.heap.size (i - 1 - 1) (l.length + 1 + 1) W (by omega) (by omega)
        rwa [show ((i - 1 - 1 : Nat) : Int) = (i : Int) - 1 - 1 from by omega] at e
      have hstr : (convert 23 9 (.slice (some ⟨w.heap.size, i - 1 - 1, none⟩) (l.length + 1 + 1) (l.length + 1 + 1))).run Try.prog ((wr.setCell ⟨w.heap.size, i - 1, none⟩ (.int .u8 (c.toNat : Int))).setCell ⟨w.heap.size, i - 1 - 1, none⟩ (.int .u8 45)) = .ok (.string ⟨(45 :: c :: l).toArray⟩) ((wr.setCell ⟨w.heap.size, i - 1, none⟩ (.int .u8 (c.toNat : Int))).setCell ⟨w.heap.size, i - 1 - 1, none⟩ (.int .u8 45)) := hbuf2.str (l.length + 1 + 1) rfl
      clear hd hu hl hb hi hu64
      by_cases h10 : u < 10
      · have hq : ((u : Int) / 10 == 0) = true := by rw [beq_iff_eq]; omega
        have HQ : Hid (c :: l = Rw.decF m) := by
          have := HD.out
          rw [Rw.decK_small f h10] at this
          rw [Hc.out, show u % 10 = u from by omega]; exact this
        go_wp2
        go_ret
        refine ⟨ret_s ?_, hbel2⟩
        unfold Rw.digF
        rw [if_pos hneg, ← HM.out, ← HQ.out]
      · have hq : ((u : Int) / 10 == 0) = false := by rw [beq_eq_false_iff_ne]; omega
        have hdv : IntKind.u64.wrap ((u : Int) / 10) = (u : Int) / 10 := by have := HU64.out; simp [IntKind.wrap, IntKind.bits, IntKind.signed]; omega
        clear hstr hsl
        go_wp2
        go_roundw
        case rel =>
          obtain ⟨f', rfl⟩ : ∃ f', f = f' + 1 := by
            rcases f with _ | f'
            · have := HU.out; omega
            · exact ⟨f', rfl⟩
          refine ⟨u / 10, f', i - 1, c :: l, by go_num, by rw [show ((i - 1 : Nat) : Int) = (i : Int) - 1 from by omega], by have := HI.out; omega, ?_, ?_, ?_, hbuf1, hbel1⟩
          · rw [← HD.out, Rw.decK_big f' (by omega), Hc.out]; simp
          · have := HU.out; rw [Nat.pow_succ] at this; omega
          · have := HL.out; simp only [List.length_cons]; omega
        case measure => simp [intOf]; omega
  · have hv : v = (m : Int) := by omega
    clear hm
    subst hv
    have hb : Buf (w.alloc (.cells #[.int .u8 0, .int .u8 0, .int .u8 0, .int .u8 0, .int .u8 0, .int .u8 0, .int .u8 0, .int .u8 0, .int .u8 0, .int .u8 0, .int .u8 0, .int .u8 0, .int .u8 0, .int .u8 0, .int .u8 0, .int .u8 0, .int .u8 0, .int .u8 0, .int .u8 0, .int .u8 0] 53)) w.heap.size 20 20 [] := ⟨_, _, heap_alloc_new _ _, rfl, rfl, rfl⟩
    go_enter Try.func23, Try.ntmps23
    go_wp2
    go_loopw [4, 5] (fun x y wr => ∃ (u f i : Nat) (l : List UInt8), x = .int .u64 (u : Int) ∧ y = .int .i64 (i : Int) ∧ i = f + 2 ∧ Rw.decK f u ++ l = Rw.decF m ∧ u < 10 ^ (f + 1) ∧ l.length + f = 18 ∧ Buf wr w.heap.size 20 i l ∧ Below w.heap.size w wr)
      (fun _ y _ => (intOf y).toNat)
    case atStart => exact ⟨m, 18, 20, [], rfl, rfl, rfl, by rw [List.append_nil]; rfl, HMB.out, rfl, hb, (Below.refl _ _).alloc (Nat.le_refl _) _⟩
    case round =>
      obtain ⟨u, f, i, l, rfl, rfl, hi, hd, hu, hl, hbuf, hbel⟩ := hrel
      have hi2 : 2 ≤ i := by omega
      have hi20 : i ≤ 20 := by omega
      have hfz := hbuf.free (i - 1)
      obtain ⟨cv, hcv⟩ := hbuf.some_cell (i - 1) (by omega)
      have hu64 : u < 18446744073709551616 := by
        have : 10 ^ (f + 1) ≤ 10 ^ 19 := Nat.pow_le_pow_right (by decide) (by omega)
        omega
      obtain ⟨c, hc, Hc⟩ : ∃ c : UInt8, 48 + (u : Int) % 10 = (c.toNat : Int) ∧ Hid (c = UInt8.ofNat (48 + u % 10)) := ⟨_, by simp; omega, rfl⟩
      have HC := Lib.hid hc
      have HD := Lib.hid hd
      have HU := Lib.hid hu
      have HL := Lib.hid hl
      have HI := Lib.hid hi
      have HU64 := Lib.hid hu64
      have hbuf1 := hbuf.step c (i := i - 1) (by omega)
      have hbel1 := hbel.setCell (p := ⟨w.heap.size, i - 1, none⟩) (Nat.le_refl _) (.int .u8 (c.toNat : Int))
      have hsl : ∀ W, (Instr.sliceAt 53 (.pointer (some ⟨w.heap.size, 0, none⟩)) (some (.int .i64 ((i : Int) - 1))) none none).run Try.prog W = .ok (.slice (some ⟨w.heap.size, i - 1, none⟩) (l.length + 1) (l.length + 1)) W := fun W => by
        have e := arr_slice w.heap.size (i - 1) (l.length + 1) W (by omega) (by omega)
        rwa [show ((i - 1 : Nat) : Int) = (i : Int) - 1 from by omega] at e
      have hstr := hbuf1.str (l.length + 1) rfl
      clear hd hu hl hb hi hu64
      by_cases h10 : u < 10
      · have hq : ((u : Int) / 10 == 0) = true := by rw [beq_iff_eq]; omega
        have HQ : Hid (c :: l = Rw.decF m) := by
          have := HD.out
          rw [Rw.decK_small f h10] at this
          rw [Hc.out, show u % 10 = u from by omega]; exact this
        go_wp2
        go_ret
        refine ⟨ret_s ?_, hbel1⟩
        unfold Rw.digF
        rw [if_neg (by omega), ← HM.out, ← HQ.out]
      · have hq : ((u : Int) / 10 == 0) = false := by rw [beq_eq_false_iff_ne]; omega
        have hdv : IntKind.u64.wrap ((u : Int) / 10) = (u : Int) / 10 := by have := HU64.out; simp [IntKind.wrap, IntKind.bits, IntKind.signed]; omega
        clear hstr hsl
        go_wp2
        go_roundw
        case rel =>
          obtain ⟨f', rfl⟩ : ∃ f', f = f' + 1 := by
            rcases f with _ | f'
            · have := HU.out; omega
            · exact ⟨f', rfl⟩
          refine ⟨u / 10, f', i - 1, c :: l, by go_num, by rw [show ((i - 1 : Nat) : Int) = (i : Int) - 1 from by omega], by have := HI.out; omega, ?_, ?_, ?_, hbuf1, hbel1⟩
          · rw [← HD.out, Rw.decK_big f' (by omega), Hc.out]; simp
          · have := HU.out; rw [Nat.pow_succ] at this; omega
          · have := HL.out; simp only [List.length_cons]; omega
        case measure => simp [intOf]; omega
end Go.Proofs.Ytioddambldnfnaa
