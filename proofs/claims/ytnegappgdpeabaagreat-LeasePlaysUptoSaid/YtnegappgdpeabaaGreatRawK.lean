/-
  The walk of raw.Put.
-/
import Derived.Test.YtnegappgdpeabaaGreatBase
import Derived.Test.YtnegappgdpeabaaGreatRawJ
set_option linter.unusedSimpArgs false
set_option linter.unusedVariables false
namespace Go.Proofs.YtnegappgdpeabaaGreat
open Go.RowKit

theorem make_b (n : Nat) (w : World) (hn : n ≤ 140737488355328) : ∃ arr : Array Value, arr.size = n ∧
    (Instr.makeSlice 133 (.int .i64 (n : Int)) (.int .i64 (n : Int))).run Tryz.prog w = .ok (.slice (some ⟨w.heap.size, 0, none⟩) n n) (w.alloc (.cells arr 5)) := by
  obtain ⟨i, hi, hz, hsz, hby⟩ := info_parts info_u8
  have h := run_make w 133 5 i (.int .u8 0) Tryz.underlying133 hi hz .i64 .i64 n n (by omega) (by omega) (by rw [hby]; omega) (by omega)
  rw [hsz] at h
  simp only [Int.toNat_natCast, Nat.mul_one] at h
  exact ⟨_, by simp [madeCells, Value.cells], h⟩

theorem div_pow (v i : Nat) : (v : Int) / 2 ^ (8 * i) = ((v / 256 ^ i : Nat) : Int) := by
  rw [Int.pow_mul]; norm_cast

set_option maxRecDepth 100000 in
theorem put_ok (v n : Nat) (w : World) (h1 : 1 ≤ n) (h7 : n ≤ 7) (hv : v < 256 ^ n) :
    Calls Tryz.prog 45 #[.int .i64 (v : Int), .int .i64 (n : Int)] w fun e w' => e = .returned (.tuple #[.string ⟨(Rw.beF n v).toArray⟩, .int .i64 0]) ∧ Below w.heap.size w w' := by
  have hv2 : v < 72057594037927936 := Nat.lt_of_lt_of_le hv (Nat.pow_le_pow_right (by decide) h7 : 256 ^ n ≤ 256 ^ 7)
  have hq : ((v : Int) / 2 ^ (8 * n) != 0) = false := by rw [div_pow, Nat.div_eq_of_lt hv]; rfl
  have hn1 : decide ((n : Int) < 1) = false := by simp; omega
  have hn7 : decide (7 < (n : Int)) = false := by simp; omega
  have hv0 : decide ((v : Int) < 0) = false := by simp
  obtain ⟨arr, harr, hmk⟩ := make_b n w (by omega)
  have hb0 : Buf (w.alloc (.cells arr 5)) w.heap.size n n [] := ⟨_, _, heap_alloc_new _ _, harr, by simp, by rw [List.drop_eq_nil_of_le (by simp [harr])]; rfl⟩
  have HV := Lib.hid hv
  have HV2 := Lib.hid hv2
  have HB0 := Lib.hid hb0
  clear hv hv2 harr hb0
  go_enter Tryz.func45, Tryz.ntmps45
  go_wp2
  go_loopw [29] (fun y wr => ∃ i : Nat, i ≤ n ∧ y = .int .i64 (i : Int) ∧ Buf wr w.heap.size n (n - i) (Rw.beF i v) ∧ Below w.heap.size w wr) (fun y _ => n - (intOf y).toNat)
  case atStart => exact ⟨0, by omega, rfl, HB0.out, (Below.refl _ _).alloc (Nat.le_refl _) _⟩
  case round =>
    obtain ⟨i, hi, rfl, hbuf, hbel⟩ := hrel
    by_cases hlt : i < n
    · have hfz := hbuf.free (n - 1 - i)
      obtain ⟨cv, hcv⟩ := hbuf.some_cell (n - 1 - i) (by omega)
      have hc : (v : Int) / 2 ^ (8 * i) % 256 = ((UInt8.ofNat (v / 256 ^ i)).toNat : Int) := by rw [div_pow]; simp
      obtain ⟨c, Hc⟩ : ∃ c : UInt8, Hid (c = UInt8.ofNat (v / 256 ^ i)) := ⟨_, rfl⟩
      rw [← Hc.out] at hc
      have hbuf1 := hbuf.step c (i := n - 1 - i) (by omega)
      have hbel1 := hbel.setCell (p := ⟨w.heap.size, n - 1 - i, none⟩) (Nat.le_refl _) (.int .u8 (c.toNat : Int))
      go_wp2
      go_roundw
      case rel =>
        refine ⟨i + 1, by omega, by go_num, ?_, hbel1⟩
        rw [Hc.out] at hbuf1 ⊢
        rw [show n - (i + 1) = n - 1 - i from by omega]
        exact hbuf1
      case measure => simp [intOf]; omega
    · obtain rfl : i = n := by omega
      have hb2 : Buf wr w.heap.size i 0 (Rw.beF i v) := by rw [Nat.sub_self] at hbuf; exact hbuf
      have hs := hb2.str i (Rw.beF_len i v).symm
      clear hbuf hb2
      go_wp2
      go_ret2
      exact ⟨rfl, hbel⟩

theorem shr_big {v : Int} {n : Nat} (h0 : 0 ≤ v) (h : ¬ v.toNat < 256 ^ n) : (v / 2 ^ (8 * n) != 0) = true := by
  obtain ⟨u, rfl⟩ := Int.eq_ofNat_of_zero_le h0
  rw [div_pow, bne_iff_ne]
  have hp : 0 < 256 ^ n := Nat.pow_pos (by decide)
  have : 0 < u / 256 ^ n := Nat.div_pos (by simpa using h) hp
  omega

set_option maxRecDepth 100000 in
theorem put_no (v n : Int) (w : World) (h : Rw.putOk v n = false) :
    Calls Tryz.prog 45 #[.int .i64 v, .int .i64 n] w fun e w' => e = .returned (.tuple #[.string ⟨#[]⟩, .int .i64 1]) ∧ w = w' := by
  unfold Rw.putOk at h
  by_cases a1 : n < 1
  · clear h
    go_enter Tryz.func45, Tryz.ntmps45
    go_wp2
    go_ret2
    exact ⟨rfl, rfl⟩
  · have hn1 : decide (n < 1) = false := by simp; omega
    by_cases a2 : 7 < n
    · clear h
      go_enter Tryz.func45, Tryz.ntmps45
      go_wp2
      go_ret2
      exact ⟨rfl, rfl⟩
    · have hn7 : decide (7 < n) = false := by simp; omega
      by_cases a3 : v < 0
      · clear h
        go_enter Tryz.func45, Tryz.ntmps45
        go_wp2
        go_ret2
        exact ⟨rfl, rfl⟩
      · have hv0 : decide (v < 0) = false := by simp; omega
        obtain ⟨k, rfl⟩ := Int.eq_ofNat_of_zero_le (show 0 ≤ n by omega)
        have hq : (v / 2 ^ (8 * k) != 0) = true := shr_big (n := k) (by omega) (by
          intro hh
          simp only [Bool.and_eq_false_iff, decide_eq_false_iff_not] at h
          simp only [Int.toNat_natCast] at h
          omega)
        clear h
        go_enter Tryz.func45, Tryz.ntmps45
        go_wp2
        go_ret2
        exact ⟨rfl, rfl⟩

/-- Both. -/
def putAns (v n : Int) : Value := if Rw.putOk v n then .tuple #[.string ⟨(Rw.beF n.toNat v.toNat).toArray⟩, .int .i64 0] else .tuple #[.string ⟨#[]⟩, .int .i64 1]
theorem put_any (v n : Int) (w : World) :
    Calls Tryz.prog 45 #[.int .i64 v, .int .i64 n] w fun e w' => e = .returned (putAns v n) ∧ Below w.heap.size w w' := by
  unfold putAns
  cases h : Rw.putOk v n with
  | true =>
    have h2 := h
    simp only [Rw.putOk, Bool.and_eq_true, decide_eq_true_eq] at h2
    obtain ⟨u, rfl⟩ := Int.eq_ofNat_of_zero_le (show 0 ≤ v by omega)
    obtain ⟨k, rfl⟩ := Int.eq_ofNat_of_zero_le (show 0 ≤ n by omega)
    exact put_ok u k w (by omega) (by omega) (by simpa using h2.2)
  | false => exact (put_no v n w h).mono fun e w' ⟨h1, h2⟩ => ⟨h1, h2 ▸ Below.refl _ _⟩
end Go.Proofs.YtnegappgdpeabaaGreat
