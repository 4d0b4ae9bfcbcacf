/-
  The walk of the law RawChanged.
-/
import Derived.Test.YtioddambldnfnaaRawM
namespace Go.Proofs.Ytioddambldnfnaa
open Go.RowKit

theorem changed_alive (s : ByteArray) (at_ by_ : Int) (w : World) (hs : s.size ≤ maxLen) (h : s.size = 0 ∨ 3000 < s.size ∨ by_ % 256 = 0) :
    Calls Try.prog 3 #[.string s, .int .i64 at_, .int .i64 by_] w fun e w' => e = .returned (.bool true) ∧ Below w.heap.size w w' := by
  unfold maxLen at hs
  by_cases h0 : s.size = 0
  · have hb : ((s.size : Int) == 0) = true := by rw [beq_iff_eq]; omega
    clear h h0
    go_enter Try.func3, Try.ntmps3
    go_wp2_with (go_at_call 11; refine (alive_any _).mono ?_; rintro e w' ⟨rfl, b1⟩)
    go_ret
    exact ⟨rfl, b1⟩
  · have hb : ((s.size : Int) == 0) = false := by rw [beq_eq_false_iff_ne]; omega
    by_cases h3 : 3000 < s.size
    · have hb3 : decide (3000 < (s.size : Int)) = true := by simp; omega
      clear h h0
      go_enter Try.func3, Try.ntmps3
      go_wp2_with (go_at_call 11; refine (alive_any _).mono ?_; rintro e w' ⟨rfl, b1⟩)
      go_ret
      exact ⟨rfl, b1⟩
    · have hb3 : decide (3000 < (s.size : Int)) = false := by simp; omega
      have h6 : (by_ % 256 == 0) = true := by rw [beq_iff_eq]; omega
      clear h h0
      go_enter Try.func3, Try.ntmps3
      go_wp2_with (go_at_call 11; refine (alive_any _).mono ?_; rintro e w' ⟨rfl, b1⟩)
      go_ret
      exact ⟨rfl, b1⟩

theorem xor_u8 (a b : Nat) (ha : a < 256) (hb : b < 256) : bits .xor .u8 a b = ((a ^^^ b : Nat) : Int) := by
  have hx : a ^^^ b < 256 := Nat.xor_lt_two_pow (n := 8) ha hb
  have e : (BitVec.ofInt IntKind.u8.bits (a : Int) ^^^ BitVec.ofInt IntKind.u8.bits (b : Int)).toNat = a ^^^ b := by
    rw [BitVec.toNat_xor, BitVec.ofInt_natCast, BitVec.ofInt_natCast, BitVec.toNat_ofNat, BitVec.toNat_ofNat, Nat.mod_eq_of_lt (a := a) (by exact ha), Nat.mod_eq_of_lt (a := b) (by exact hb)]
  show IntKind.u8.wrap ((BitVec.ofInt IntKind.u8.bits (a : Int) ^^^ BitVec.ofInt IntKind.u8.bits (b : Int)).toNat : Int) = _
  rw [e, IntKind.wrap_u8]
  omega

theorem sum_list (l : List UInt8) (w : World) (hs : l.length ≤ maxLen) :
    Calls Try.prog 12 #[.string ⟨l.toArray⟩] w fun e w' => e = .returned (.int .i64 (Rw.sumF l)) ∧ w = w' :=
  sum_any ⟨l.toArray⟩ w hs

/-- The part behind the tests. -/
theorem changed_byte (c : UInt8) (by_ : Int) (h : by_ % 256 ≠ 0) : ∃ d : UInt8, bits .xor .u8 (c.toNat : Int) (by_ % 256) = (d.toNat : Int) ∧ Hid (c ≠ d) := by
  obtain ⟨b, hb⟩ := Int.eq_ofNat_of_zero_le (show 0 ≤ by_ % 256 by omega)
  have hb2 : b < 256 := by omega
  have hx : c.toNat ^^^ b < 256 := Nat.xor_lt_two_pow (n := 8) c.toNat_lt hb2
  refine ⟨UInt8.ofNat (c.toNat ^^^ b), ?_, ?_⟩
  · rw [hb, xor_u8 _ _ c.toNat_lt hb2]
    rw [UInt8.toNat_ofNat']
    rw [Nat.mod_eq_of_lt hx]
  · intro e
    have e2 := congrArg UInt8.toNat e
    rw [UInt8.toNat_ofNat', Nat.mod_eq_of_lt hx] at e2
    have e3 : c.toNat ^^^ 0 = c.toNat ^^^ b := by rw [Nat.xor_zero]; exact e2
    have := Rw.xor_left e3
    omega

set_option maxRecDepth 100000 in
theorem changed_main (s : ByteArray) (at_ by_ : Int) (w : World) (hs : s.size ≤ maxLen) (h0 : 0 < s.size) (h3 : s.size ≤ 3000) (h6 : by_ % 256 ≠ 0) :
    Calls Try.prog 3 #[.string s, .int .i64 at_, .int .i64 by_] w fun e w' => e = .returned (.bool true) ∧ Below w.heap.size w w' := by
  have HS : Hid (s.size ≤ maxLen) := hs
  have HS2 : ∀ k d, Hid ((s.data.toList.set k d).length ≤ maxLen) := fun k d => by unfold Hid; rw [List.length_set]; exact hs
  unfold maxLen at hs
  have hb : ((s.size : Int) == 0) = false := by rw [beq_eq_false_iff_ne]; omega
  have hb3 : decide (3000 < (s.size : Int)) = false := by simp; omega
  have hb6 : (by_ % 256 == 0) = false := by rw [beq_eq_false_iff_ne]; omega
  obtain ⟨t, ht⟩ : ∃ t, at_.tmod (s.size : Int) = t := ⟨_, rfl⟩
  have ht1 : -(s.size : Int) < t := by rw [← ht]; have := Int.lt_tmod_of_pos at_ (show (0 : Int) < s.size by omega); omega
  have ht2 : t < s.size := by rw [← ht]; exact Int.tmod_lt_of_pos at_ (by omega)
  obtain ⟨cap, W, bW, hz, hhas, hconv⟩ := conv_b s w
  have HZ := Lib.hid hz
  clear hz
  by_cases hneg : t < 0
  · obtain ⟨k, hk⟩ := Int.eq_ofNat_of_zero_le (show 0 ≤ t + (s.size : Int) by omega)
    have hks : (k : Int) < s.size := by omega
    have hksn : k < s.data.toList.length := by simpa using (show k < s.size by omega)
    obtain ⟨hck, hfk⟩ := hhas k hksn
    have hset : ∀ d, s.data.toList[k] ≠ d → Rw.sumF s.data.toList ≠ Rw.sumF (s.data.toList.set k d) := fun d h => Rw.sumF_set _ k hksn d h
    have Hset := Lib.hid hset
    generalize s.data.toList[k] = c at hck Hset
    obtain ⟨d, hd, Hd⟩ := changed_byte c by_ h6
    have hne := Hset.out d Hd.out
    have hhas2 := hhas.set k d
    have bW2 := bW.setCell (p := ⟨w.heap.size, k, none⟩) (Nat.le_refl _) (.int .u8 (d.toNat : Int))
    have HK := Lib.hid hksn
    have HH2 := Lib.hid hhas2
    have HNE := Lib.hid hne
    clear hset hhas hhas2 hne hksn hs
    go_enter Try.func3, Try.ntmps3
    go_wp2
    clear hck hfk hd hconv
    have hconv2 : ∀ x : HW (W.setCell ⟨w.heap.size, k, none⟩ (.int .u8 (d.toNat : Int))), (convert 23 9 (.slice (some ⟨w.heap.size, 0, none⟩) s.size cap)).run Try.prog x.val = .ok (.string ⟨(s.data.toList.set k d).toArray⟩) x.val :=
      fun x => (HH2.out.held x).str s.size cap (by simp)
    have e1 : (((Rw.sumF s.data.toList : Nat) : Int) != (Rw.sumF (s.data.toList.set k d) : Int)) = true := by rw [bne_iff_ne]; intro h; exact HNE.out (by omega)
    have e2 : decide ((0 : Int) ≤ (Rw.sumF s.data.toList : Int)) = true := by simp
    have e3 : decide ((Rw.sumF s.data.toList : Int) < 4294967296) = true := by have := Rw.sumF_lt s.data.toList; simp; omega
    refine wp_region_held_lit (by kernel_rfl) (by kernel_rfl) ?_
    repeat (go_big_quiet_step (first
      | (go_at_call 11; exact calls_held (alive_any _))
      | (go_at_call 12; first | (with_reducible refine calls_held_same (sum_any s _ HS.out)) | (with_reducible refine calls_held_same (sum_list _ _ (HS2 _ _).out)))))
    refine wpQuiet_nil ?_
    intro _ hw'
    obtain ⟨hx, hw''⟩ := hw'
    subst hw''
    go_wp2
    go_ret
    exact ⟨rfl, bW2.trans (hx.ok.mono bW2.size)⟩
  · obtain ⟨k, rfl⟩ := Int.eq_ofNat_of_zero_le (show 0 ≤ t by omega)
    have hks : (k : Int) < s.size := by omega
    have hksn : k < s.data.toList.length := by simpa using (show k < s.size by omega)
    obtain ⟨hck, hfk⟩ := hhas k hksn
    have hset : ∀ d, s.data.toList[k] ≠ d → Rw.sumF s.data.toList ≠ Rw.sumF (s.data.toList.set k d) := fun d h => Rw.sumF_set _ k hksn d h
    have Hset := Lib.hid hset
    generalize s.data.toList[k] = c at hck Hset
    obtain ⟨d, hd, Hd⟩ := changed_byte c by_ h6
    have hne := Hset.out d Hd.out
    have hhas2 := hhas.set k d
    have bW2 := bW.setCell (p := ⟨w.heap.size, k, none⟩) (Nat.le_refl _) (.int .u8 (d.toNat : Int))
    have HK := Lib.hid hksn
    have HH2 := Lib.hid hhas2
    have HNE := Lib.hid hne
    clear hset hhas hhas2 hne hksn hs
    go_enter Try.func3, Try.ntmps3
    go_wp2
    clear hck hfk hd hconv
    have hconv2 : ∀ x : HW (W.setCell ⟨w.heap.size, k, none⟩ (.int .u8 (d.toNat : Int))), (convert 23 9 (.slice (some ⟨w.heap.size, 0, none⟩) s.size cap)).run Try.prog x.val = .ok (.string ⟨(s.data.toList.set k d).toArray⟩) x.val :=
      fun x => (HH2.out.held x).str s.size cap (by simp)
    have e1 : (((Rw.sumF s.data.toList : Nat) : Int) != (Rw.sumF (s.data.toList.set k d) : Int)) = true := by rw [bne_iff_ne]; intro h; exact HNE.out (by omega)
    have e2 : decide ((0 : Int) ≤ (Rw.sumF s.data.toList : Int)) = true := by simp
    have e3 : decide ((Rw.sumF s.data.toList : Int) < 4294967296) = true := by have := Rw.sumF_lt s.data.toList; simp; omega
    refine wp_region_held_lit (by kernel_rfl) (by kernel_rfl) ?_
    repeat (go_big_quiet_step (first
      | (go_at_call 11; exact calls_held (alive_any _))
      | (go_at_call 12; first | (with_reducible refine calls_held_same (sum_any s _ HS.out)) | (with_reducible refine calls_held_same (sum_list _ _ (HS2 _ _).out)))))
    refine wpQuiet_nil ?_
    intro _ hw'
    obtain ⟨hx, hw''⟩ := hw'
    subst hw''
    go_wp2
    go_ret
    exact ⟨rfl, bW2.trans (hx.ok.mono bW2.size)⟩

theorem changed_any (s : ByteArray) (at_ by_ : Int) (hs : s.size ≤ maxLen) (_ : (Lit.int .i64 at_).wf = true) (_ : (Lit.int .i64 by_).wf = true) (w : World) :
    Calls Try.prog 3 #[.string s, .int .i64 at_, .int .i64 by_] w fun e w' => e = .returned (.bool true) ∧ Below w.heap.size w w' := by
  by_cases h : s.size = 0 ∨ 3000 < s.size ∨ by_ % 256 = 0
  · exact changed_alive s at_ by_ w hs h
  · exact changed_main s at_ by_ w hs (by omega) (by omega) (by omega)
end Go.Proofs.Ytioddambldnfnaa
