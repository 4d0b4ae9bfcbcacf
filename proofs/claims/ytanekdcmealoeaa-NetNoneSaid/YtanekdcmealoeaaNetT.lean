/-
  The law NetNone's walk.
-/
import Derived.Test.YtanekdcmealoeaaNetS
namespace Go.Proofs.Ytanekdcmealoeaa
open Go.RowKit Go.Maps

set_option maxRecDepth 100000 in
set_option maxHeartbeats 1000000 in
theorem none_any (a b i : Int) (s : ByteArray) (ha : (Lit.int .i64 a).wf = true) (hb : (Lit.int .i64 b).wf = true) (_ : (Lit.int .i64 i).wf = true) (_ : s.size ≤ maxLen) (w : World) :
    Calls Try.prog 7 #[.int .i64 a, .int .i64 b, .int .i64 i, .string s] w fun e w' => e = .returned (.bool true) ∧ Below w.heap.size w w' := by
  have hz : ∀ w, (zeroValue 51).run Try.prog w = .ok (.agg #[.int .i64 0, .slice none 0 0, .map none, .int .i64 0]) w := fun _ => by kernel_rfl
  obtain ⟨W2, hW2⟩ : ∃ W2, W2 = w.alloc (.cells #[.int .i64 0, .slice none 0 0, .map none, .int .i64 0] 51) := ⟨_, rfl⟩
  have b2 : Below w.heap.size w W2 := by rw [hW2]; exact (Below.refl _ _).alloc (Nat.le_refl _) _
  have hz2 : Zero W2 w.heap.size := by rw [hW2]; constructor <;> simp [go_sem]
  have hw := hW2.symm
  have HB := Lib.hid b2
  have HZ := Lib.hid hz2
  clear b2 hz2 hW2
  go_enter Try.func7, Try.ntmps7
  go_wp2_with fail
  refine (nil_peek i W2).mono ?_
  rintro _ w1 ⟨rfl, hb1⟩
  have z1 := Lib.hid (HZ.out.below hb1)
  have B1 := Lib.hid (HB.out.trans (hb1.mono HB.out.size))
  clear hb1 hw
  simp only []
  go_wp2_with fail
  refine (zero_deliver z1.out i).mono ?_
  rintro _ w2 ⟨rfl, hb2⟩
  have z2 := Lib.hid (z1.out.below hb2)
  have B2 := Lib.hid (B1.out.trans (hb2.mono B1.out.size))
  clear hb2
  simp only []
  go_wp2_with fail
  refine (alive_any w2).mono ?_
  rintro _ w3 ⟨rfl, hb3⟩
  have z3 := Lib.hid (z2.out.below hb3)
  have B3 := Lib.hid (B2.out.trans (hb3.mono B2.out.size))
  clear hb3
  simp only []
  go_wp2_with fail
  refine (nil_send a b s w3).mono ?_
  rintro _ _ ⟨rfl, rfl⟩
  simp only []
  go_wp2_with fail
  refine (zero_send z3.out a b s).mono ?_
  rintro _ _ ⟨rfl, rfl⟩
  simp only []
  go_wp2_with fail
  refine (nil_drop i w3).mono ?_
  rintro _ w4 ⟨rfl, hb4⟩
  have z4 := Lib.hid (z3.out.below hb4)
  have B4 := Lib.hid (B3.out.trans (hb4.mono B3.out.size))
  clear hb4
  simp only []
  go_wp2_with fail
  refine (zero_twice z4.out i).mono ?_
  rintro _ w5 ⟨rfl, hb5⟩
  have z5 := Lib.hid (z4.out.below hb5)
  have B5 := Lib.hid (B4.out.trans (hb5.mono B4.out.size))
  clear hb5
  simp only []
  go_wp2_with fail
  refine (nil_cut a b true w5).mono ?_
  rintro _ _ ⟨rfl, rfl⟩
  simp only []
  go_wp2_with fail
  refine (nil_iscut a b w5).mono ?_
  rintro _ _ ⟨rfl, rfl⟩
  simp only []
  go_wp2_with fail
  refine (zero_iscut z5.out a b ha hb).mono ?_
  rintro _ w6 ⟨rfl, hb6⟩
  have z6 := Lib.hid (z5.out.below hb6)
  have B6 := Lib.hid (B5.out.trans (hb6.mono B5.out.size))
  clear hb6
  simp only []
  go_wp2_with fail
  refine (nil_len w6).mono ?_
  rintro _ _ ⟨rfl, rfl⟩
  simp only []
  go_wp2_with fail
  refine (zero_len z6.out).mono ?_
  rintro _ _ ⟨rfl, rfl⟩
  simp only []
  go_wp2_with fail
  refine (nil_lost w6).mono ?_
  rintro _ _ ⟨rfl, rfl⟩
  simp only []
  go_wp2_with fail
  refine (zero_lost z6.out).mono ?_
  rintro _ _ ⟨rfl, rfl⟩
  simp only []
  go_wp2
  go_ret
  exact ⟨rfl, B6.out⟩
end Go.Proofs.Ytanekdcmealoeaa
