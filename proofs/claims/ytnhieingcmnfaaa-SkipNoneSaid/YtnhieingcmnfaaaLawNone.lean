/-
  The law SkipNone's walk.
-/
import Derived.Test.YtnhieingcmnfaaaAlive
namespace Go.Proofs.Ytnhieingcmnfaaa
open Go.RowKit Go.Maps

theorem int_wf {m : Int} (h : (Lit.int .i64 m).wf = true) : -9223372036854775808 ≤ m ∧ m ≤ 9223372036854775807 := by
  simp only [Lit.wf, Bool.and_eq_true, decide_eq_true_eq] at h
  exact ⟨h.1, h.2⟩

set_option maxRecDepth 100000 in
set_option maxHeartbeats 1000000 in
theorem none_any (k : ByteArray) (m : Int) (_ : k.size ≤ maxLen) (hm : (Lit.int .i64 m).wf = true) (w : World) :
    Calls Try.prog 7 #[.string k, .int .i64 m] w fun e w' => e = .returned (.bool true) ∧ Below w.heap.size w w' := by
  obtain ⟨hm0, hm1⟩ : -9223372036854775808 ≤ m ∧ m ≤ 9223372036854775807 := int_wf hm
  have HM := Lib.hid (And.intro hm0 hm1)
  clear hm hm0 hm1
  go_enter Try.func7, Try.ntmps7
  go_wp2_with fail
  refine (nilget_any k w).mono ?_
  rintro _ w1 ⟨rfl, hb1⟩
  have B1 := Lib.hid hb1
  clear hb1
  simp only []
  go_wp2_with fail
  refine (nillast_any k w1).mono ?_
  rintro _ _ ⟨rfl, rfl⟩
  simp only []
  go_wp2_with fail
  refine (nilfreeze_any w1).mono ?_
  rintro _ _ ⟨rfl, rfl⟩
  simp only []
  go_wp2_with fail
  refine (alive_any w1).mono ?_
  rintro _ w2 ⟨rfl, hb2⟩
  have B2 := Lib.hid (B1.out.trans (hb2.mono B1.out.size))
  clear hb2
  simp only []
  go_wp2_with fail
  refine (Put_nil k ⟨#[]⟩ m w2).mono ?_
  rintro _ w3 ⟨rfl, hb3⟩
  have B3 := Lib.hid (B2.out.trans (hb3.mono B2.out.size))
  clear hb3
  simp only []
  have e1 : (({ data := #[] } : ByteArray) ++ { data := #[] }).toList.isEmpty = true := by rw [ByteArray.toList_eq, ByteArray.data_append]; rfl
  have e2 : (({ data := #[] } : ByteArray) ++ { data := #[] }).toList = [] := by rw [ByteArray.toList_eq, ByteArray.data_append]; rfl
  go_wp2_with fail
  refine (nilfrom_any k m HM.out.1 HM.out.2 w3).mono ?_
  rintro _ w4 ⟨v, rfl, hr, hb4⟩
  obtain ⟨a, cap, rfl⟩ := kv_form hr
  have e3 : (fromOf [] k m).length = 0 := by unfold fromOf; split <;> simp
  rw [e3]
  have B4 := Lib.hid (B3.out.trans (hb4.mono B3.out.size))
  clear hb4 hr e3
  simp only []
  go_wp2_with fail
  refine (nilcount_any w4).mono ?_
  rintro _ _ ⟨rfl, rfl⟩
  simp only []
  go_wp2_with fail
  refine (nilbytes_any w4).mono ?_
  rintro _ _ ⟨rfl, rfl⟩
  simp only []
  go_wp2_with fail
  refine (nillanes_any w4).mono ?_
  rintro _ _ ⟨rfl, rfl⟩
  simp only []
  go_wp2_with fail
  refine (nilsteps_any k w4).mono ?_
  rintro _ _ ⟨rfl, rfl⟩
  simp only []
  go_wp2_with fail
  refine (nilfrozen_any w4).mono ?_
  rintro _ _ ⟨rfl, rfl⟩
  simp only []
  go_wp2
  go_ret
  exact ⟨rfl, B4.out⟩
end Go.Proofs.Ytnhieingcmnfaaa
