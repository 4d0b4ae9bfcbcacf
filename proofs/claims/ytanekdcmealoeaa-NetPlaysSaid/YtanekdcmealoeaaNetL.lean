/-
  The walks of Send and New.
-/
import Derived.Test.YtanekdcmealoeaaNetK
import Derived.Test.YtanekdcmealoeaaShelf
namespace Go.Proofs.Ytanekdcmealoeaa
open Go.RowKit Go.Maps

theorem clone_any (w : World) (d : ByteArray) (hd : d.size ≤ 65536) : Calls Try.prog 28 #[.string d] w fun e w' => e = .returned (.string d) ∧ Below w.heap.size w w' := by
  go_enter Try.func28, Try.ntmps28
  go_wp2_with (go_at_call 36; refine (Try.stringslite_Clone d w (by omega)).mono ?_; rintro _ w' ⟨rfl, hb⟩; simp only [])
  go_ret
  exact ⟨rfl, hb⟩

set_option maxRecDepth 100000 in
theorem send_none {w : World} {nb mb : Nat} {lv : Value} {c : Nat} {s : St} (h : NetAt w nb mb lv c s) (a b : Int) (d : ByteArray) (hw : s.way a b = false) :
    Calls Try.prog 10 #[.pointer (some ⟨nb, 0, none⟩), .int .i64 a, .int .i64 b, .string d] w fun e w' => e = .returned (.int .i64 1) ∧ w = w' := by
  have HN := Lib.hid h
  clear h
  go_enter Try.func10, Try.ntmps10
  go_wp2_with (go_at_call 26; refine (ways_any HN.out a b).mono ?_; rintro _ _ ⟨rfl, rfl⟩; simp only [hw])
  go_ret
  exact ⟨rfl, rfl⟩

set_option maxRecDepth 100000 in
theorem send_long {w : World} {nb mb : Nat} {lv : Value} {c : Nat} {s : St} (h : NetAt w nb mb lv c s) (a b : Int) (d : ByteArray) (hw : s.way a b = true) (hd : 65536 < d.size) :
    Calls Try.prog 10 #[.pointer (some ⟨nb, 0, none⟩), .int .i64 a, .int .i64 b, .string d] w fun e w' => e = .returned (.int .i64 2) ∧ w = w' := by
  have HN := Lib.hid h
  have t1 : decide ((65536 : Int) < (d.size : Int)) = true := by simp; omega
  clear h
  go_enter Try.func10, Try.ntmps10
  go_wp2_with (go_at_call 26; refine (ways_any HN.out a b).mono ?_; rintro _ _ ⟨rfl, rfl⟩; simp only [hw])
  go_ret
  exact ⟨rfl, rfl⟩

set_option maxRecDepth 100000 in
theorem send_cut {w : World} {nb mb : Nat} {lv : Value} {c : Nat} {s : St} (h : NetAt w nb mb lv c s) (a b : Int) (d : ByteArray) (hw : s.way a b = true) (hd : d.size ≤ 65536) (hc : s.cut a b = true) :
    Calls Try.prog 10 #[.pointer (some ⟨nb, 0, none⟩), .int .i64 a, .int .i64 b, .string d] w fun e w' => e = .returned (.int .i64 0) ∧ NetAt w' nb mb lv c s.lose ∧ Step nb mb lv w lv w' := by
  obtain ⟨ha, hb⟩ := way_wf hw h.n8
  have HN := Lib.hid h
  have HAB := Lib.hid (And.intro ha hb)
  have t1 : decide ((65536 : Int) < (d.size : Int)) = false := by simp; omega
  have t1n : ¬ 65536 < d.size := by omega
  clear h ha hb hd
  go_enter Try.func10, Try.ntmps10
  go_wp2_with (go_at_call 26; refine (ways_any HN.out a b).mono ?_; rintro _ _ ⟨rfl, rfl⟩; simp only [hw])
  refine (iscut_any HN.out a b HAB.out.1 HAB.out.2).mono ?_
  rintro e w1 ⟨rfl, hb1⟩
  simp only [hc]
  have HB := Lib.hid hb1
  have H1 := Lib.hid (HN.out.below hb1)
  clear hb1
  go_wp2_with (go_at_call 27; refine (lose_any H1.out).mono ?_; rintro _ w2 ⟨rfl, hn2, hs2⟩; simp only [])
  go_ret
  exact ⟨rfl, hn2, (Step.refl (Tn.ofBelow HB.out)).trans hs2⟩

set_option maxRecDepth 100000 in
theorem send_full {w : World} {nb mb : Nat} {lv : Value} {c : Nat} {s : St} (h : NetAt w nb mb lv c s) (a b : Int) (d : ByteArray) (hw : s.way a b = true) (hd : d.size ≤ 65536) (hc : s.cut a b = false) (hl : 400 ≤ s.l.length) :
    Calls Try.prog 10 #[.pointer (some ⟨nb, 0, none⟩), .int .i64 a, .int .i64 b, .string d] w fun e w' => e = .returned (.int .i64 0) ∧ NetAt w' nb mb lv c s.lose ∧ Step nb mb lv w lv w' := by
  obtain ⟨ha, hb⟩ := way_wf hw h.n8
  obtain ⟨a0, cap, rfl, hcap, hcm⟩ := h.form
  have HN := Lib.hid h
  have HAB := Lib.hid (And.intro ha hb)
  have t1 : decide ((65536 : Int) < (d.size : Int)) = false := by simp; omega
  have t1n : ¬ 65536 < d.size := by omega
  obtain ⟨n, hn⟩ : ∃ n, n = s.l.length := ⟨_, rfl⟩
  have t2 : decide ((400 : Int) ≤ (n : Int)) = true := by simp; omega
  have t2n : 400 ≤ n := by omega
  have HL := Lib.hid hn
  clear h ha hb hd hcap hcm hn hl
  go_enter Try.func10, Try.ntmps10
  go_wp2_with (go_at_call 26; refine (ways_any HN.out a b).mono ?_; rintro _ _ ⟨rfl, rfl⟩; simp only [hw])
  refine (iscut_any HN.out a b HAB.out.1 HAB.out.2).mono ?_
  rintro e w1 ⟨rfl, hb1⟩
  simp only [hc]
  have HB := Lib.hid hb1
  have H1 := Lib.hid (HN.out.below hb1)
  have k1 := H1.out.c1
  rw [← HL.out] at k1
  clear hb1
  go_wp2_with (go_at_call 27; refine (lose_any H1.out).mono ?_; rintro _ w2 ⟨rfl, hn2, hs2⟩; simp only [])
  go_ret
  exact ⟨rfl, hn2, (Step.refl (Tn.ofBelow HB.out)).trans hs2⟩
end Go.Proofs.Ytanekdcmealoeaa
