/-
  The walks of Cut and New.
-/
import Derived.Test.YtanekdcmealoeaaNetJ
import Derived.Maps.OwnIn
import Derived.Maps.OwnRows
namespace Go.Proofs.Ytanekdcmealoeaa
open Go.RowKit Go.Maps

theorem NetAt.recut {w w' : World} {nb mb : Nat} {lv : Value} {c c' : Nat} {s : St} (h : NetAt w nb mb lv c s) (D' : DataW Unit) (hD : w'.ownsMap Try.prog 60 unitElem mb c' D') (ht : Tn (fun k => k = mb) w w')
    (cut' : Int → Int → Bool) (hc : ∀ a b, (Lit.int .i64 a).wf = true → (Lit.int .i64 b).wf = true → Maps.has D' (wayKey a b) = cut' a b) : NetAt w' nb mb lv c' { s with cut := cut' } :=
  ⟨ht.cell h.c0 h.nm, ht.cell h.c1 h.nm, ht.cell h.c2 h.nm, ht.cell h.c3 h.nm, fun j => (ht.frozen h.lt h.nm).trans (h.fz j), ht.row h.row (fun _ hk e => h.ml (e ▸ hk)), ⟨D', hD, hc⟩, h.nm, h.nl, h.ml, h.n0, h.n8, h.len, h.l0, h.l1⟩

theorem way_wf {s : St} {a b : Int} (h : s.way a b = true) (hn : s.n ≤ 8) : (Lit.int .i64 a).wf = true ∧ (Lit.int .i64 b).wf = true := by
  unfold St.way at h
  simp only [Bool.and_eq_true, decide_eq_true_eq] at h
  have e1 : IntKind.i64.min = -9223372036854775808 := by decide
  have e2 : IntKind.i64.max = 9223372036854775807 := by decide
  constructor <;> simp [Lit.wf, e1, e2] <;> omega

set_option maxRecDepth 100000 in
theorem cut_none {w : World} {nb mb : Nat} {lv : Value} {c : Nat} {s : St} (h : NetAt w nb mb lv c s) (a b : Int) (x : Bool) (hw : s.way a b = false) :
    Calls Try.prog 14 #[.pointer (some ⟨nb, 0, none⟩), .int .i64 a, .int .i64 b, .bool x] w fun e w' => e = .returned (.int .i64 1) ∧ w = w' := by
  have HN := Lib.hid h
  clear h
  go_enter Try.func14, Try.ntmps14
  go_wp2_with (go_at_call 26; refine (ways_any HN.out a b).mono ?_; rintro _ _ ⟨rfl, rfl⟩; simp only [hw])
  go_ret
  exact ⟨rfl, rfl⟩

set_option maxRecDepth 100000 in
theorem cut_set {w : World} {nb mb : Nat} {lv : Value} {c : Nat} {s : St} (h : NetAt w nb mb lv c s) (a b : Int) (hw : s.way a b = true) (hc : c < 1000) :
    Calls Try.prog 14 #[.pointer (some ⟨nb, 0, none⟩), .int .i64 a, .int .i64 b, .bool true] w fun e w' => e = .returned (.int .i64 0) ∧ NetAt w' nb mb lv (c + 1) (s.setCut a b true) ∧ Step nb mb lv w lv w' := by
  obtain ⟨ha, hb⟩ := way_wf hw h.n8
  have h2 := h.c2
  obtain ⟨D, hD, hcu⟩ := h.map
  have HK := Lib.hid (keyOf_way ha hb)
  have HD := Lib.hid hD
  have HN := Lib.hid h
  have HC := Lib.hid hcu
  have HAB := Lib.hid (And.intro ha hb)
  clear h hD hcu ha hb
  go_enter Try.func14, Try.ntmps14
  go_wp2_with (first | (go_at_call 26; refine (ways_any HN.out a b).mono ?_; rintro _ _ ⟨rfl, rfl⟩; simp only [hw]) | (at_mapUpdate; refine wpList_mapUpdate_in _ rfl _ _ _ 49 rfl 60 59 law60 Try.underlying49 unitElem mb c D rfl HD.out (by unfold maxLen; omega) _ _ (wayKey a b) rfl rfl HK.out _ _ unitElem_mk ?_))
  intro w1 hD1 ht1
  go_wp2
  go_ret
  have ht : Tn (fun k => k = mb) w w1 := Tn.ofGrown ht1.grown (fun k hk => by injection hk with hk; exact hk.symm)
  refine ⟨rfl, HN.out.recut _ hD1 ht _ ?_, Step.refl (ht.mono (fun k hk => Or.inr (Or.inl hk)))⟩
  intro p q hp hq
  by_cases hpq : p = a ∧ q = b
  · obtain ⟨rfl, rfl⟩ := hpq
    rw [if_pos ⟨rfl, rfl⟩]
    exact Maps.has_put_same HD.out.isMap (show WideAt.IsKeyLit (wayKey p q) from trivial) _
  · rw [if_neg hpq, ← HC.out p q hp hq]
    exact Maps.has_put_other (fun e => hpq (way_inj hp hq HAB.out.1 HAB.out.2 e)) _

set_option maxRecDepth 100000 in
theorem cut_mend {w : World} {nb mb : Nat} {lv : Value} {c : Nat} {s : St} (h : NetAt w nb mb lv c s) (a b : Int) (hw : s.way a b = true) :
    Calls Try.prog 14 #[.pointer (some ⟨nb, 0, none⟩), .int .i64 a, .int .i64 b, .bool false] w fun e w' => e = .returned (.int .i64 0) ∧ NetAt w' nb mb lv c (s.setCut a b false) ∧ Step nb mb lv w lv w' := by
  obtain ⟨ha, hb⟩ := way_wf hw h.n8
  have h2 := h.c2
  obtain ⟨D, hD, hcu⟩ := h.map
  have HK := Lib.hid (keyOf_way ha hb)
  have HD := Lib.hid hD
  have HN := Lib.hid h
  have HC := Lib.hid hcu
  have HAB := Lib.hid (And.intro ha hb)
  clear h hD hcu ha hb
  go_enter Try.func14, Try.ntmps14
  go_wp2_with (first | (go_at_call 26; refine (ways_any HN.out a b).mono ?_; rintro _ _ ⟨rfl, rfl⟩; simp only [hw]) | (at_delete; refine wpList_delete_own _ rfl _ _ 49 60 rfl 59 law60 Try.underlying49 unitElem mb c D rfl HD.out _ (wayKey a b) rfl HK.out ?_))
  intro w1 hD1 ht1
  go_wp2
  go_ret
  have ht : Tn (fun k => k = mb) w w1 := Tn.ofGrown ht1.grown (fun k hk => by injection hk with hk; exact hk.symm)
  refine ⟨rfl, HN.out.recut _ hD1 ht _ ?_, Step.refl (ht.mono (fun k hk => Or.inr (Or.inl hk)))⟩
  intro p q hp hq
  by_cases hpq : p = a ∧ q = b
  · obtain ⟨rfl, rfl⟩ := hpq
    rw [if_pos ⟨rfl, rfl⟩]
    exact Maps.has_del_same
  · rw [if_neg hpq, ← HC.out p q hp hq]
    exact Maps.has_del_other (fun e => hpq (way_inj hp hq HAB.out.1 HAB.out.2 e))
end Go.Proofs.Ytanekdcmealoeaa
