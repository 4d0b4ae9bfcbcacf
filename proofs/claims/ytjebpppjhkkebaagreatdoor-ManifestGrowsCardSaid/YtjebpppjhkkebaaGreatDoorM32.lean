import Derived.Test.YtjebpppjhkkebaaGreatDoorM31
import Derived.Test.YtjebpppjhkkebaaGreatDoorM12
/-
  Manifest: Commit of an edit that is refused; the calls on a manifest that there is not.
-/
set_option linter.unusedSimpArgs false
set_option linter.unusedVariables false
namespace Go.Proofs.YtjebpppjhkkebaaGreatDoor
open Go.RowKit
variable {w w' w0 : World} {F F' G G' H : Nat → Prop} {B db mb lb mp mm k n : Nat} {D D' : Dk} {L L' : Lg} {S : List (Nat × Fl)} {dir dr : ByteArray} {s t : PS} {e : PE} {seq : Int} {stuck : Bool} {v : Value}

set_option maxRecDepth 100000 in
set_option maxHeartbeats 8000000 in
theorem commit_no {ev : Value} {c : Int} (h : MS B w0 w F G db mb lb mp mm D L dir s seq false) (hg : GoodS s) (he : EdV w ev e) (hq1 : e.add.length ≤ 100000) (hq2 : e.rem.length ≤ 100000) (hq4 : e.ns.length ≤ 100000) (hfl : e.fl.length ≤ 100000) (hap : applyF s e = (c, t)) (hc : c ≠ 0) :
    Calls Tryz.prog 9 #[.pointer (some ⟨mm, 0, none⟩), ev] w fun r w' => r = .returned (.int .i64 c) ∧ Below w.heap.size w w' := by
  have HE := Lib.hid he
  obtain ⟨xv, yv, mv, ov, rfl, he1, he2, he3, he4⟩ := he
  obtain ⟨xa, xc, rfl, _, _⟩ := he1.form
  obtain ⟨ya, yc, rfl, _, _⟩ := he2.form
  obtain ⟨ma, mc, rfl, _, _⟩ := he3.form
  obtain ⟨oa, oc, rfl, _, _⟩ := he4.form
  obtain ⟨xn, hxn⟩ : ∃ n, e.add.length = n := ⟨_, rfl⟩
  obtain ⟨yn, hyn⟩ : ∃ n, e.rem.length = n := ⟨_, rfl⟩
  obtain ⟨mn, hmn⟩ : ∃ n, e.fl.length = n := ⟨_, rfl⟩
  obtain ⟨on, hon⟩ : ∃ n, e.ns.length = n := ⟨_, rfl⟩
  rw [hxn, hyn, hmn, hon] at HE ⊢
  clear he1 he2 he3 he4
  obtain ⟨w1, hw1⟩ : ∃ w1, w.alloc (.cells #[.slice xa xn xc, .slice ya yn yc, .int .i64 e.log, .slice ma mn mc, .slice oa on oc] 40) = w1 := ⟨_, rfl⟩
  have hb1 : Below w.heap.size w w1 := by rw [← hw1]; exact (Below.refl _ _).alloc (Nat.le_refl _) _
  have hz1 : w1.heap.size = w.heap.size + 1 := by rw [← hw1]; simp
  have he1 : ObS w1 w.heap.size (.slice xa xn xc) (.slice ya yn yc) (.int .i64 e.log) (.slice ma mn mc) (.slice oa on oc) := by
    rw [← hw1]
    refine ⟨?_, ?_, ?_, ?_, ?_, fun j => ?_⟩
    all_goals simp [go_sem]
  have hM1 := h.stay hb1
  obtain ⟨fv, lv, nv, h3, h4, h5, h6, h7, hst⟩ := hM1.st
  have hmb : MmB w1 mm db lb dir fv (.int .i64 s.next) (.int .i64 s.log) lv nv seq false := ⟨hM1.c0, hM1.c1, hM1.c2, h3, h4, h5, h6, h7, hM1.c8, hM1.c9⟩
  have hap1 : ∀ y, Below w1.heap.size w1 y → Calls Tryz.prog 15 #[.agg #[fv, .int .i64 s.next, .int .i64 s.log, lv, nv], .agg #[.slice xa xn xc, .slice ya yn yc, .int .i64 e.log, .slice ma mn mc, .slice oa on oc]] y (AqAns t c y) := fun y hy => by
    have := apply_aq (hst.st.below hy) ((HE.out.below hb1).below hy) hg hq1 hq2 hfl hq4
    rw [hap] at this
    exact this
  have HAP := Lib.hid hap1
  have hno := mnone_at hM1.c0
  have HNO := Lib.hid hno
  have HM1 := Lib.hid hM1
  have HC1 := Lib.hid (And.intro hmb he1)
  have HST := Lib.hid hst
  have HB1 := Lib.hid hb1
  have c9 := hM1.c9
  have gm := h.nf
  have hltF := h.ws.d.d.lt
  have HLF := Lib.hid (And.intro hltF gm)
  have hml := h.lt
  clear hap1 hno hM1 hmb he1 hst hb1 hg hap h3 h4 h5 h6 h7 h hq1 hq2 hq4 hxn hyn hmn hon hfl hltF gm
  go_enter Tryz.func9, Tryz.ntmps9
  go_upto_region 5 with (go_at_call 23; go_loud (refine HNO.out.mono ?_); rintro r w2 ⟨rfl, rfl⟩)
  clear c9 hw1
  go_cut [5, 6] (fun y5 y6 wx => CmAns t c w1 y5 y6 wx)
  case first =>
    refine wp_region_K (fun w' => w'.cell? ⟨mm, 3, none⟩ = some fv ∧ w'.cell? ⟨mm, 4, none⟩ = some (.int .i64 s.next) ∧ w'.cell? ⟨mm, 5, none⟩ = some (.int .i64 s.log) ∧ w'.cell? ⟨mm, 6, none⟩ = some lv ∧ w'.cell? ⟨mm, 7, none⟩ = some nv ∧ w'.cell? ⟨w.heap.size, 0, none⟩ = some (.slice xa xn xc) ∧ w'.cell? ⟨w.heap.size, 1, none⟩ = some (.slice ya yn yc) ∧ w'.cell? ⟨w.heap.size, 2, none⟩ = some (.int .i64 e.log) ∧ w'.cell? ⟨w.heap.size, 3, none⟩ = some (.slice ma mn mc) ∧ w'.cell? ⟨w.heap.size, 4, none⟩ = some (.slice oa on oc)) 11 12 (by kernel_rfl) (by kernel_rfl) ⟨(HC1.out.1.below (Below.refl _ _).drew).c3, (HC1.out.1.below (Below.refl _ _).drew).c4, (HC1.out.1.below (Below.refl _ _).drew).c5, (HC1.out.1.below (Below.refl _ _).drew).c6, (HC1.out.1.below (Below.refl _ _).drew).c7, (HC1.out.2.below (Below.refl _ _).drew).and⟩ (fun hH => ?_)
    refine tkK (i := 0) [11] rfl hH ?_
    try simp only [Act.put, tkA, tkB, tkC]
    refine tkK (i := 1) [11] rfl hH ?_
    try simp only [Act.put, tkA, tkB, tkC]
    refine tkK (i := 2) [11] rfl hH ?_
    try simp only [Act.put, tkA, tkB, tkC]
    refine tkK (i := 3) [11] rfl hH ?_
    try simp only [Act.put, tkA, tkB, tkC]
    refine tkK (i := 4) [11] rfl hH ?_
    try simp only [Act.put, tkA, tkB, tkC]
    obtain ⟨wz, hwz⟩ : ∃ wz, w1.drew = wz := ⟨_, rfl⟩
    have hz0 : Below w1.heap.size w1 wz := by rw [← hwz]; exact (Below.refl _ _).drew
    have hz1 : wz.heap.size = w1.heap.size := by rw [← hwz]; rfl
    rw [hwz] at hH ⊢
    have HZ0 := Lib.hid (And.intro hz0 hz1)
    clear hwz hz0 hz1
    refine wpAnyK_all (rs := [5, 9]) (by kernel_rfl) (by simp) (fun i hi => ?_)
    rcases List.mem_cons.1 hi with rfl | hi2
    · refine wpOp_K rfl (fun K hK => ?_) (by kernel_rfl)
      go_simp
      go_at_call 15
      refine (HAP.out _ HZ0.out.1).mono ?_
      rintro r w5 ⟨fa, fc, la, lc, na, nc, rfl, o1, o2, o3, hb⟩
      have HO := Lib.hid (And.intro o1 (And.intro o2 (And.intro o3 hb)))
      clear o1 o2 o3 hb
      refine hK.out _ _ ⟨(HC1.out.1.below (HZ0.out.1.trans (HO.out.2.2.2.mono HZ0.out.1.size))).c3, (HC1.out.1.below (HZ0.out.1.trans (HO.out.2.2.2.mono HZ0.out.1.size))).c4, (HC1.out.1.below (HZ0.out.1.trans (HO.out.2.2.2.mono HZ0.out.1.size))).c5, (HC1.out.1.below (HZ0.out.1.trans (HO.out.2.2.2.mono HZ0.out.1.size))).c6, (HC1.out.1.below (HZ0.out.1.trans (HO.out.2.2.2.mono HZ0.out.1.size))).c7, (HC1.out.2.below (HZ0.out.1.trans (HO.out.2.2.2.mono HZ0.out.1.size))).and⟩ (fun hH => ?_)
      clear hK K
      try simp only [Act.put, tkA, tkB, tkC]
      refine tkK (i := 6) [11] rfl hH ?_
      try simp only [Act.put, tkA, tkB, tkC]
      refine tkK (i := 7) [11] rfl hH ?_
      try simp only [Act.put, tkA, tkB, tkC]
      refine tkK (i := 8) [11] rfl hH ?_
      try simp only [Act.put, tkA, tkB, tkC]
      refine wpAnyK_one (i := 9) (by kernel_rfl) rfl (fun K hK => ?_) (by kernel_rfl)
      go_simp
      obtain ⟨ob, hob⟩ : ∃ k, w5.heap.size = k := ⟨_, rfl⟩
      rw [hob]
      obtain ⟨wb, hwb⟩ : ∃ wb, w5.alloc (.cells #[.slice none 0 0, .int .i64 0, .int .i64 0, .slice none 0 0, .slice none 0 0] 30) = wb := ⟨_, rfl⟩
      rw [hwb]
      have hbb : Below w5.heap.size w5 wb := by rw [← hwb]; exact (Below.refl _ _).alloc (Nat.le_refl _) _
      have hoz : ObZ wb ob := by rw [← hob, ← hwb]; exact ObZ.made _
      have HB := Lib.hid (And.intro hbb (And.intro hoz hob))
      clear hbb hoz hob hwb
      refine hK.out _ _ ⟨(HC1.out.1.below ((HZ0.out.1.trans (HO.out.2.2.2.mono HZ0.out.1.size)).trans (HB.out.1.mono (HZ0.out.1.trans (HO.out.2.2.2.mono HZ0.out.1.size)).size))).c3, (HC1.out.1.below ((HZ0.out.1.trans (HO.out.2.2.2.mono HZ0.out.1.size)).trans (HB.out.1.mono (HZ0.out.1.trans (HO.out.2.2.2.mono HZ0.out.1.size)).size))).c4, (HC1.out.1.below ((HZ0.out.1.trans (HO.out.2.2.2.mono HZ0.out.1.size)).trans (HB.out.1.mono (HZ0.out.1.trans (HO.out.2.2.2.mono HZ0.out.1.size)).size))).c5, (HC1.out.1.below ((HZ0.out.1.trans (HO.out.2.2.2.mono HZ0.out.1.size)).trans (HB.out.1.mono (HZ0.out.1.trans (HO.out.2.2.2.mono HZ0.out.1.size)).size))).c6, (HC1.out.1.below ((HZ0.out.1.trans (HO.out.2.2.2.mono HZ0.out.1.size)).trans (HB.out.1.mono (HZ0.out.1.trans (HO.out.2.2.2.mono HZ0.out.1.size)).size))).c7, (HC1.out.2.below ((HZ0.out.1.trans (HO.out.2.2.2.mono HZ0.out.1.size)).trans (HB.out.1.mono (HZ0.out.1.trans (HO.out.2.2.2.mono HZ0.out.1.size)).size))).and⟩ (fun hH => ?_)
      clear hK K
      try simp only [Act.put, tkA, tkB, tkC]
      have hoz : ObZ wb ob := HB.out.2.1
      have z0 := hoz.z0
      have z1 := hoz.z1
      have z2 := hoz.z2
      have z3 := hoz.z3
      have z4 := hoz.z4
      have f0 := hoz.zf 0
      have f1 := hoz.zf 1
      have f2 := hoz.zf 2
      have f3 := hoz.zf 3
      have f4 := hoz.zf 4
      have HQ := Lib.hid hoz
      clear hoz
      refine wpAnyK_one (i := 10) (by kernel_rfl) rfl (fun K hK => ?_) (by kernel_rfl)
      go_simp
      refine hK.out _ _ ⟨(HC1.out.1.below (((HZ0.out.1.trans (HO.out.2.2.2.mono HZ0.out.1.size)).trans (HB.out.1.mono (HZ0.out.1.trans (HO.out.2.2.2.mono HZ0.out.1.size)).size)).trans (tn5.below ((HZ0.out.1.trans (HO.out.2.2.2.mono HZ0.out.1.size)).trans (HB.out.1.mono (HZ0.out.1.trans (HO.out.2.2.2.mono HZ0.out.1.size)).size)).size (fun q hq => by rw [hq, ← HB.out.2.2]; exact (HZ0.out.1.trans (HO.out.2.2.2.mono HZ0.out.1.size)).size)))).c3, (HC1.out.1.below (((HZ0.out.1.trans (HO.out.2.2.2.mono HZ0.out.1.size)).trans (HB.out.1.mono (HZ0.out.1.trans (HO.out.2.2.2.mono HZ0.out.1.size)).size)).trans (tn5.below ((HZ0.out.1.trans (HO.out.2.2.2.mono HZ0.out.1.size)).trans (HB.out.1.mono (HZ0.out.1.trans (HO.out.2.2.2.mono HZ0.out.1.size)).size)).size (fun q hq => by rw [hq, ← HB.out.2.2]; exact (HZ0.out.1.trans (HO.out.2.2.2.mono HZ0.out.1.size)).size)))).c4, (HC1.out.1.below (((HZ0.out.1.trans (HO.out.2.2.2.mono HZ0.out.1.size)).trans (HB.out.1.mono (HZ0.out.1.trans (HO.out.2.2.2.mono HZ0.out.1.size)).size)).trans (tn5.below ((HZ0.out.1.trans (HO.out.2.2.2.mono HZ0.out.1.size)).trans (HB.out.1.mono (HZ0.out.1.trans (HO.out.2.2.2.mono HZ0.out.1.size)).size)).size (fun q hq => by rw [hq, ← HB.out.2.2]; exact (HZ0.out.1.trans (HO.out.2.2.2.mono HZ0.out.1.size)).size)))).c5, (HC1.out.1.below (((HZ0.out.1.trans (HO.out.2.2.2.mono HZ0.out.1.size)).trans (HB.out.1.mono (HZ0.out.1.trans (HO.out.2.2.2.mono HZ0.out.1.size)).size)).trans (tn5.below ((HZ0.out.1.trans (HO.out.2.2.2.mono HZ0.out.1.size)).trans (HB.out.1.mono (HZ0.out.1.trans (HO.out.2.2.2.mono HZ0.out.1.size)).size)).size (fun q hq => by rw [hq, ← HB.out.2.2]; exact (HZ0.out.1.trans (HO.out.2.2.2.mono HZ0.out.1.size)).size)))).c6, (HC1.out.1.below (((HZ0.out.1.trans (HO.out.2.2.2.mono HZ0.out.1.size)).trans (HB.out.1.mono (HZ0.out.1.trans (HO.out.2.2.2.mono HZ0.out.1.size)).size)).trans (tn5.below ((HZ0.out.1.trans (HO.out.2.2.2.mono HZ0.out.1.size)).trans (HB.out.1.mono (HZ0.out.1.trans (HO.out.2.2.2.mono HZ0.out.1.size)).size)).size (fun q hq => by rw [hq, ← HB.out.2.2]; exact (HZ0.out.1.trans (HO.out.2.2.2.mono HZ0.out.1.size)).size)))).c7, (HC1.out.2.below (((HZ0.out.1.trans (HO.out.2.2.2.mono HZ0.out.1.size)).trans (HB.out.1.mono (HZ0.out.1.trans (HO.out.2.2.2.mono HZ0.out.1.size)).size)).trans (tn5.below ((HZ0.out.1.trans (HO.out.2.2.2.mono HZ0.out.1.size)).trans (HB.out.1.mono (HZ0.out.1.trans (HO.out.2.2.2.mono HZ0.out.1.size)).size)).size (fun q hq => by rw [hq, ← HB.out.2.2]; exact (HZ0.out.1.trans (HO.out.2.2.2.mono HZ0.out.1.size)).size)))).and⟩ (fun hH => ?_)
      clear hK K
      try simp only [Act.put, tkA, tkB, tkC]
      refine wpAnyK_last (by kernel_rfl) rfl (fun K hK => ?_) (by kernel_rfl)
      go_simp
      refine hK.out _ _ (wpAnyK_done (by kernel_rfl) ?_ _)
      clear hK K hH
      go_wp2_with fail
      go_meet
      case rel => exact cm_done ((HZ0.out.1.trans (HO.out.2.2.2.mono HZ0.out.1.size)).trans (HB.out.1.mono (HZ0.out.1.trans (HO.out.2.2.2.mono HZ0.out.1.size)).size)) HQ.out (by rw [← HB.out.2.2]; exact (HZ0.out.1.trans (HO.out.2.2.2.mono HZ0.out.1.size)).size) (row_below HO.out.1 HB.out.1) (row_below HO.out.2.1 HB.out.1) (row_below HO.out.2.2.1 HB.out.1) HZ0.out.1.size (fun q hq => by have := (HO.out.1.lt q hq).2; have := HB.out.2.2; omega) (fun q hq => by have := (HO.out.2.1.lt q hq).2; have := HB.out.2.2; omega) (fun q hq => by have := (HO.out.2.2.1.lt q hq).2; have := HB.out.2.2; omega)
    · obtain rfl := List.mem_singleton.1 hi2
      refine wpOp_K rfl (fun K hK => ?_) (by kernel_rfl)
      go_simp
      obtain ⟨ob, hob⟩ : ∃ k, wz.heap.size = k := ⟨_, rfl⟩
      rw [hob]
      obtain ⟨wb, hwb⟩ : ∃ wb, wz.alloc (.cells #[.slice none 0 0, .int .i64 0, .int .i64 0, .slice none 0 0, .slice none 0 0] 30) = wb := ⟨_, rfl⟩
      rw [hwb]
      have hbb : Below wz.heap.size wz wb := by rw [← hwb]; exact (Below.refl _ _).alloc (Nat.le_refl _) _
      have hoz : ObZ wb ob := by rw [← hob, ← hwb]; exact ObZ.made _
      have HB := Lib.hid (And.intro hbb (And.intro hoz hob))
      clear hbb hoz hob hwb
      refine hK.out _ _ ⟨(HC1.out.1.below (HZ0.out.1.trans (HB.out.1.mono HZ0.out.1.size))).c3, (HC1.out.1.below (HZ0.out.1.trans (HB.out.1.mono HZ0.out.1.size))).c4, (HC1.out.1.below (HZ0.out.1.trans (HB.out.1.mono HZ0.out.1.size))).c5, (HC1.out.1.below (HZ0.out.1.trans (HB.out.1.mono HZ0.out.1.size))).c6, (HC1.out.1.below (HZ0.out.1.trans (HB.out.1.mono HZ0.out.1.size))).c7, (HC1.out.2.below (HZ0.out.1.trans (HB.out.1.mono HZ0.out.1.size))).and⟩ (fun hH => ?_)
      clear hK K
      try simp only [Act.put, tkA, tkB, tkC]
      refine wpAnyK_one (i := 5) (by kernel_rfl) rfl (fun K hK => ?_) (by kernel_rfl)
      go_simp
      go_at_call 15
      refine (HAP.out _ (HZ0.out.1.trans (HB.out.1.mono HZ0.out.1.size))).mono ?_
      rintro r w5 ⟨fa, fc, la, lc, na, nc, rfl, o1, o2, o3, hb⟩
      have HO := Lib.hid (And.intro o1 (And.intro o2 (And.intro o3 hb)))
      clear o1 o2 o3 hb
      refine hK.out _ _ ⟨(HC1.out.1.below ((HZ0.out.1.trans (HB.out.1.mono HZ0.out.1.size)).trans (HO.out.2.2.2.mono (HZ0.out.1.trans (HB.out.1.mono HZ0.out.1.size)).size))).c3, (HC1.out.1.below ((HZ0.out.1.trans (HB.out.1.mono HZ0.out.1.size)).trans (HO.out.2.2.2.mono (HZ0.out.1.trans (HB.out.1.mono HZ0.out.1.size)).size))).c4, (HC1.out.1.below ((HZ0.out.1.trans (HB.out.1.mono HZ0.out.1.size)).trans (HO.out.2.2.2.mono (HZ0.out.1.trans (HB.out.1.mono HZ0.out.1.size)).size))).c5, (HC1.out.1.below ((HZ0.out.1.trans (HB.out.1.mono HZ0.out.1.size)).trans (HO.out.2.2.2.mono (HZ0.out.1.trans (HB.out.1.mono HZ0.out.1.size)).size))).c6, (HC1.out.1.below ((HZ0.out.1.trans (HB.out.1.mono HZ0.out.1.size)).trans (HO.out.2.2.2.mono (HZ0.out.1.trans (HB.out.1.mono HZ0.out.1.size)).size))).c7, (HC1.out.2.below ((HZ0.out.1.trans (HB.out.1.mono HZ0.out.1.size)).trans (HO.out.2.2.2.mono (HZ0.out.1.trans (HB.out.1.mono HZ0.out.1.size)).size))).and⟩ (fun hH => ?_)
      clear hK K
      try simp only [Act.put, tkA, tkB, tkC]
      refine tkK (i := 6) [11] rfl hH ?_
      try simp only [Act.put, tkA, tkB, tkC]
      refine tkK (i := 7) [11] rfl hH ?_
      try simp only [Act.put, tkA, tkB, tkC]
      refine tkK (i := 8) [11] rfl hH ?_
      try simp only [Act.put, tkA, tkB, tkC]
      have hoz : ObZ w5 ob := HB.out.2.1.below HO.out.2.2.2
      have z0 := hoz.z0
      have z1 := hoz.z1
      have z2 := hoz.z2
      have z3 := hoz.z3
      have z4 := hoz.z4
      have f0 := hoz.zf 0
      have f1 := hoz.zf 1
      have f2 := hoz.zf 2
      have f3 := hoz.zf 3
      have f4 := hoz.zf 4
      have HQ := Lib.hid hoz
      clear hoz
      refine wpAnyK_one (i := 10) (by kernel_rfl) rfl (fun K hK => ?_) (by kernel_rfl)
      go_simp
      refine hK.out _ _ ⟨(HC1.out.1.below (((HZ0.out.1.trans (HB.out.1.mono HZ0.out.1.size)).trans (HO.out.2.2.2.mono (HZ0.out.1.trans (HB.out.1.mono HZ0.out.1.size)).size)).trans (tn5.below ((HZ0.out.1.trans (HB.out.1.mono HZ0.out.1.size)).trans (HO.out.2.2.2.mono (HZ0.out.1.trans (HB.out.1.mono HZ0.out.1.size)).size)).size (fun q hq => by rw [hq, ← HB.out.2.2]; exact HZ0.out.1.size)))).c3, (HC1.out.1.below (((HZ0.out.1.trans (HB.out.1.mono HZ0.out.1.size)).trans (HO.out.2.2.2.mono (HZ0.out.1.trans (HB.out.1.mono HZ0.out.1.size)).size)).trans (tn5.below ((HZ0.out.1.trans (HB.out.1.mono HZ0.out.1.size)).trans (HO.out.2.2.2.mono (HZ0.out.1.trans (HB.out.1.mono HZ0.out.1.size)).size)).size (fun q hq => by rw [hq, ← HB.out.2.2]; exact HZ0.out.1.size)))).c4, (HC1.out.1.below (((HZ0.out.1.trans (HB.out.1.mono HZ0.out.1.size)).trans (HO.out.2.2.2.mono (HZ0.out.1.trans (HB.out.1.mono HZ0.out.1.size)).size)).trans (tn5.below ((HZ0.out.1.trans (HB.out.1.mono HZ0.out.1.size)).trans (HO.out.2.2.2.mono (HZ0.out.1.trans (HB.out.1.mono HZ0.out.1.size)).size)).size (fun q hq => by rw [hq, ← HB.out.2.2]; exact HZ0.out.1.size)))).c5, (HC1.out.1.below (((HZ0.out.1.trans (HB.out.1.mono HZ0.out.1.size)).trans (HO.out.2.2.2.mono (HZ0.out.1.trans (HB.out.1.mono HZ0.out.1.size)).size)).trans (tn5.below ((HZ0.out.1.trans (HB.out.1.mono HZ0.out.1.size)).trans (HO.out.2.2.2.mono (HZ0.out.1.trans (HB.out.1.mono HZ0.out.1.size)).size)).size (fun q hq => by rw [hq, ← HB.out.2.2]; exact HZ0.out.1.size)))).c6, (HC1.out.1.below (((HZ0.out.1.trans (HB.out.1.mono HZ0.out.1.size)).trans (HO.out.2.2.2.mono (HZ0.out.1.trans (HB.out.1.mono HZ0.out.1.size)).size)).trans (tn5.below ((HZ0.out.1.trans (HB.out.1.mono HZ0.out.1.size)).trans (HO.out.2.2.2.mono (HZ0.out.1.trans (HB.out.1.mono HZ0.out.1.size)).size)).size (fun q hq => by rw [hq, ← HB.out.2.2]; exact HZ0.out.1.size)))).c7, (HC1.out.2.below (((HZ0.out.1.trans (HB.out.1.mono HZ0.out.1.size)).trans (HO.out.2.2.2.mono (HZ0.out.1.trans (HB.out.1.mono HZ0.out.1.size)).size)).trans (tn5.below ((HZ0.out.1.trans (HB.out.1.mono HZ0.out.1.size)).trans (HO.out.2.2.2.mono (HZ0.out.1.trans (HB.out.1.mono HZ0.out.1.size)).size)).size (fun q hq => by rw [hq, ← HB.out.2.2]; exact HZ0.out.1.size)))).and⟩ (fun hH => ?_)
      clear hK K
      try simp only [Act.put, tkA, tkB, tkC]
      refine wpAnyK_last (by kernel_rfl) rfl (fun K hK => ?_) (by kernel_rfl)
      go_simp
      refine hK.out _ _ (wpAnyK_done (by kernel_rfl) ?_ _)
      clear hK K hH
      go_wp2_with fail
      go_meet
      case rel => exact cm_done ((HZ0.out.1.trans (HB.out.1.mono HZ0.out.1.size)).trans (HO.out.2.2.2.mono (HZ0.out.1.trans (HB.out.1.mono HZ0.out.1.size)).size)) HQ.out (by rw [← HB.out.2.2]; exact HZ0.out.1.size) HO.out.1 HO.out.2.1 HO.out.2.2.1 (HZ0.out.1.trans (HB.out.1.mono HZ0.out.1.size)).size (fun q hq => by have := (HO.out.1.lt q hq).1; have := HB.out.2.1.lt; omega) (fun q hq => by have := (HO.out.2.1.lt q hq).1; have := HB.out.2.1.lt; omega) (fun q hq => by have := (HO.out.2.2.1.lt q hq).1; have := HB.out.2.1.lt; omega)
  case rest =>
    obtain ⟨hbx, ob, fa, fc, la, lc, na, nc, rfl, rfl, hob, ho, o1, o2, o3, n1, n2, n3⟩ := hcut
    have HX := Lib.hid (HB1.out.trans (hbx.mono HB1.out.size))
    have t0 : (c != 0) = true := bne_iff_ne.2 hc
    clear hbx hob ho o1 o2 o3 n1 n2 n3
    go_wp2
    go_ret
    exact ⟨rfl, HX.out⟩
/-! ### A manifest that there is not. -/
theorem commit_none {p : Value} (h : MNone w p) : Calls Tryz.prog 9 #[p, .agg #[.slice none 0 0, .slice none 0 0, .int .i64 0, .slice none 0 0, .slice none 0 0]] w fun r w' => r = .returned (.int .i64 1) ∧ Below w.heap.size w w' := by
  obtain ⟨w1, hw1⟩ : ∃ w1, w.alloc (.cells #[.slice none 0 0, .slice none 0 0, .int .i64 0, .slice none 0 0, .slice none 0 0] 40) = w1 := ⟨_, rfl⟩
  have hb1 : Below w.heap.size w w1 := by rw [← hw1]; exact (Below.refl _ _).alloc (Nat.le_refl _) _
  have hn := mnone_no (h.below hb1)
  have HN := Lib.hid (And.intro hn hb1)
  clear hn hb1 h
  go_enter Tryz.func9, Tryz.ntmps9
  go_wp2_with (go_at_call 23; go_loud (refine HN.out.1.mono ?_); rintro r w2 ⟨rfl, rfl⟩)
  go_ret
  exact ⟨rfl, HN.out.2⟩
theorem swap_none {p : Value} (h : MNone w p) : Calls Tryz.prog 10 #[p] w fun r w' => r = .returned (.int .i64 1) ∧ Below w.heap.size w w' := by
  have hn := mnone_no h
  have HN := Lib.hid hn
  clear hn h
  go_enter Tryz.func10, Tryz.ntmps10
  go_wp2_with (go_at_call 23; go_loud (refine HN.out.mono ?_); rintro r w2 ⟨rfl, rfl⟩)
  go_ret
  exact ⟨rfl, Below.refl _ _⟩
set_option maxHeartbeats 1000000 in
theorem state_none {p : Value} (h : MNone w p) : Calls Tryz.prog 13 #[p] w fun r w' => r = .returned (.agg #[.slice none 0 0, .int .i64 0, .int .i64 0, .slice none 0 0, .slice none 0 0]) ∧ Below w.heap.size w w' := by
  obtain ⟨w1, hw1⟩ : ∃ w1, w.alloc (.cells #[.slice none 0 0, .int .i64 0, .int .i64 0, .slice none 0 0, .slice none 0 0] 30) = w1 := ⟨_, rfl⟩
  have hb1 : Below w.heap.size w w1 := by rw [← hw1]; exact (Below.refl _ _).alloc (Nat.le_refl _) _
  have ho1 : ObZ w1 w.heap.size := by rw [← hw1]; exact ObZ.made w
  have hn := mnone_no (h.below hb1)
  have HN := Lib.hid (And.intro hn (And.intro hb1 ho1))
  have z0 := ho1.z0
  have z1 := ho1.z1
  have z2 := ho1.z2
  have z3 := ho1.z3
  have z4 := ho1.z4
  have f0 := ho1.zf 0
  have f1 := ho1.zf 1
  have f2 := ho1.zf 2
  have f3 := ho1.zf 3
  have f4 := ho1.zf 4
  clear hn hb1 ho1 h
  go_enter Tryz.func13, Tryz.ntmps13
  go_wp2_with (go_at_call 23; go_loud (refine HN.out.1.mono ?_); rintro r w2 ⟨rfl, rfl⟩)
  have h6 := cells5 (obZS HN.out.2.2) (y0 := .slice none 0 0) (y1 := .int .i64 0) (y2 := .int .i64 0) (y3 := .slice none 0 0) (y4 := .slice none 0 0)
  (try simp only [Exit.inBlock, Exit.then])
  refine bodyPost_ret (results_cell1 rfl rfl (load_st h6.z0 h6.z1 h6.z2 h6.z3 h6.z4)) rfl ⟨rfl, HN.out.2.1.trans (tn5.below HN.out.2.1.size (fun q hq => by omega))⟩
end Go.Proofs.YtjebpppjhkkebaaGreatDoor
/-
  Manifest: reading a manifest of which there is nothing yet.
-/
set_option linter.unusedSimpArgs false
set_option linter.unusedVariables false
namespace Go.Proofs.YtjebpppjhkkebaaGreatDoor
open Go.RowKit
variable {w w' w0 : World} {F F' G G' H : Nat → Prop} {B db mb lb mp mm k n : Nat} {D D' : Dk} {L L' : Lg} {S : List (Nat × Fl)} {dir dr : ByteArray} {s t : PS} {e : PE} {seq : Int} {stuck : Bool} {v : Value}

theorem MS.set4 (h : MS B w0 w F G db mb lb mp mm D L dir s seq stuck) (hz : D.fuse = none) (n : Int) : MS B w0 (w.setCell ⟨mm, 4, none⟩ (.int .i64 n)) F G db mb lb mp mm D L dir { s with next := n } seq stuck := by
  have t : Tn (fun q => q = mm) w (w.setCell ⟨mm, 4, none⟩ (.int .i64 n)) := tn_setS
  obtain ⟨fv, lv, nv, h3, h4, h5, h6, h7, fv', lv', nv', e, q1, q2, q3⟩ := h.st
  simp only [Value.agg.injEq, Array.mk.injEq, List.cons.injEq, true_and, and_true] at e
  obtain ⟨rfl, rfl, rfl⟩ := e
  have hs' : StX (fun q => F q ∨ q = mm) w (.agg #[fv, .int .i64 n, .int .i64 s.log, lv, nv]) { s with next := n } := ⟨fv, lv, nv, rfl, q1, q2, q3⟩
  exact ⟨h.wsm hz t, cell_keep h.c0 (by decide), cell_keep h.c1 (by decide), cell_keep h.c2 (by decide), ⟨fv, lv, nv, cell_keep h3 (by decide), World.cell?_setCell_same _ _ _ h4, cell_keep h5 (by decide), cell_keep h6 (by decide), cell_keep h7 (by decide), hs'.step t (fun q _ e => .inr e) (fun q e => .inl e)⟩, cell_keep h.c8 (by decide), cell_keep h.c9 (by decide), fun j => by rw [World.frozen?_setCell]; exact h.fz j, h.nf, h.new⟩
theorem mjoined_nil (a : Option Addr) (c : Nat) (w : World) : Calls Tryz.prog 110 #[.slice a 0 c] w fun r w' => r = .returned (.slice none 0 0) ∧ w = w' := by
  go_enter Tryz.func110, Tryz.ntmps110
  go_wp2
  go_loopw [3, 4, 5, 10] (fun o _ _ y wr => o = .slice none 0 0 ∧ y = .int .i64 0 ∧ w = wr) (fun _ _ _ _ _ => 0)
  case atStart => exact ⟨rfl, rfl, by first | rfl | trivial⟩
  case round =>
    obtain ⟨rfl, rfl, rfl⟩ := hrel
    go_wp2
    go_ret
    exact ⟨rfl, rfl⟩
set_option maxRecDepth 100000 in
set_option maxHeartbeats 2000000 in
theorem mload_new (h : MS B w0 w F G db mb lb mp mm D L dir s00 0 false) (hz : D.fuse = none) (hrec : L.records 0 = []) (hfl : (L.m.flatMap (·.2)).length ≤ 1000000) :
    Calls Tryz.prog 53 #[.pointer (some ⟨mm, 0, none⟩), .string ⟨#[]⟩] w fun r w' => r = .returned (.tuple #[]) ∧ MS B w0 w' F G db mb lb mp mm D L dir s01 0 false ∧ Tn (fun q => q = mm) w w' := by
  have h4 := h.set4 hz 1
  obtain ⟨fv, lv, nv, m3, m4, m5, m6, m7, _⟩ := h.st
  have g4 := h.fz 4
  have m2 := h.c2
  have H4 := Lib.hid (And.intro h4 (And.intro hrec hfl))
  clear h4 h m3 m5 m6 m7 hrec hfl
  have m4' : w.cell? ⟨mm, 4, none⟩ = some (.int .i64 0) := m4
  clear m4
  go_enter Tryz.func53, Tryz.ntmps53
  go_wp2_with (first
    | (go_at_call 110; refine (mjoined_nil _ _ _).mono ?_; rintro r w7 ⟨rfl, rfl⟩)
    | (go_at_call 111; refine (c_records H4.out.1.ws H4.out.2.2 0 H4.out.2.1 (n := 0) rfl).mono ?_; rintro r w6 ⟨ra, rc, rfl, _, hb6⟩; have H6 := Lib.hid (And.intro (H4.out.1.stay hb6) hb6); clear hb6))
  go_loopw [77] (fun y wr => y = .int .i64 0 ∧ w6 = wr) (fun _ _ => 0)
  case atStart => exact ⟨rfl, by first | rfl | trivial⟩
  case round =>
    obtain ⟨rfl, rfl⟩ := hrel
    go_wp2
    go_end0
    exact ⟨rfl, H6.out.1, tn_setS.trans (Tn.ofBelow H6.out.2)⟩
/-- Blocks of others turn, and the manifest says nothing that lies in any. -/
theorem MS.aside (h : MS B w0 w F G db mb lb mp mm D L dir s seq stuck) (hz : D.fuse = none) (ht : Tn H w w') (hH : ∀ q, H q → ¬ F q ∧ q ≠ mm ∧ B ≤ q) (hs : s.fs = [] ∧ s.fl = [] ∧ s.ns = []) : MS B w0 w' F G db mb lb mp mm D L dir s seq stuck := by
  have hm : ¬ H mm := fun e => (hH mm e).2.1 rfl
  obtain ⟨fv, lv, nv, h3, h4, h5, h6, h7, fv', lv', nv', e, q1, q2, q3⟩ := h.st
  have re : ∀ {α : Type} {c : α → List Value} {k : Nat} {x : Value} {l : List α}, RdAX (fun q => F q ∨ q = mm) c k w x l → l = [] → RdAX (fun q => F q ∨ q = mm) c k w' x l := fun h hl => by
    obtain ⟨a, c, h1, h2, h3, h4, _⟩ := h
    exact ⟨a, c, h1, h2, h3, h4, .inl hl⟩
  exact ⟨h.ws.apart hz ht (fun q e => (hH q e).1) (fun q e => (hH q e).2.2), ht.cell h.c0 hm, ht.cell h.c1 hm, ht.cell h.c2 hm, ⟨fv, lv, nv, ht.cell h3 hm, ht.cell h4 hm, ht.cell h5 hm, ht.cell h6 hm, ht.cell h7 hm, fv', lv', nv', e, re q1 hs.1, re q2 hs.2.1, re q3 hs.2.2⟩, ht.cell h.c8 hm, ht.cell h.c9 hm, fun j => (ht.frozen (p := ⟨mm, j, none⟩) h.lt hm).trans (h.fz j), h.nf, h.new⟩
theorem mloaded_idle (a : Nat) (w : World) :
    CallsD Tryz.prog 52 #[.pointer (some ⟨a, 0, none⟩)] .returning w fun e u' w' => e = .returned (.tuple #[]) ∧ u' = .returning ∧ w' = w := by
  refine callsD_of_wpS Tryz.func52 rfl fun c₀ cs hu => ?_
  apply wpS_seq
  apply wpS_region
  simp [wpOpsS, go_sem, recoverD, hu, Tryz.ntmps52, Exit.thenS]
  refine wpS_of_wp ?_
  simp only [List.replicate, Array.replicate, List.append_toArray, List.setIfInBounds_toArray, List.set_cons_zero, List.set_cons_succ, List.cons_append, List.nil_append]
  go_wp2
  refine ⟨rfl, .returning, ?_, _, results_none rfl _ _ _, rfl, rfl, rfl⟩
  cases c₀
  simp_all
set_option maxRecDepth 100000 in
set_option maxHeartbeats 2000000 in
theorem mloaded_new (h : MS B w0 w F G db mb lb mp mm D L dir s00 0 false) (hz : D.fuse = none) (hrec : L.records 0 = []) (hfl : (L.m.flatMap (·.2)).length ≤ 1000000) :
    Calls Tryz.prog 22 #[.pointer (some ⟨mm, 0, none⟩), .string ⟨#[]⟩] w fun r w' => r = .returned (.int .i64 0) ∧ MS B w0 w' F G db mb lb mp mm D L dir s01 0 false := by
  have hmf : ∀ (fn : Fn) (first cap : Array Value) (w : World), (Instr.makeFunc fn first cap).run Tryz.prog w = .ok (.func fn first cap) w := fun _ _ _ _ => rfl
  obtain ⟨w1, hw1⟩ : ∃ w1, w.alloc (.cells #[.int .i64 0] 33) = w1 := ⟨_, rfl⟩
  have hb1 : Below w.heap.size w w1 := by rw [← hw1]; exact (Below.refl _ _).alloc (Nat.le_refl _) _
  have c0 : w1.cell? ⟨w.heap.size, 0, none⟩ = some (.int .i64 0) := by rw [← hw1]; simp [go_sem]
  have f0 : w1.frozen? ⟨w.heap.size, 0, none⟩ = false := by rw [← hw1]; simp [go_sem]
  have hL := mload_new (h.stay hb1) hz hrec hfl
  have hml := h.lt
  have hlt := h.ws.d.d.lt
  have hBw := h.ws.d.hz
  have HL := Lib.hid (And.intro hL (And.intro hlt hBw))
  clear hL hb1 h hrec hfl hlt hBw
  go_enter_defers Tryz.func22, Tryz.ntmps22
  go_wp2_with (go_at_call 53; refine HL.out.1.mono ?_; rintro r w2 ⟨rfl, h2, t2⟩; have c2 := t2.cell c0 (show ¬ w.heap.size = mm by omega); have f2 := (t2.frozen (p := ⟨w.heap.size, 0, none⟩) (World.block_lt_of_cell? _ _ c0) (show ¬ w.heap.size = mm by omega)).trans f0; have H2 := Lib.hid h2; clear h2 t2)
  refine leaves_cons (f := 52) (args := #[.pointer (some ⟨w.heap.size, 0, none⟩)]) (by simp) (by simp [go_sem]) ?_
  refine (mloaded_idle _ _).mono ?_
  rintro e u' w'' ⟨rfl, rfl, rfl⟩
  have h5 := H2.out.aside hz (tn_setS (b := w.heap.size) (j := 0) (v := .int .i64 0)) (fun q e => by subst e; exact ⟨fun e => by have := HL.out.2.1 _ e; omega, by omega, HL.out.2.2⟩) ⟨rfl, rfl, rfl⟩
  simp [Leaves, settle, results, Tryz.results22, go_sem, World.cell?_setCell_same _ _ _ c2]
  exact h5
end Go.Proofs.YtjebpppjhkkebaaGreatDoor
/-
  Manifest: Open, on a new disk; what is no directory's name.
-/
set_option linter.unusedSimpArgs false
set_option linter.unusedVariables false
namespace Go.Proofs.YtjebpppjhkkebaaGreatDoor
open Go.RowKit
variable {w w' w0 : World} {F F' G G' H : Nat → Prop} {B db mb lb mp mm k n : Nat} {D D' : Dk} {L L' : Lg} {S : List (Nat × Fl)} {dir dr : ByteArray} {s t : PS} {e : PE} {seq : Int} {stuck : Bool} {v : Value}

theorem MS.made (h : WS B w0 w F G db mb lb mp D L) (dir : ByteArray) : MS B w0 (w.alloc (.cells #[.pointer (some ⟨db, 0, none⟩), .string dir, .pointer (some ⟨lb, 0, none⟩), .slice none 0 0, .int .i64 0, .int .i64 0, .slice none 0 0, .slice none 0 0, .int .i64 0, .bool false] 32)) F G db mb lb mp w.heap.size D L dir s00 0 false := by
  refine ⟨h.stay ((Below.refl _ _).alloc (Nat.le_refl _) _), by simp [go_sem], by simp [go_sem], by simp [go_sem], ⟨.slice none 0 0, .slice none 0 0, .slice none 0 0, by simp [go_sem], by simp [go_sem, s00], by simp [go_sem, s00], by simp [go_sem], by simp [go_sem], .slice none 0 0, .slice none 0 0, .slice none 0 0, rfl, ?_, ?_, ?_⟩, by simp [go_sem], by simp [go_sem], fun j => by simp [go_sem], fun e => by have := h.d.d.lt _ e; omega, h.d.hz⟩
  all_goals exact ⟨none, 0, rfl, Nat.le_refl _, by omega, fun _ => rfl, .inl rfl⟩
abbrev tM : ByteArray := ⟨#[47, 109]⟩
abbrev tSnap : ByteArray := ⟨#[47, 109, 115, 110, 97, 112]⟩
theorem dirN_nm {dir t : ByteArray} (h : nmB dir = true) (hs : dir.size ≤ 30) (ht : t.size ≤ 6) (ho : t.data.toList.all okc = true) : nmB (dir ++ t) = true := by
  obtain ⟨h1, h2, h3⟩ := nm_parts.1 h
  refine nm_parts.2 ⟨by rw [ByteArray.size_append]; omega, by rw [ByteArray.size_append]; omega, ?_⟩
  rw [ByteArray.data_append, Array.toList_append, List.all_append, h3, ho]
  rfl
/-- What Open leaves on a new disk. -/
def OpenedE (B : Nat) (w0 : World) (db mb : Nat) (dir : ByteArray) (r : Ending) (w' : World) : Prop :=
  ∃ F' G lb mp mm, r = .returned (.tuple #[.pointer (some ⟨mm, 0, none⟩), .int .i64 0]) ∧ MS B w0 w' F' G db mb lb mp mm (dkF (dmap (dir ++ tM) [] none) (-1) none 0) (opened (dir ++ tM) 4096 []) dir s01 0 false
set_option maxRecDepth 100000 in
set_option maxHeartbeats 4000000 in
theorem mopen_new (h : DS B w0 w F db mb (dkF [] (-1) none 0)) (hd : nmB dir = true) (hs : dir.size ≤ 30) : Calls Tryz.prog 6 #[.pointer (some ⟨db, 0, none⟩), .string dir] w (OpenedE B w0 db mb dir) := by
  have hdr : nmB (dir ++ tM) = true := dirN_nm hd hs (by decide) (by decide)
  have hd40 : (dir ++ tM).size ≤ 40 := by rw [ByteArray.size_append]; show dir.size + 2 ≤ 40; omega
  have hsn : nmB (dir ++ tSnap) = true := dirN_nm hd hs (by decide) (by decide)
  have hn := name_any dir w (by omega)
  rw [hd] at hn
  have b0 : ¬ (30 : Int) < (dir.size : Int) := by omega
  have b1 : ¬ 9223372036854775807 < dir.size + 2 := by omega
  have b2 : ¬ 9223372036854775807 < dir.size + 6 := by omega
  have hread : (dkF (dmap (dir ++ tM) [] none) (-1) none 0).read (dir ++ tSnap) = (⟨#[]⟩, 22) := by
    unfold Dk.read Dk.asked
    have h1 : [dir ++ tSnap].all nmB = true := by simp [hsn]
    rw [if_neg (by rw [if_neg (by simp [dkF]), if_pos h1]; decide)]
    rfl
  have hrec : (opened (dir ++ tM) 4096 []).records 0 = [] := rfl
  have hfl : ((opened (dir ++ tM) 4096 []).m.flatMap (·.2)).length ≤ 1000000 := by show 0 ≤ _; omega
  have hz6 : (dir ++ tSnap).size ≤ 140737488351232 := by rw [ByteArray.size_append]; show dir.size + 6 ≤ _; omega
  have HH := Lib.hid (And.intro h (And.intro hn (And.intro hdr (And.intro hd40 (And.intro hread (And.intro hrec (And.intro hfl hz6)))))))
  clear h hn hdr hd40 hread hrec hfl hz6 hsn hd
  go_enter Tryz.func6, Tryz.ntmps6
  go_wp2_with (first
    | (go_at_call 22; refine (mloaded_new H6.out rfl HH.out.2.2.2.2.2.1 HH.out.2.2.2.2.2.2.1).mono ?_; rintro r w7 ⟨rfl, h7⟩; have H7 := Lib.hid h7; clear h7)
    | (go_at_call 21; refine (read_any H5.out.ws.d.d rfl (dir ++ tSnap) HH.out.2.2.2.2.2.2.2).mono ?_; rw [HH.out.2.2.2.2.1]; rintro r w6 ⟨rfl, hb6⟩; have H6 := Lib.hid (H5.out.stay hb6); clear hb6)
    | (go_at_call 20; refine (clone_any _ dir (by omega)).mono ?_; rintro r w4 ⟨rfl, hb4⟩; obtain ⟨w5, hw5⟩ : ∃ w5, w4.alloc (.cells #[.pointer (some ⟨db, 0, none⟩), .string dir, .pointer (some ⟨lb, 0, none⟩), .slice none 0 0, .int .i64 0, .int .i64 0, .slice none 0 0, .slice none 0 0, .int .i64 0, .bool false] 32) = w5 := ⟨_, rfl⟩; have h5 := MS.made (H3.out.stay hb4) dir; rw [hw5] at h5; have H5 := Lib.hid h5; clear h5 hb4)
    | (go_at_call 19; refine (c_open_good (dir := dir ++ tM) (S := []) (M := none) (size := 4096) H2.out HH.out.2.2.1 HH.out.2.2.2.1 Rise.nil (fun p hp => by simp at hp) (by decide) (by decide) (by decide) (by decide)).mono ?_; rintro r w3 ⟨F3, lb, mp, G3, rfl, h3, _⟩; have H3 := Lib.hid h3; clear h3)
    | (go_at_call 18; refine HH.out.2.1.mono ?_; rintro r w2 ⟨rfl, hb2⟩; have h2 := HH.out.1.stay hb2; have H2 := Lib.hid h2; clear h2 hb2))
  go_ret2
  exact ⟨F3, G3, lb, mp, w4.heap.size, rfl, H7.out⟩
theorem mopen_nil (dir : ByteArray) (w : World) : Calls Tryz.prog 6 #[.pointer none, .string dir] w fun r w' => r = .returned (.tuple #[.pointer none, .int .i64 1]) ∧ w = w' := by
  go_enter Tryz.func6, Tryz.ntmps6
  go_wp2
  go_ret2
  exact ⟨rfl, rfl⟩
theorem mopen_bad (db : Nat) (dir : ByteArray) (hz : dir.size ≤ 9223372036854775807) (hb : ¬ (dir.size ≤ 30 ∧ nmB dir = true)) (w : World) : Calls Tryz.prog 6 #[.pointer (some ⟨db, 0, none⟩), .string dir] w fun r w' => r = .returned (.tuple #[.pointer none, .int .i64 1]) ∧ Below w.heap.size w w' := by
  by_cases h30 : dir.size ≤ 30
  · have hd : nmB dir = false := by
      cases h : nmB dir with
      | true => exact absurd ⟨h30, h⟩ hb
      | false => rfl
    have hn := name_any dir w hz
    rw [hd] at hn
    have b0 : ¬ (30 : Int) < (dir.size : Int) := by omega
    have HN := Lib.hid hn
    clear hn hb hd
    go_enter Tryz.func6, Tryz.ntmps6
    go_wp2_with (go_at_call 18; refine HN.out.mono ?_; rintro r w2 ⟨rfl, hb2⟩; have H2 := Lib.hid hb2; clear hb2)
    go_ret2
    exact ⟨rfl, H2.out⟩
  · have b0 : (30 : Int) < (dir.size : Int) := by omega
    clear hb
    go_enter Tryz.func6, Tryz.ntmps6
    go_wp2
    go_ret2
    exact ⟨rfl, Below.refl _ _⟩
end Go.Proofs.YtjebpppjhkkebaaGreatDoor
