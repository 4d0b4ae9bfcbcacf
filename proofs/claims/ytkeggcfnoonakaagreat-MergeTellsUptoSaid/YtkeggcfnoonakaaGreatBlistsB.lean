/-
  Book: the kind Lists: one list more.
-/
import Derived.Test.YtkeggcfnoonakaaGreatBlists
import Derived.Test.YtkeggcfnoonakaaGreatBk2
import Derived.Test.YtkeggcfnoonakaaGreatHold
set_option linter.unusedSimpArgs false
set_option linter.unusedVariables false
namespace Go.Proofs.YtkeggcfnoonakaaGreat
open Go.RowKit

theorem src_slt (w : World) (s : Sl) (t : TypeId) : Src kListsS (w.alloc (.cells #[s.val] t)) (.slice (some ⟨w.heap.size, 0, none⟩) 1 1) [s] := src_one w s _ _ rfl 1

set_option maxRecDepth 100000 in
set_option maxHeartbeats 1000000 in
theorem add_Lists {w : World} {bk B : Nat} {vo vw : Value} {S Sw : List (Sl × List LK)} (h : KdL kLists kListsS w bk 28 B vo vw S Sw) {s : Sl} {l : List LK} (hs : Own kLists w B s.val l) (hne : ∀ q, s.val.ownBlock = some q → ¬ footL vo S q ∧ ¬ footL vw Sw q) (hS : S.length < 250) (hB : B ≤ w.heap.size) (hl : l.length ≤ 100000) (hv : ∀ x ∈ l, InK (fun q => q = bk ∨ vo.ownBlock = some q) w x) (hl1 : ∀ y ∈ l, y.2.length ≤ 100000) :
    Calls Tryz.prog 18 #[.pointer (some ⟨bk, 0, none⟩), s.val] w fun e w' => e = .returned (.tuple #[]) ∧ ∃ vo' vw' s2 l2, AddedL kLists kListsS w w' bk 28 B vo vw S Sw s l vo' vw' s2 l2 ∧ ∀ y ∈ l2, Own eKV w' w.heap.size y.1.val y.2 ∧ ∀ q, y.1.val.ownBlock = some q → vo'.ownBlock ≠ some q ∧ vw'.ownBlock ≠ some q := by
  obtain ⟨ao, co, rfl⟩ := h.l.form
  obtain ⟨aw, cw, rfl⟩ := h.lw.form
  have hlen : Sw.length = S.length := by have := congrArg List.length h.same; simpa using this
  obtain ⟨n, hn⟩ : ∃ n, n = S.length := ⟨_, rfl⟩
  rw [hlen, ← hn] at h hne ⊢
  have H := Lib.hid h
  have HS := Lib.hid hs
  have HN := Lib.hid (And.intro hn hlen)
  have HNE := Lib.hid hne
  rw [← hn] at hv
  have HV := Lib.hid (And.intro hv hl1)
  clear hv hl1
  have c0 := h.c0
  have c1 := h.c1
  have f0 := h.free 28
  have f1 := h.free 29
  rw [← hn] at hS
  have t1 : (n : Int) < 250 := by omega
  have hbk : bk < w.heap.size := World.block_lt_of_cell? _ _ h.c0
  have hbkB := h.bk0
  clear h hs hn hlen hne
  go_enter Tryz.func18, Tryz.ntmps18
  obtain ⟨sa, hsa⟩ : ∃ sa, s.a = sa := ⟨_, rfl⟩
  obtain ⟨sn, hsn⟩ : ∃ sn, s.n = sn := ⟨_, rfl⟩
  obtain ⟨sc, hsc⟩ : ∃ sc, s.cap = sc := ⟨_, rfl⟩
  have hsv : s.val = .slice sa sn sc := by unfold Sl.val; rw [hsa, hsn, hsc]
  have HSV := Lib.hid hsv
  rw [hsv]
  clear hsv hsa hsn hsc
  obtain ⟨W1, hW1⟩ : ∃ W1, w.alloc (.cells #[.slice sa sn sc] 22) = W1 := ⟨_, rfl⟩
  have hsrc : Src kListsS W1 (.slice (some ⟨w.heap.size, 0, none⟩) 1 1) [s] := by rw [← hW1, ← HSV.out]; exact src_slt w s _
  have hb1 : Below w.heap.size w W1 := by rw [← hW1]; exact (Below.refl _ _).alloc (Nat.le_refl _) _
  have ho1 : Own kListsS W1 B (.slice ao n co) (S.map (·.1)) := row_below H.out.l.outer hb1
  have hml : (S.map (·.1)).length = n := by rw [List.length_map, HN.out.1]
  have H1 := Lib.hid (And.intro ho1 (And.intro hsrc (And.intro hb1 hml)))
  have k0 : W1.cell? ⟨bk, 28, none⟩ = some (.slice ao n co) := (hb1.cell (p := ⟨bk, 28, none⟩) hbk).trans c0
  clear hsrc ho1 hb1 hml
  go_wp2_with (at_builtin; go_loud (refine wpl_app2 kListsS rfl _ _ rfl rfl rfl H1.out.1 H1.out.2.1 (by rw [H1.out.2.2.2]; simp; omega) (Nat.le_trans hB H1.out.2.2.1.size) ?_); go_loud (rw [H1.out.2.2.2]; intro a3 cap3 w3 hap; have hap2 : Appd kListsS W1 w3 B (.slice ao n co) (.slice a3 (n + 1) cap3) (S.map (·.1)) [s] := hap; have HAP := Lib.hid hap2; have g0 := hap.tn.cell k0 (fun e => absurd ((H1.out.1.lt bk e).1) (by omega)); have g1 := (hap.tn.frozen (p := ⟨bk, 28, none⟩) (World.block_lt_of_cell? _ _ k0) (fun e => absurd ((H1.out.1.lt bk e).1) (by omega))).trans ((H1.out.2.2.1.frozen (p := ⟨bk, 28, none⟩) hbk).trans f0); clear hap hap2))
  have HM := Lib.hid (add_midL H.out HS.out HNE.out H1.out.2.2.1 HAP.out)
  obtain ⟨w4, hw4⟩ : ∃ w4, w3.setCell ⟨bk, 28, none⟩ (.slice a3 (n + 1) cap3) = w4 := ⟨_, rfl⟩
  rw [hw4] at HM
  rw [hw4]
  clear hw4 g0 g1 k0 hW1
  have kd1 : w4.drew.cell? ⟨bk, 29, none⟩ = some (.slice aw n cw) := HM.out.c1
  refine wp_region_K (fun w' => w'.cell? ⟨bk, 29, none⟩ = some (.slice aw n cw)) 11 12 (by kernel_rfl) (by kernel_rfl) kd1 (fun hH => ?_)
  refine wpAnyK_take (i := 0) [11] (v := ?v1) rfl (by kernel_rfl) (by kernel_rfl) (by kernel_rfl) (by kernel_rfl) (fun _ _ _ h => h) (Or.inl ⟨by rfl, ?hy1⟩) hH ?rest1
  case hy1 => (intro w hSw; (try dsimp only at hSw); go_simp; with_reducible rfl)
  try simp only [Act.put, List.setIfInBounds_toArray, List.set_cons_zero, List.set_cons_succ]
  refine wpAnyK_take (i := 1) [11] (v := ?v2) rfl (by kernel_rfl) (by kernel_rfl) (by kernel_rfl) (by kernel_rfl) (fun _ _ _ h => h) (Or.inl ⟨by rfl, ?hy2⟩) hH ?rest2
  case hy2 => (intro w hSw; (try dsimp only at hSw); go_simp; with_reducible rfl)
  try simp only [Act.put, List.setIfInBounds_toArray, List.set_cons_zero, List.set_cons_succ]
  refine wpAnyK_take (i := 2) [11] (v := ?v3) rfl (by kernel_rfl) (by kernel_rfl) (by kernel_rfl) (by kernel_rfl) (fun _ _ _ h => h) (Or.inl ⟨by rfl, ?hy3⟩) hH ?rest3
  case hy3 => (intro w hSw; (try dsimp only at hSw); go_simp; with_reducible rfl)
  try simp only [Act.put, List.setIfInBounds_toArray, List.set_cons_zero, List.set_cons_succ]
  refine wpAnyK_take (i := 3) [11] (v := ?v4) rfl (by kernel_rfl) (by kernel_rfl) (by kernel_rfl) (by kernel_rfl) (fun _ _ _ h => h) (Or.inl ⟨by rfl, ?hy4⟩) hH ?rest4
  case hy4 => (intro w hSw; (try dsimp only at hSw); go_simp; with_reducible rfl)
  try simp only [Act.put, List.setIfInBounds_toArray, List.set_cons_zero, List.set_cons_succ]
  refine wpAnyK_take (i := 4) [11] (v := ?v5) rfl (by kernel_rfl) (by kernel_rfl) (by kernel_rfl) (by kernel_rfl) (fun _ _ _ h => h) (Or.inl ⟨by rfl, ?hy5⟩) hH ?rest5
  case hy5 => (intro w hSw; (try dsimp only at hSw); go_simp; with_reducible rfl)
  try simp only [Act.put, List.setIfInBounds_toArray, List.set_cons_zero, List.set_cons_succ]
  refine wpAnyK_take (i := 5) [11] (v := ?v6) rfl (by kernel_rfl) (by kernel_rfl) (by kernel_rfl) (by kernel_rfl) (fun _ _ _ h => h) (Or.inl ⟨by rfl, ?hy6⟩) hH ?rest6
  case hy6 => (intro w hSw; (try dsimp only at hSw); go_simp; with_reducible rfl)
  try simp only [Act.put, List.setIfInBounds_toArray, List.set_cons_zero, List.set_cons_succ]
  refine wpAnyK_one (i := 6) (by kernel_rfl) rfl (fun K hK => ?_) (by kernel_rfl)
  go_simp
  go_at_call 27
  refine (copy_Lists (w := w4.drew) (x := .slice sa sn sc) (l := l) (by rw [← HSV.out]; exact HM.out.hs.src) (fun y hy => by obtain ⟨B2, h2, _⟩ := (HV.out.1 y hy).tn HM.out.tnO (fun q e => e); exact ⟨B2, h2⟩) HV.out.2 (by omega)).mono ?_
  rintro e w5 ⟨s2, l2, rfl, ho5, hcr, hvc, hb5⟩
  have kd2 := (hb5.cell (p := ⟨bk, 29, none⟩) (World.block_lt_of_cell? _ _ kd1)).trans kd1
  have H5 := Lib.hid (And.intro ho5 hb5)
  have HCR := Lib.hid (And.intro hcr hvc)
  clear hcr hvc
  clear ho5 hb5
  refine hK.out _ _ kd2 (fun hH => ?_)
  clear hK K
  try simp only [Act.put, List.setIfInBounds_toArray, List.set_cons_zero, List.set_cons_succ]
  obtain ⟨sb, hsb⟩ : ∃ sb, s2.a = sb := ⟨_, rfl⟩
  obtain ⟨sm, hsm⟩ : ∃ sm, s2.n = sm := ⟨_, rfl⟩
  obtain ⟨sd, hsd⟩ : ∃ sd, s2.cap = sd := ⟨_, rfl⟩
  have hsv2 : s2.val = .slice sb sm sd := by unfold Sl.val; rw [hsb, hsm, hsd]
  have HSV2 := Lib.hid hsv2
  rw [hsv2]
  clear hsv2 hsb hsm hsd
  refine wpAnyK_one (i := 7) (by kernel_rfl) rfl (fun K hK => ?_) (by kernel_rfl)
  go_simp
  obtain ⟨w6, hw6⟩ : ∃ w6, w6 = w5.alloc (.cells #[.slice sb sm sd] 22) := ⟨_, rfl⟩
  have hb6 : Below w5.heap.size w5 w6 := by rw [hw6]; exact (Below.refl _ _).alloc (Nat.le_refl _) _
  have hsrc6 : Src kListsS w6 (.slice (some ⟨w5.heap.size, 0, none⟩) 1 1) [s2] := by rw [hw6, ← HSV2.out]; exact src_slt w5 s2 _
  rw [← hw6]
  clear hw6
  have kd3 := (hb6.cell (p := ⟨bk, 29, none⟩) (World.block_lt_of_cell? _ _ kd2)).trans kd2
  have hb46 : Below w4.heap.size w4 w6 := ((Below.refl _ _).drew.trans H5.out.2).trans (hb6.mono H5.out.2.size)
  have hown6 : Own kListsS w6 B (.slice aw n cw) (Sw.map (·.1)) := row_below HM.out.lw.outer hb46
  have H6 := Lib.hid (And.intro hb6 (And.intro hsrc6 (And.intro hown6 hb46)))
  clear hb6 hsrc6 hown6 hb46
  refine hK.out _ _ kd3 (fun hH => ?_)
  clear hK K
  try simp only [Act.put, List.setIfInBounds_toArray, List.set_cons_zero, List.set_cons_succ]
  have hml2 : (Sw.map (·.1)).length = n := by rw [List.length_map, HN.out.2, HN.out.1]
  refine wpAnyK_one (i := 8) (by kernel_rfl) rfl (fun K hK => ?_) (by kernel_rfl)
  refine step_app2 kListsS rfl _ _ rfl rfl rfl H6.out.2.2.1 H6.out.2.1 (by rw [hml2]; simp; omega) (Nat.le_trans hB (Nat.le_trans HM.out.tn.size H6.out.2.2.2.size)) ?_
  rw [hml2]
  intro a7 cap7 w7 hap7'
  have hap7 : Appd kListsS w6 w7 B (.slice aw n cw) (.slice a7 (n + 1) cap7) (Sw.map (·.1)) [s2] := hap7'
  have HAP7 := Lib.hid hap7
  have kd4 := hap7.tn.cell kd3 (fun e => absurd ((H6.out.2.2.1.lt bk e).1) (by omega))
  have hf7 : w7.frozen? ⟨bk, 29, none⟩ = false := (hap7.tn.frozen (p := ⟨bk, 29, none⟩) (World.block_lt_of_cell? _ _ kd3) (fun e => absurd ((H6.out.2.2.1.lt bk e).1) (by omega))).trans ((H6.out.2.2.2.frozen (p := ⟨bk, 29, none⟩) (World.block_lt_of_cell? _ _ HM.out.c1)).trans (HM.out.free 29))
  clear hap7 hap7'
  refine hK.out _ _ kd4 (fun hH => ?_)
  clear hK K
  try simp only [Act.put, List.setIfInBounds_toArray, List.set_cons_zero, List.set_cons_succ]
  refine wpAnyK_take (i := 9) [10, 11] (v := ?v7) rfl (by kernel_rfl) (by kernel_rfl) (by kernel_rfl) (by kernel_rfl) (fun _ _ _ h => h) (Or.inl ⟨by rfl, ?hy7⟩) hH ?rest7
  case hy7 => (intro w hSw; (try dsimp only at hSw); go_simp; with_reducible rfl)
  try simp only [Act.put, List.setIfInBounds_toArray, List.set_cons_zero, List.set_cons_succ]
  refine wpAnyK_take (i := 10) [11] (v := ?v8) rfl (by kernel_rfl) (by kernel_rfl) (by kernel_rfl) (by kernel_rfl) (fun _ _ _ h => h) (Or.inl ⟨by rfl, ?hy8⟩) hH ?rest8
  case hy8 => (intro w hSw; (try dsimp only at hSw); go_simp; with_reducible rfl)
  try simp only [Act.put, List.setIfInBounds_toArray, List.set_cons_zero, List.set_cons_succ]
  refine wpAnyK_last (by kernel_rfl) rfl (fun K hK => ?_) (by kernel_rfl)
  go_simp
  refine hK.out _ _ (wpAnyK_done (by kernel_rfl) ?_ _)
  clear hK K hH
  have hfin := Lib.hid (add_endL HCR.out.1 HM.out hB H5.out.1 ((Below.refl _ _).drew.trans H5.out.2) H6.out.1 HAP7.out)
  clear kd4 kd3 kd2 kd1 hml2 hf7
  go_wp2_with fail
  go_end0
  refine ⟨rfl, _, _, _, _, hfin.out, fun y hy => ?_⟩
  have h1 := HCR.out.2 y hy
  have h2 := row_below h1 H6.out.1
  have hwz : w.heap.size ≤ w4.heap.size := HM.out.tn.size
  have h3 := HAP7.out.tn.row h2 (fun q hq e => by have := (h1.lt q hq).1; have := (HM.out.lw.outer.lt q e).2; have : w4.drew.heap.size = w4.heap.size := rfl; omega)
  refine ⟨row_mono ((Tn.setCell (F := fun q => q = bk) w7 ⟨bk, 29, none⟩ _ rfl).row h3 (fun q hq e => by have := (h1.lt q hq).1; have : w4.drew.heap.size = w4.heap.size := rfl; omega)) hwz, fun q hq => ⟨fun e => ?_, fun e => ?_⟩⟩
  · have := (h1.lt q hq).1
    have := (HM.out.ls.outer.lt q e).2
    have : w4.drew.heap.size = w4.heap.size := rfl
    omega
  · have h5 := h1.lt q hq
    have h6 : w4.drew.heap.size = w4.heap.size := rfl
    rcases HAP7.out.block with hb | hb
    · rw [hb] at e
      have := (HM.out.lw.outer.lt q e).2
      omega
    · have := hb q e
      have := H6.out.1.size
      omega
end Go.Proofs.YtkeggcfnoonakaaGreat
