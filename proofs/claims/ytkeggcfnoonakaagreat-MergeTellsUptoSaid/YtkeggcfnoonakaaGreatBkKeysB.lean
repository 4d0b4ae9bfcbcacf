
/-
  Book: the kind Keys: one list more.
-/
import Derived.Test.YtkeggcfnoonakaaGreatBkKeys
import Derived.Test.YtkeggcfnoonakaaGreatBk2
import Derived.Test.YtkeggcfnoonakaaGreatHold
set_option linter.unusedSimpArgs false
set_option linter.unusedVariables false
namespace Go.Proofs.YtkeggcfnoonakaaGreat
open Go.RowKit

theorem src_slk (w : World) (s : Sl) (t : TypeId) : Src eSl (w.alloc (.cells #[s.val] t)) (.slice (some ⟨w.heap.size, 0, none⟩) 1 1) [s] := src_one w s _ _ rfl 1

set_option maxRecDepth 100000 in
set_option maxHeartbeats 100000 in
theorem add_Keys {w : World} {bk B : Nat} {vo vw : Value} {S Sw : List (Sl × List KV)} (h : Kd eKV eSl w bk 6 B vo vw S Sw) {s : Sl} {l : List KV} (hs : Own eKV w B s.val l) (hne : ∀ q, s.val.ownBlock = some q → ¬ footL vo S q ∧ ¬ footL vw Sw q) (hS : S.length < 250) (hB : B ≤ w.heap.size) (hl : l.length ≤ 100000) :
    Calls Tryz.prog 17 #[.pointer (some ⟨bk, 0, none⟩), s.val] w fun e w' => e = .returned (.tuple #[]) ∧ ∃ vo' vw' s2, Added eKV eSl w w' bk 6 B vo vw S Sw s l vo' vw' s2 := by
  obtain ⟨ao, co, rfl⟩ := h.l.form
  obtain ⟨aw, cw, rfl⟩ := h.lw.form
  have hlen : Sw.length = S.length := by have := congrArg List.length h.same; simpa using this
  obtain ⟨n, hn⟩ : ∃ n, n = S.length := ⟨_, rfl⟩
  rw [hlen, ← hn] at h hne ⊢
  have H := Lib.hid h
  have HS := Lib.hid hs
  have HN := Lib.hid (And.intro hn hlen)
  have HNE := Lib.hid hne
  have c0 := h.c0
  have c1 := h.c1
  have f0 := h.free 6
  have f1 := h.free 7
  rw [← hn] at hS
  have t1 : (n : Int) < 250 := by omega
  have hbk : bk < w.heap.size := World.block_lt_of_cell? _ _ h.c0
  have hbkB := h.bk0
  clear h hs hn hlen hne
  go_enter Tryz.func17, Tryz.ntmps17
  obtain ⟨sa, hsa⟩ : ∃ sa, s.a = sa := ⟨_, rfl⟩
  obtain ⟨sn, hsn⟩ : ∃ sn, s.n = sn := ⟨_, rfl⟩
  obtain ⟨sc, hsc⟩ : ∃ sc, s.cap = sc := ⟨_, rfl⟩
  have hsv : s.val = .slice sa sn sc := by unfold Sl.val; rw [hsa, hsn, hsc]
  have HSV := Lib.hid hsv
  rw [hsv]
  clear hsv hsa hsn hsc
  obtain ⟨W1, hW1⟩ : ∃ W1, w.alloc (.cells #[.slice sa sn sc] 23) = W1 := ⟨_, rfl⟩
  have hsrc : Src eSl W1 (.slice (some ⟨w.heap.size, 0, none⟩) 1 1) [s] := by rw [← hW1, ← HSV.out]; exact src_slk w s _
  have hb1 : Below w.heap.size w W1 := by rw [← hW1]; exact (Below.refl _ _).alloc (Nat.le_refl _) _
  have ho1 : Own eSl W1 B (.slice ao n co) (S.map (·.1)) := row_below H.out.l.outer hb1
  have hml : (S.map (·.1)).length = n := by rw [List.length_map, HN.out.1]
  have H1 := Lib.hid (And.intro ho1 (And.intro hsrc (And.intro hb1 hml)))
  have k0 : W1.cell? ⟨bk, 6, none⟩ = some (.slice ao n co) := (hb1.cell (p := ⟨bk, 6, none⟩) hbk).trans c0
  clear hsrc ho1 hb1 hml
  go_wp2_with (at_builtin; go_loud (refine wpl_app2 eSl rfl _ _ rfl rfl rfl H1.out.1 H1.out.2.1 (by rw [H1.out.2.2.2]; simp; omega) (Nat.le_trans hB H1.out.2.2.1.size) ?_); go_loud (rw [H1.out.2.2.2]; intro a3 cap3 w3 hap; have hap2 : Appd eSl W1 w3 B (.slice ao n co) (.slice a3 (n + 1) cap3) (S.map (·.1)) [s] := hap; have HAP := Lib.hid hap2; have g0 := hap.tn.cell k0 (fun e => absurd ((H1.out.1.lt bk e).1) (by omega)); have g1 := (hap.tn.frozen (p := ⟨bk, 6, none⟩) (World.block_lt_of_cell? _ _ k0) (fun e => absurd ((H1.out.1.lt bk e).1) (by omega))).trans ((H1.out.2.2.1.frozen (p := ⟨bk, 6, none⟩) hbk).trans f0); clear hap hap2))
  have HM := Lib.hid (add_mid H.out HS.out HNE.out H1.out.2.2.1 HAP.out)
  obtain ⟨w4, hw4⟩ : ∃ w4, w3.setCell ⟨bk, 6, none⟩ (.slice a3 (n + 1) cap3) = w4 := ⟨_, rfl⟩
  rw [hw4] at HM
  rw [hw4]
  clear hw4 g0 g1 k0 hW1
  have kd1 : w4.drew.cell? ⟨bk, 7, none⟩ = some (.slice aw n cw) := HM.out.c1
  refine wp_region_K (fun w' => w'.cell? ⟨bk, 7, none⟩ = some (.slice aw n cw)) 11 12 (by kernel_rfl) (by kernel_rfl) kd1 (fun hH => ?_)
  refine wpAnyK_take (i := 0) [11] (v := ?v1) rfl (by kernel_rfl) (by kernel_rfl) (by kernel_rfl) (by kernel_rfl) (fun _ _ _ h => h) (Or.inl ⟨by rfl, ?hy1⟩) hH ?rest1
  case hy1 => (intro w hSw; (try dsimp only at hSw); go_simp; with_reducible rfl)
  try simp only [Act.put, List.setIfInBounds_toArray, List.set_cons_zero, List.set_cons_succ]
  refine wpAnyK_take (i := 1) [11] (v := ?v2) rfl (by kernel_rfl) (by kernel_rfl) (by kernel_rfl) (by kernel_rfl) (fun _ _ _ h => h) (Or.inl ⟨by rfl, ?hy2⟩) hH ?rest2
  case hy2 => (intro w hSw; (try dsimp only at hSw); go_simp; with_reducible rfl)
  try simp only [Act.put, List.setIfInBounds_toArray, List.set_cons_zero, List.set_cons_succ]
  refine wpAnyK_take (i := 2) [11] (v := ?v3) rfl (by kernel_rfl) (by kernel_rfl) (by kernel_rfl) (by kernel_rfl) (fun _ _ _ h => h) (Or.inl ⟨by rfl, ?hy3⟩) hH ?rest3
  case hy3 => (intro w hSw; (try dsimp only at hSw); go_simp; with_reducible rfl)
  try simp only [Act.put, List.setIfInBounds_toArray, List.set_cons_zero, List.set_cons_succ]
  refine wpAnyK_take (i := 3) [11] (v := ?v4) rfl (by kernel_rfl) (by kernel_rfl) (by kernel_rfl) (by kernel_rfl) (fun _ _ _ h => h) (Or.inl ⟨by rfl, ?hy4⟩) hH ?rest4
  case hy4 => (intro w hSw; (try dsimp only at hSw); go_simp; with_reducible rfl)
  try simp only [Act.put, List.setIfInBounds_toArray, List.set_cons_zero, List.set_cons_succ]
  refine wpAnyK_take (i := 4) [11] (v := ?v5) rfl (by kernel_rfl) (by kernel_rfl) (by kernel_rfl) (by kernel_rfl) (fun _ _ _ h => h) (Or.inl ⟨by rfl, ?hy5⟩) hH ?rest5
  case hy5 => (intro w hSw; (try dsimp only at hSw); go_simp; with_reducible rfl)
  try simp only [Act.put, List.setIfInBounds_toArray, List.set_cons_zero, List.set_cons_succ]
  refine wpAnyK_take (i := 5) [11] (v := ?v6) rfl (by kernel_rfl) (by kernel_rfl) (by kernel_rfl) (by kernel_rfl) (fun _ _ _ h => h) (Or.inl ⟨by rfl, ?hy6⟩) hH ?rest6
  case hy6 => (intro w hSw; (try dsimp only at hSw); go_simp; with_reducible rfl)
  try simp only [Act.put, List.setIfInBounds_toArray, List.set_cons_zero, List.set_cons_succ]
  refine wpAnyK_one (i := 6) (by kernel_rfl) rfl (fun K hK => ?_) (by kernel_rfl)
  go_simp
  go_at_call 26
  refine (copy_Keys (l := l) (by rw [← HSV.out]; exact HM.out.hs.src) (by omega)).mono ?_
  rintro e w5 ⟨s2, rfl, ho5, hb5⟩
  have kd2 := (hb5.cell (p := ⟨bk, 7, none⟩) (World.block_lt_of_cell? _ _ kd1)).trans kd1
  have H5 := Lib.hid (And.intro ho5 hb5)
  clear ho5 hb5
  refine hK.out _ _ kd2 (fun hH => ?_)
  clear hK K
  try simp only [Act.put, List.setIfInBounds_toArray, List.set_cons_zero, List.set_cons_succ]
  obtain ⟨sb, hsb⟩ : ∃ sb, s2.a = sb := ⟨_, rfl⟩
  obtain ⟨sm, hsm⟩ : ∃ sm, s2.n = sm := ⟨_, rfl⟩
  obtain ⟨sd, hsd⟩ : ∃ sd, s2.cap = sd := ⟨_, rfl⟩
  have hsv2 : s2.val = .slice sb sm sd := by unfold Sl.val; rw [hsb, hsm, hsd]
  have HSV2 := Lib.hid hsv2
  rw [hsv2]
  clear hsv2 hsb hsm hsd
  refine wpAnyK_one (i := 7) (by kernel_rfl) rfl (fun K hK => ?_) (by kernel_rfl)
  go_simp
  obtain ⟨w6, hw6⟩ : ∃ w6, w6 = w5.alloc (.cells #[.slice sb sm sd] 23) := ⟨_, rfl⟩
  have hb6 : Below w5.heap.size w5 w6 := by rw [hw6]; exact (Below.refl _ _).alloc (Nat.le_refl _) _
  have hsrc6 : Src eSl w6 (.slice (some ⟨w5.heap.size, 0, none⟩) 1 1) [s2] := by rw [hw6, ← HSV2.out]; exact src_slk w5 s2 _
  rw [← hw6]
  clear hw6
  have kd3 := (hb6.cell (p := ⟨bk, 7, none⟩) (World.block_lt_of_cell? _ _ kd2)).trans kd2
  have hb46 : Below w4.heap.size w4 w6 := ((Below.refl _ _).drew.trans H5.out.2).trans (hb6.mono H5.out.2.size)
  have hown6 : Own eSl w6 B (.slice aw n cw) (Sw.map (·.1)) := row_below HM.out.lw.outer hb46
  have H6 := Lib.hid (And.intro hb6 (And.intro hsrc6 (And.intro hown6 hb46)))
  clear hb6 hsrc6 hown6 hb46
  refine hK.out _ _ kd3 (fun hH => ?_)
  clear hK K
  try simp only [Act.put, List.setIfInBounds_toArray, List.set_cons_zero, List.set_cons_succ]
  have hml2 : (Sw.map (·.1)).length = n := by rw [List.length_map, HN.out.2, HN.out.1]
  refine wpAnyK_one (i := 8) (by kernel_rfl) rfl (fun K hK => ?_) (by kernel_rfl)
  refine step_app2 eSl rfl _ _ rfl rfl rfl H6.out.2.2.1 H6.out.2.1 (by rw [hml2]; simp; omega) (Nat.le_trans hB (Nat.le_trans HM.out.tn.size H6.out.2.2.2.size)) ?_
  rw [hml2]
  intro a7 cap7 w7 hap7'
  have hap7 : Appd eSl w6 w7 B (.slice aw n cw) (.slice a7 (n + 1) cap7) (Sw.map (·.1)) [s2] := hap7'
  have HAP7 := Lib.hid hap7
  have kd4 := hap7.tn.cell kd3 (fun e => absurd ((H6.out.2.2.1.lt bk e).1) (by omega))
  have hf7 : w7.frozen? ⟨bk, 7, none⟩ = false := (hap7.tn.frozen (p := ⟨bk, 7, none⟩) (World.block_lt_of_cell? _ _ kd3) (fun e => absurd ((H6.out.2.2.1.lt bk e).1) (by omega))).trans ((H6.out.2.2.2.frozen (p := ⟨bk, 7, none⟩) (World.block_lt_of_cell? _ _ HM.out.c1)).trans (HM.out.free 7))
  clear hap7 hap7'
  refine hK.out _ _ kd4 (fun hH => ?_)
  clear hK K
  try simp only [Act.put, List.setIfInBounds_toArray, List.set_cons_zero, List.set_cons_succ]
  refine wpAnyK_take (i := 9) [10, 11] (v := ?v7) rfl (by kernel_rfl) (by kernel_rfl) (by kernel_rfl) (by kernel_rfl) (fun _ _ _ h => h) (Or.inl ⟨by rfl, ?hy7⟩) hH ?rest7
  case hy7 => (intro w hSw; (try dsimp only at hSw); go_simp; with_reducible rfl)
  try simp only [Act.put, List.setIfInBounds_toArray, List.set_cons_zero, List.set_cons_succ]
  refine wpAnyK_take (i := 10) [11] (v := ?v8) rfl (by kernel_rfl) (by kernel_rfl) (by kernel_rfl) (by kernel_rfl) (fun _ _ _ h => h) (Or.inl ⟨by rfl, ?hy8⟩) hH ?rest8
  case hy8 => (intro w hSw; (try dsimp only at hSw); go_simp; with_reducible rfl)
  try simp only [Act.put, List.setIfInBounds_toArray, List.set_cons_zero, List.set_cons_succ]
  refine wpAnyK_last (by kernel_rfl) rfl (fun K hK => ?_) (by kernel_rfl)
  go_simp
  refine hK.out _ _ (wpAnyK_done (by kernel_rfl) ?_ _)
  clear hK K hH
  have hfin := Lib.hid (add_end HM.out hB H5.out.1 ((Below.refl _ _).drew.trans H5.out.2) H6.out.1 HAP7.out)
  clear kd4 kd3 kd2 kd1 hml2 hf7
  go_wp2_with fail
  go_end0
  exact ⟨rfl, _, _, _, hfin.out⟩
end Go.Proofs.YtkeggcfnoonakaaGreat
