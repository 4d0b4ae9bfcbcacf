
/-
  Book: the kind Keys: lists are grown; are all marked?
-/
import Derived.Test.YtkeggcfnoonakaaGreatBkKeysD
import Derived.Test.YtkeggcfnoonakaaGreatBkKeysB
import Derived.Test.YtkeggcfnoonakaaGreatBk4
set_option linter.unusedSimpArgs false
set_option linter.unusedVariables false
namespace Go.Proofs.YtkeggcfnoonakaaGreat
open Go.RowKit

set_option maxRecDepth 100000 in
set_option maxHeartbeats 2000000 in
theorem grow_Keys {w : World} {bk B : Nat} {vo : Value} {S : List (Sl × List KV)} (hc : w.cell? ⟨bk, 6, none⟩ = some vo) (hbk : bk < B) (h : Lst eKV eSl w B vo S) (hS : S.length ≤ 1000) (hl : ∀ i (hi : i < S.length), S[i].2.length ≤ 100000) (hmk : Mkd mkKeys S) (hB : B ≤ w.heap.size) :
    Calls Tryz.prog 61 #[.pointer (some ⟨bk, 0, none⟩)] w fun e w' => ∃ outv Sg, e = .returned outv ∧ Grow eKV eSl mkKeys w w' B vo S outv Sg S.length := by
  obtain ⟨ao, co, rfl⟩ := h.form
  obtain ⟨n, hn⟩ : ∃ n, n = S.length := ⟨_, rfl⟩
  rw [← hn] at h hc hS ⊢
  have HL := Lib.hid hl
  have HN := Lib.hid hn
  have HC := Lib.hid (And.intro hc (And.intro h hmk))
  have hlt0 : bk < w.heap.size := World.block_lt_of_cell? _ _ hc
  clear hn hl hmk
  go_enter Tryz.func61, Tryz.ntmps61
  go_wp2
  go_loopw [3, 4, 5, 6] (fun ov iv _ _ wr => ∃ i : Nat, i ≤ n ∧ iv = .int .i64 (i : Int) ∧ ∃ Sg, Grow eKV eSl mkKeys w wr B (.slice ao n co) S ov Sg i) (fun _ iv _ _ _ => n - (intOf iv).toNat)
  case atStart => exact ⟨0, by omega, rfl, [], Grow.start h⟩
  case round =>
    obtain ⟨wo, rfl⟩ : ∃ wo, wo = wr := ⟨_, rfl⟩
    obtain ⟨i, hi, rfl, Sg, hgr⟩ := hrel
    clear hc h
    have cb : wo.cell? ⟨bk, 6, none⟩ = some (.slice ao n co) := hgr.tn.cell HC.out.1 (fun hq => by have := (HC.out.2.1.lt (q := bk) hq).1; omega)
    obtain ⟨aout, cout, rfl⟩ := hgr.g.form
    have hsg := hgr.len
    rw [hsg] at hgr ⊢
    have HG := Lib.hid (And.intro hgr hsg)
    clear hsg
    by_cases hlt : i < n
    · have hi1 : i < S.length := by have := HN.out; omega
      obtain ⟨g, sa, sc, rfl, d1, s1⟩ := hgr.l.at_ hi1
      have hin := hgr.in_ hi1 HC.out.2.2
      rw [s1] at hin
      obtain ⟨m, hm⟩ : ∃ m, S[i].2.length = m := ⟨_, rfl⟩
      have hll := HL.out i hi1
      rw [hm] at d1 s1 hll hin
      have HM := Lib.hid (And.intro hm (And.intro s1 hin))
      have r1 : (i : Int) < (n : Int) := by omega
      clear hm s1 hgr hin
      go_wp2
      go_loopw [5, 6] (fun lv tv wr2 => ∃ t : Nat, t ≤ 12 ∧ tv = .int .i64 (t : Int) ∧ ∃ la lc, lv = .slice la (m + t) lc ∧ GrowIn eKV eSl mkKeys w wr2 B (.slice (some ⟨g, 0, none⟩) n co) S (.slice aout i cout) Sg i lv t) (fun _ tv _ => 12 - (intOf tv).toNat)
      case atStart => exact ⟨0, by omega, rfl, sa, sc, rfl, HM.out.2.2⟩
      case round =>
        obtain ⟨wr2, rfl⟩ : ∃ wr2, wr2 = wr := ⟨_, rfl⟩
        obtain ⟨t, ht, rfl, la, lc, rfl, hin2⟩ := hrel
        have HI := Lib.hid hin2
        clear hin2
        by_cases hlt2 : t < 12
        · have r2 : (t : Int) < 12 := by omega
          have mm := mark_Keys i (m + t) 1 (by omega) (by omega) (by omega)
          go_wp2_with (first
            | (go_at_call 115; go_loud (refine (mm _).mono ?_); rintro e w3 ⟨am, cm, rfl, hom, hbm⟩; have HO := Lib.hid (And.intro hom hbm); clear hom hbm)
            | (at_builtin; have tok := HO; go_loud (refine wpl_app2 eKV rfl _ _ rfl rfl rfl (l := marks mkKeys i 0 m ++ marks mkKeys i m t) (l2 := marks mkKeys i (m + t) 1) (by rw [marks_app]; have h9 := (HI.out.below HO.out.2).own; rw [HM.out.1] at h9; have e9 := marks_len mkKeys i 0 (m + t); exact h9) (src_own HO.out.1 (Below.refl _ _)) (by rw [List.length_append, marks_len, marks_len, marks_len]; omega) (Nat.le_trans hB (Nat.le_trans HI.out.gr.tn.size HO.out.2.size)) ?_); go_loud (rw [show (marks mkKeys i 0 m ++ marks mkKeys i m t).length + (marks mkKeys i (m + t) 1).length = m + (t + 1) from by rw [List.length_append, marks_len, marks_len, marks_len]; (try omega)]; intro a4 cap4 w4 hap; have hap2 : Appd eKV w3 w4 B (.slice la (m + t) lc) (.slice a4 (m + (t + 1)) cap4) (marks mkKeys i 0 m ++ marks mkKeys i m t) (marks mkKeys i (m + t) 1) := hap; have hin3 := (HI.out.below HO.out.2).step HC.out.2.2 (m := 1) (by rw [HM.out.1]; exact hap2); have HI3 := Lib.hid hin3; clear hap hap2 hin3 HO)))
          go_roundw
          case rel => exact ⟨t + 1, by omega, by go_num, a4, cap4, rfl, HI3.out⟩
          case measure => simp [intOf]; omega
        · obtain rfl : t = 12 := by omega
          have mm := mark_Keys i (m + 12) 60 (by omega) (by omega) (by omega)
          go_wp2_with (first
            | (go_at_call 115; go_loud (refine (mm _).mono ?_); rintro e w3 ⟨am, cm, rfl, hom, hbm⟩; have HO := Lib.hid (And.intro hom hbm); clear hom hbm)
            | (at_builtin; have tok := HO; go_loud (refine wpl_app2 eKV rfl _ _ rfl rfl rfl (l := marks mkKeys i 0 m ++ marks mkKeys i m 12) (l2 := marks mkKeys i (m + 12) 60) (by rw [marks_app]; have h9 := (HI.out.below HO.out.2).own; rw [HM.out.1] at h9; have e9 := marks_len mkKeys i 0 (m + 12); exact h9) (src_own HO.out.1 (Below.refl _ _)) (by rw [List.length_append, marks_len, marks_len, marks_len]; omega) (Nat.le_trans hB (Nat.le_trans HI.out.gr.tn.size HO.out.2.size)) ?_); go_loud (rw [show (marks mkKeys i 0 m ++ marks mkKeys i m 12).length + (marks mkKeys i (m + 12) 60).length = m + (12 + 60) from by rw [List.length_append, marks_len, marks_len, marks_len]; (try omega)]; intro a4 cap4 w4 hap; have hap2 : Appd eKV w3 w4 B (.slice la (m + 12) lc) (.slice a4 (m + (12 + 60)) cap4) (marks mkKeys i 0 m ++ marks mkKeys i m 12) (marks mkKeys i (m + 12) 60) := hap; have hin3 := (HI.out.below HO.out.2).step HC.out.2.2 (m := 60) (by rw [HM.out.1]; exact hap2); have HI3 := Lib.hid hin3; clear hap hap2 hin3 HO))
            | (at_builtin; have tok := HI3; have hb5 : Below w4.heap.size w4 (w4.alloc (.cells #[.slice a4 (m + 72) cap4] 23)) := (Below.refl _ _).alloc (Nat.le_refl _) _; have HI5 := Lib.hid (HI3.out.below hb5); go_loud (refine wpl_app2 eSl rfl _ _ rfl rfl rfl (l := Sg.map (·.1)) (l2 := [(⟨a4, m + 72, cap4⟩ : Sl)]) HI5.out.gr.g.outer (src_slk w4 ⟨a4, m + 72, cap4⟩ _) (by rw [List.length_map, HG.out.2]; simp; omega) (Nat.le_trans hB HI5.out.gr.tn.size) ?_); go_loud (rw [show (Sg.map (·.1)).length + [(⟨a4, m + 72, cap4⟩ : Sl)].length = i + 1 from by rw [List.length_map, HG.out.2]; rfl]; intro a6 cap6 w6 hap6; have hd := HI5.out.done (s := ⟨a4, m + 72, cap4⟩) hap6; have HD := Lib.hid hd; clear hap6 hd hb5 HI3)))
          go_roundw
          case rel => exact ⟨i + 1, by omega, by go_num, _, HD.out⟩
          case measure => simp [intOf]; omega
    · obtain rfl : i = n := by omega
      clear hgr
      go_wp2
      go_ret
      exact ⟨_, Sg, rfl, HG.out.1⟩

set_option maxRecDepth 100000 in
set_option maxHeartbeats 2000000 in
theorem marked_Keys {w : World} {B : Nat} {vo : Value} {S : List (Sl × List KV)} (h : Lst eKV eSl w B vo S) (hS : S.length ≤ 1000) (hl : ∀ i (hi : i < S.length), S[i].2.length ≤ 100000) (hmk : Mkd mkKeys S) :
    Calls Tryz.prog 76 #[vo] w fun e w' => e = .returned (.bool true) ∧ Below w.heap.size w w' := by
  obtain ⟨ao, co, rfl⟩ := h.form
  obtain ⟨n, hn⟩ : ∃ n, n = S.length := ⟨_, rfl⟩
  rw [← hn] at h hS ⊢
  have HL := Lib.hid hl
  have HN := Lib.hid hn
  have HC := Lib.hid (And.intro h hmk)
  clear hn hl hmk h
  go_enter Tryz.func76, Tryz.ntmps76
  go_wp2
  go_loopw [3] (fun iv wr => ∃ i : Nat, i ≤ n ∧ iv = .int .i64 (i : Int) ∧ Below w.heap.size w wr) (fun iv _ => n - (intOf iv).toNat)
  case atStart => exact ⟨0, by omega, rfl, Below.refl _ _⟩
  case round =>
    obtain ⟨i, hi, rfl, hbel⟩ := hrel
    have HB := Lib.hid hbel
    have hlr := HC.out.1.below hbel
    clear hbel
    by_cases hlt : i < n
    · have hi1 : i < S.length := by have := HN.out; omega
      obtain ⟨g, sa, sc, rfl, d1, s1⟩ := hlr.at_ hi1
      have hll := HL.out i hi1
      have hown := hlr.each i hi1
      rw [HC.out.2 i hi1] at hown
      obtain ⟨m, hm⟩ : ∃ m, S[i].2.length = m := ⟨_, rfl⟩
      rw [s1] at hown
      rw [hm] at d1 s1 hll hown
      have HO := Lib.hid hown
      have r1 : (i : Int) < (n : Int) := by omega
      clear s1 hm hlr hown
      go_wp2
      have kd1 : wr.drew.cell? ⟨g, i, none⟩ = some (.slice sa m sc) := d1
      refine wp_region_K (fun w' => w'.cell? ⟨g, i, none⟩ = some (.slice sa m sc)) 12 13 (by kernel_rfl) (by kernel_rfl) kd1 (fun hH => ?_)
      refine wpAnyK_take (i := 0) [2, 3, 11, 12] (v := ?v1) rfl (by kernel_rfl) (by kernel_rfl) (by kernel_rfl) (by kernel_rfl) (fun _ _ _ h => h) (Or.inl ⟨by rfl, ?hy1⟩) hH ?rest1
      case hy1 => (intro w hSw; (try dsimp only at hSw); go_simp; with_reducible rfl)
      try simp only [Act.put, List.setIfInBounds_toArray, List.set_cons_zero, List.set_cons_succ]
      refine wpAnyK_take (i := 1) [2, 3, 11, 12] (v := ?v2) rfl (by kernel_rfl) (by kernel_rfl) (by kernel_rfl) (by kernel_rfl) (fun _ _ _ h => h) (Or.inl ⟨by rfl, ?hy2⟩) hH ?rest2
      case hy2 => (intro w hSw; (try dsimp only at hSw); go_simp; with_reducible rfl)
      try simp only [Act.put, List.setIfInBounds_toArray, List.set_cons_zero, List.set_cons_succ]
      refine wpAnyK_take (i := 2) [3, 11, 12] (v := ?v3) rfl (by kernel_rfl) (by kernel_rfl) (by kernel_rfl) (by kernel_rfl) (fun _ _ _ h => h) (Or.inl ⟨by rfl, ?hy3⟩) hH ?rest3
      case hy3 => (intro w hSw; (try dsimp only at hSw); go_simp; with_reducible rfl)
      try simp only [Act.put, List.setIfInBounds_toArray, List.set_cons_zero, List.set_cons_succ]
      refine wpAnyK_take (i := 3) [11, 12] (v := ?v4) rfl (by kernel_rfl) (by kernel_rfl) (by kernel_rfl) (by kernel_rfl) (fun _ _ _ h => h) (Or.inl ⟨by rfl, ?hy4⟩) hH ?rest4
      case hy4 => (intro w hSw; (try dsimp only at hSw); go_simp; with_reducible rfl)
      try simp only [Act.put, List.setIfInBounds_toArray, List.set_cons_zero, List.set_cons_succ]
      refine wpAnyK_take (i := 4) [10, 11, 12] (v := ?v5) rfl (by kernel_rfl) (by kernel_rfl) (by kernel_rfl) (by kernel_rfl) (fun _ _ _ h => h) (Or.inl ⟨by rfl, ?hy5⟩) hH ?rest5
      case hy5 => (intro w hSw; (try dsimp only at hSw); go_simp; with_reducible rfl)
      try simp only [Act.put, List.setIfInBounds_toArray, List.set_cons_zero, List.set_cons_succ]
      refine wpAnyK_take (i := 5) [7, 8, 9, 10, 11, 12] (v := ?v6) rfl (by kernel_rfl) (by kernel_rfl) (by kernel_rfl) (by kernel_rfl) (fun _ _ _ h => h) (Or.inl ⟨by rfl, ?hy6⟩) hH ?rest6
      case hy6 => (intro w hSw; (try dsimp only at hSw); go_simp; with_reducible rfl)
      try simp only [Act.put, List.setIfInBounds_toArray, List.set_cons_zero, List.set_cons_succ]
      refine wpAnyK_take (i := 6) [7, 8, 9, 10, 11, 12] (v := ?v7) rfl (by kernel_rfl) (by kernel_rfl) (by kernel_rfl) (by kernel_rfl) (fun _ _ _ h => h) (Or.inl ⟨by rfl, ?hy7⟩) hH ?rest7
      case hy7 => (intro w hSw; (try dsimp only at hSw); go_simp; with_reducible rfl)
      try simp only [Act.put, List.setIfInBounds_toArray, List.set_cons_zero, List.set_cons_succ]
      refine wpAnyK_take (i := 7) [8, 9, 10, 11, 12] (v := ?v8) rfl (by kernel_rfl) (by kernel_rfl) (by kernel_rfl) (by kernel_rfl) (fun _ _ _ h => h) (Or.inl ⟨by rfl, ?hy8⟩) hH ?rest8
      case hy8 => (intro w hSw; (try dsimp only at hSw); go_simp; with_reducible rfl)
      try simp only [Act.put, List.setIfInBounds_toArray, List.set_cons_zero, List.set_cons_succ]
      refine wpAnyK_take (i := 8) [9, 10, 11, 12] (v := ?v9) rfl (by kernel_rfl) (by kernel_rfl) (by kernel_rfl) (by kernel_rfl) (fun _ _ _ h => h) (Or.inl ⟨by rfl, ?hy9⟩) hH ?rest9
      case hy9 => (intro w hSw; (try dsimp only at hSw); go_simp; with_reducible rfl)
      try simp only [Act.put, List.setIfInBounds_toArray, List.set_cons_zero, List.set_cons_succ]
      refine wpAnyK_take (i := 9) [10, 11, 12] (v := ?v10) rfl (by kernel_rfl) (by kernel_rfl) (by kernel_rfl) (by kernel_rfl) (fun _ _ _ h => h) (Or.inl ⟨by rfl, ?hy10⟩) hH ?rest10
      case hy10 => (intro w hSw; (try dsimp only at hSw); go_simp; with_reducible rfl)
      try simp only [Act.put, List.setIfInBounds_toArray, List.set_cons_zero, List.set_cons_succ]
      refine wpAnyK_one (i := 10) (by kernel_rfl) rfl (fun K hK => ?_) (by kernel_rfl)
      go_simp
      go_at_call 115
      refine (mark_Keys i 0 m (by omega) (by omega) (by omega) _).mono ?_
      rintro e w3 ⟨am, cm, rfl, hom, hbm⟩
      have kd2 := (hbm.cell (p := ⟨g, i, none⟩) (World.block_lt_of_cell? _ _ kd1)).trans kd1
      have H3 := Lib.hid (And.intro hom hbm)
      clear hom hbm
      refine hK.out _ _ kd2 (fun hH => ?_)
      clear hK K
      try simp only [Act.put, List.setIfInBounds_toArray, List.set_cons_zero, List.set_cons_succ]
      refine wpAnyK_one (i := 11) (by kernel_rfl) rfl (fun K hK => ?_) (by kernel_rfl)
      go_simp
      go_at_call 12
      have hr1 : RdK w3 (.slice sa m sc) (marks mkKeys i 0 m) := rdK_own (row_below (World.ownsRow.drew HO.out) H3.out.2)
      have hr2 : RdK w3 (.slice am m cm) (marks mkKeys i 0 m) := rdK_own H3.out.1
      have hml : (marks mkKeys i 0 m).length ≤ 100000 := by rw [marks_len]; exact hll
      have H4 := Lib.hid (And.intro hr1 (And.intro hr2 hml))
      clear hr1 hr2 hml
      refine (same_Keys H4.out.1 H4.out.2.1 H4.out.2.2).mono ?_
      rintro e w4 ⟨rfl, a4, rfl⟩
      refine hK.out _ _ kd2 (fun hH => ?_)
      clear hK K
      try simp only [Act.put, List.setIfInBounds_toArray, List.set_cons_zero, List.set_cons_succ]
      refine wpAnyK_last (by kernel_rfl) rfl (fun K hK => ?_) (by kernel_rfl)
      go_simp
      refine hK.out _ _ (wpAnyK_done (by kernel_rfl) ?_ _)
      clear hK K hH
      have HF := Lib.hid (below_drewN (HB.out.trans (((Below.refl _ _).drew.trans H3.out.2).mono HB.out.size)) a4)
      clear kd1 kd2
      go_wp2
      go_roundw
      case rel => exact ⟨i + 1, by omega, by go_num, HF.out⟩
      case measure => simp [intOf]; omega
    · obtain rfl : i = n := by omega
      clear hlr
      go_wp2
      go_ret
      exact ⟨rfl, HB.out⟩
end Go.Proofs.YtkeggcfnoonakaaGreat
