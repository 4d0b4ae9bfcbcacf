
/-
  Book: the kind Keys: marks are laid.
-/
import Derived.Test.YtkeggcfnoonakaaGreatBkKeysC
import Derived.Test.YtkeggcfnoonakaaGreatHold
set_option linter.unusedSimpArgs false
set_option linter.unusedVariables false
namespace Go.Proofs.YtkeggcfnoonakaaGreat
open Go.RowKit

theorem kset_cells : ∀ (l : List KV) (i : Nat) (x : KV), (l.set i x).flatMap cKV = ((l.flatMap cKV).set (i * 2) (.string x.1)).set (i * 2 + 1) (.string x.2)
  | [], i, x => rfl
  | m :: ms, 0, x => by simp [cKV]
  | m :: ms, i + 1, x => by
    have ih := kset_cells ms i x
    rw [List.set_cons_succ, List.flatMap_cons, List.flatMap_cons, ih]
    have e : cKV m = [.string m.1, .string m.2] := rfl
    rw [e, show (i + 1) * 2 = i * 2 + 1 + 1 by omega]
    rfl
theorem kset {w : World} {B g n cap : Nat} {l : List KV} (h : Own eKV w B (.slice (some ⟨g, 0, none⟩) n cap) l) (hn : l.length = n) (j : Nat) (x : KV) : Own eKV ((w.setCell ⟨g, j * 2, none⟩ (.string x.1)).setCell ⟨g, j * 2 + 1, none⟩ (.string x.2)) B (.slice (some ⟨g, 0, none⟩) n cap) (l.set j x) := by
  subst hn
  have h1 := (World.ownsRow.stored h (j * 2) (.string x.1)).1
  have h2 := (World.ownsRow.stored h1 (j * 2 + 1) (.string x.2)).1
  show World.ownsRow _ _ _ _ _ _ _
  rw [kset_cells, List.length_set]
  exact h2
theorem kget {w : World} {B n cap : Nat} {a : Option Addr} {l : List KV} (h : Own eKV w B (.slice a n cap) l) {j : Nat} {x : KV} (hj : l[j]? = some x) : ∃ g, a = some ⟨g, 0, none⟩ ∧ w.cell? ⟨g, j * 2, none⟩ = some (.string x.1) ∧ w.cell? ⟨g, j * 2 + 1, none⟩ = some (.string x.2) ∧ (∀ o, w.frozen? ⟨g, o, none⟩ = false) ∧ B ≤ g ∧ g < w.heap.size := by
  obtain ⟨hjl, he⟩ := List.getElem?_eq_some_iff.1 hj
  obtain ⟨g, cap', hv, _, hg, hlt, k0, k1⟩ := kv_cells h hjl
  injection hv with e1 e2 e3
  subst e1 e2
  rw [he] at k0 k1
  refine ⟨g, rfl, k0, k1, fun o => ?_, hg, hlt⟩
  exact World.ownsRow.frozenAt h o

set_option maxRecDepth 100000 in
set_option maxHeartbeats 2000000 in
theorem put_Keys {w : World} {bk B : Nat} {vo : Value} {S : List (Sl × List KV)} (hc : w.cell? ⟨bk, 6, none⟩ = some vo) (hbk : bk < B) (h : Lst eKV eSl w B vo S) (hS : S.length ≤ 1000) (hl : ∀ i (hi : i < S.length), S[i].2.length ≤ 100000) :
    Calls Tryz.prog 51 #[.pointer (some ⟨bk, 0, none⟩)] w fun e w' => e = .returned (.tuple #[]) ∧ Lst eKV eSl w' B vo (mset mkKeys S.length S) ∧ Tn (footL vo S) w w' := by
  obtain ⟨ao, co, rfl⟩ := h.form
  obtain ⟨n, hn⟩ : ∃ n, n = S.length := ⟨_, rfl⟩
  rw [← hn] at h hc hS ⊢
  have HL := Lib.hid hl
  have HN := Lib.hid hn
  have HC := Lib.hid (And.intro hc h)
  have hlt0 := World.block_lt_of_cell? _ _ hc
  clear hn hl
  go_enter Tryz.func51, Tryz.ntmps51
  go_wp2
  go_loopw [2, 3, 4] (fun iv _ _ wr => ∃ i : Nat, i ≤ n ∧ iv = .int .i64 (i : Int) ∧ Lst eKV eSl wr B (.slice ao n co) (mset mkKeys i S) ∧ Tn (footL (.slice ao n co) S) w wr) (fun iv _ _ _ => n - (intOf iv).toNat)
  case atStart => exact ⟨0, by omega, rfl, by rw [mset_zero]; exact h, Tn.refl _ _⟩
  case round =>
    obtain ⟨wo, rfl⟩ : ∃ wo, wo = wr := ⟨_, rfl⟩
    obtain ⟨i, hi, rfl, hlst, htn⟩ := hrel
    clear hc h
    have hnf : ∀ q, footL (.slice ao n co) S q → q ≠ bk := fun q hq e => by have := (HC.out.2.lt hq).1; omega
    have cb : wo.cell? ⟨bk, 6, none⟩ = some (.slice ao n co) := htn.cell HC.out.1 (fun hq => hnf bk hq rfl)
    have HT := Lib.hid (And.intro hlst (And.intro htn hnf))
    clear htn hnf
    by_cases hlt : i < n
    · have hi1 : i < S.length := by have := HN.out; omega
      have hi2 : i < (mset mkKeys i S).length := by rw [mset_len]; exact hi1
      have hmg : (mset mkKeys i S)[i] = (S[i].1, S[i].2) := by rw [mset_get mkKeys i i S hi2 hi1]; simp
      obtain ⟨g, sa, sc, rfl, d1, s1⟩ := hlst.at_ hi2
      rw [hmg] at d1 s1
      simp only at d1 s1
      obtain ⟨m, hm⟩ : ∃ m, S[i].2.length = m := ⟨_, rfl⟩
      have hll := HL.out i hi1
      rw [hm] at d1 s1 hll
      have HM := Lib.hid (And.intro hm (And.intro s1 hmg))
      have r1 : (i : Int) < (n : Int) := by omega
      clear hm s1 hmg hlst
      go_wp2_with (go_at_call 115; refine (mark_Keys i 0 m (by omega) (by omega) (by omega) _).mono ?_; rintro e w1 ⟨am, cm, rfl, hom, hbm⟩; have HO := Lib.hid (And.intro hom hbm); clear hom hbm)
      go_loopw [4] (fun kv wr2 => ∃ j : Nat, j ≤ m ∧ kv = .int .i64 (j : Int) ∧ Lst eKV eSl wr2 B (.slice (some ⟨g, 0, none⟩) n co) (relist (mset mkKeys i S) i (marks mkKeys i 0 j ++ S[i].2.drop j)) ∧ Own eKV wr2 wo.heap.size (.slice am m cm) (marks mkKeys i 0 m) ∧ Tn (footL (.slice (some ⟨g, 0, none⟩) n co) S) w wr2) (fun kv _ => m - (intOf kv).toNat)
      case atStart =>
        refine ⟨0, by omega, rfl, ?_, HO.out.1, HT.out.2.1.trans (Tn.ofBelow HO.out.2)⟩
        have : marks mkKeys i 0 0 ++ S[i].2.drop 0 = (mset mkKeys i S)[i].2 := by rw [HM.out.2.2]; rfl
        rw [this, relist_same _ _ hi2]
        exact HT.out.1.below HO.out.2
      case round =>
        obtain ⟨wr2, rfl⟩ : ∃ wr2, wr2 = wr := ⟨_, rfl⟩
        obtain ⟨j, hj, rfl, hlst2, hom2, htn2⟩ := hrel
        have cb2 : wr2.cell? ⟨bk, 6, none⟩ = some (.slice (some ⟨g, 0, none⟩) n co) := htn2.cell HC.out.1 (fun hq => HT.out.2.2 bk hq rfl)
        by_cases hlt2 : j < m
        · have hi3 : i < (relist (mset mkKeys i S) i (marks mkKeys i 0 j ++ S[i].2.drop j)).length := by rw [relist_len]; exact hi2
          have hrg : (relist (mset mkKeys i S) i (marks mkKeys i 0 j ++ S[i].2.drop j))[i] = (S[i].1, marks mkKeys i 0 j ++ S[i].2.drop j) := by
            rw [relist_get _ i i _ hi3 hi2, HM.out.2.2]; simp
          have hml : (marks mkKeys i 0 j ++ S[i].2.drop j).length = m := by rw [List.length_append, marks_len, List.length_drop, HM.out.1]; omega
          obtain ⟨g', sa', sc', hg', d2, s2⟩ := hlst2.at_ hi3
          obtain rfl : g = g' := by injection hg' with e; injection e
          have hown := hlst2.each i hi3
          rw [hrg] at d2 s2 hown
          simp only [hml] at d2 s2
          simp only at hown
          rw [HM.out.2.1] at s2
          obtain ⟨rfl, -, rfl⟩ := Value.slice.inj s2
          rw [HM.out.2.1] at hown
          have hsd : (marks mkKeys i 0 j ++ S[i].2.drop j)[j]? = some (S[i].2[j]'(by rw [HM.out.1]; exact hlt2)) := by
            rw [List.getElem?_append_right (by rw [marks_len]; omega), marks_len, Nat.sub_self, List.getElem?_drop, Nat.add_zero, List.getElem?_eq_getElem (by rw [HM.out.1]; exact hlt2)]
          obtain ⟨gi, rfl, x1, x1b, x2, x3, x4⟩ := kget hown hsd
          obtain ⟨gm, rfl, y1, y1b, -, y3, y4⟩ := kget hom2 (marks_get mkKeys i m j hlt2)
          obtain ⟨ov, hov⟩ : ∃ ov, S[i].2[j]'(by rw [HM.out.1]; exact hlt2) = ov := ⟨_, rfl⟩
          rw [hov] at x1 x1b
          have x2a := x2 (j * 2)
          have x2b := x2 (j * 2 + 1)
          obtain ⟨ov1, ov2⟩ := ov
          simp only at x1 x1b
          obtain ⟨nv, hnv⟩ : ∃ nv, mkKeys i j = nv := ⟨_, rfl⟩
          rw [hnv] at y1 y1b
          obtain ⟨nv1, nv2⟩ := nv
          simp only at y1 y1b
          have hset := kset hown (by exact hml) j (mkKeys i j)
          rw [mark_over mkKeys i j _ (by rw [HM.out.1]; exact hlt2)] at hset
          have hgg : gi ≠ gm := fun e => by
            have := (hlst2.lt (q := gi) (.inr ⟨i, hi3, by rw [hrg]; simp only; rw [HM.out.2.1]; rfl⟩)).2
            have h5 : footL (.slice (some ⟨g, 0, none⟩) n co) (mset mkKeys i S) gi := .inr ⟨i, hi2, by rw [HM.out.2.2]; simp only; rw [HM.out.2.1]; rfl⟩
            have := (HT.out.1.lt h5).2
            omega
          have HX := Lib.hid (And.intro hlst2 (And.intro hom2 (And.intro htn2 (And.intro hset (And.intro hrg (And.intro hnv hgg))))))
          have r2 : (j : Int) < (m : Int) := by omega
          clear hlst2 hom2 htn2 hset hrg hnv hov hown s2 hml hsd hg' hgg
          go_wp2
          refine wp_region_K (fun w' => w'.cell? ⟨bk, 6, none⟩ = some (.slice (some ⟨g, 0, none⟩) n co) ∧ w'.cell? ⟨g, i, none⟩ = some (.slice (some ⟨gi, 0, none⟩) m sc) ∧ w'.cell? ⟨gm, j * 2, none⟩ = some (.string nv1) ∧ w'.cell? ⟨gm, j * 2 + 1, none⟩ = some (.string nv2)) 13 14 (by kernel_rfl) (by kernel_rfl) ⟨cb2, d2, y1, y1b⟩ (fun hH => ?_)
          refine wpAnyK_take (i := 0) [13] (v := ?v1) rfl (by kernel_rfl) (by kernel_rfl) (by kernel_rfl) (by kernel_rfl) (fun _ _ _ h => h) (Or.inl ⟨by rfl, ?hy1⟩) hH ?rest1
          case hy1 => (intro w hSw; (try dsimp only at hSw); go_simp; with_reducible rfl)
          try simp only [Act.put, List.setIfInBounds_toArray, List.set_cons_zero, List.set_cons_succ]
          refine wpAnyK_take (i := 1) [13] (v := ?v2) rfl (by kernel_rfl) (by kernel_rfl) (by kernel_rfl) (by kernel_rfl) (fun _ _ _ h => h) (Or.inl ⟨by rfl, ?hy2⟩) hH ?rest2
          case hy2 => (intro w hSw; (try dsimp only at hSw); go_simp; with_reducible rfl)
          try simp only [Act.put, List.setIfInBounds_toArray, List.set_cons_zero, List.set_cons_succ]
          refine wpAnyK_take (i := 2) [13] (v := ?v3) rfl (by kernel_rfl) (by kernel_rfl) (by kernel_rfl) (by kernel_rfl) (fun _ _ _ h => h) (Or.inl ⟨by rfl, ?hy3⟩) hH ?rest3
          case hy3 => (intro w hSw; (try dsimp only at hSw); go_simp; with_reducible rfl)
          try simp only [Act.put, List.setIfInBounds_toArray, List.set_cons_zero, List.set_cons_succ]
          refine wpAnyK_take (i := 3) [13] (v := ?v4) rfl (by kernel_rfl) (by kernel_rfl) (by kernel_rfl) (by kernel_rfl) (fun _ _ _ h => h) (Or.inl ⟨by rfl, ?hy4⟩) hH ?rest4
          case hy4 => (intro w hSw; (try dsimp only at hSw); go_simp; with_reducible rfl)
          try simp only [Act.put, List.setIfInBounds_toArray, List.set_cons_zero, List.set_cons_succ]
          refine wpAnyK_take (i := 4) [13] (v := ?v5) rfl (by kernel_rfl) (by kernel_rfl) (by kernel_rfl) (by kernel_rfl) (fun _ _ _ h => h) (Or.inl ⟨by rfl, ?hy5⟩) hH ?rest5
          case hy5 => (intro w hSw; (try dsimp only at hSw); go_simp; with_reducible rfl)
          try simp only [Act.put, List.setIfInBounds_toArray, List.set_cons_zero, List.set_cons_succ]
          refine wpAnyK_take (i := 5) [13] (v := ?v6) rfl (by kernel_rfl) (by kernel_rfl) (by kernel_rfl) (by kernel_rfl) (fun _ _ _ h => h) (Or.inl ⟨by rfl, ?hy6⟩) hH ?rest6
          case hy6 => (intro w hSw; (try dsimp only at hSw); go_simp; with_reducible rfl)
          try simp only [Act.put, List.setIfInBounds_toArray, List.set_cons_zero, List.set_cons_succ]
          refine wpAnyK_take (i := 6) [13] (v := ?v7) rfl (by kernel_rfl) (by kernel_rfl) (by kernel_rfl) (by kernel_rfl) (fun _ _ _ h => h) (Or.inl ⟨by rfl, ?hy7⟩) hH ?rest7
          case hy7 => (intro w hSw; (try dsimp only at hSw); go_simp; with_reducible rfl)
          try simp only [Act.put, List.setIfInBounds_toArray, List.set_cons_zero, List.set_cons_succ]
          refine wpAnyK_take (i := 7) [13] (v := ?v8) rfl (by kernel_rfl) (by kernel_rfl) (by kernel_rfl) (by kernel_rfl) (fun _ _ _ h => h) (Or.inl ⟨by rfl, ?hy8⟩) hH ?rest8
          case hy8 => (intro w hSw; (try dsimp only at hSw); go_simp; with_reducible rfl)
          try simp only [Act.put, List.setIfInBounds_toArray, List.set_cons_zero, List.set_cons_succ]
          refine wpAnyK_take (i := 8) [13] (v := ?v9) rfl (by kernel_rfl) (by kernel_rfl) (by kernel_rfl) (by kernel_rfl) (fun _ _ _ h => h) (Or.inl ⟨by rfl, ?hy9⟩) hH ?rest9
          case hy9 => (intro w hSw; (try dsimp only at hSw); go_simp; with_reducible rfl)
          try simp only [Act.put, List.setIfInBounds_toArray, List.set_cons_zero, List.set_cons_succ]
          refine wpAnyK_take (i := 9) [13] (v := ?v10) rfl (by kernel_rfl) (by kernel_rfl) (by kernel_rfl) (by kernel_rfl) (fun _ _ _ h => h) (Or.inl ⟨by rfl, ?hy10⟩) hH ?rest10
          case hy10 => (intro w hSw; (try dsimp only at hSw); go_simp; with_reducible rfl)
          try simp only [Act.put, List.setIfInBounds_toArray, List.set_cons_zero, List.set_cons_succ]
          refine wpAnyK_take (i := 10) [13] (v := ?v11) rfl (by kernel_rfl) (by kernel_rfl) (by kernel_rfl) (by kernel_rfl) (fun _ _ _ h => h) (Or.inl ⟨by rfl, ?hy11⟩) hH ?rest11
          case hy11 => (intro w hSw; (try dsimp only at hSw); go_simp; with_reducible rfl)
          try simp only [Act.put, List.setIfInBounds_toArray, List.set_cons_zero, List.set_cons_succ]
          refine wpAnyK_take (i := 11) [13] (v := ?v12) rfl (by kernel_rfl) (by kernel_rfl) (by kernel_rfl) (by kernel_rfl) (fun _ _ _ h => h) (Or.inl ⟨by rfl, ?hy12⟩) hH ?rest12
          case hy12 => (intro w hSw; (try dsimp only at hSw); go_simp; with_reducible rfl)
          try simp only [Act.put, List.setIfInBounds_toArray, List.set_cons_zero, List.set_cons_succ]
          refine wpAnyK_take (i := 12) [13] (v := ?v13) rfl (by kernel_rfl) (by kernel_rfl) (by kernel_rfl) (by kernel_rfl) (fun _ _ _ h => h) (Or.inl ⟨by rfl, ?hy13⟩) hH ?rest13
          case hy13 => (intro w hSw; (try dsimp only at hSw); go_simp; with_reducible rfl)
          try simp only [Act.put, List.setIfInBounds_toArray, List.set_cons_zero, List.set_cons_succ]
          refine wpAnyK_last (by kernel_rfl) rfl (fun K hK => ?_) (by kernel_rfl)
          go_simp
          refine hK.out _ _ (wpAnyK_done (by kernel_rfl) ?_ _)
          clear hK K hH
          have hfin : Lst eKV eSl ((wr2.drew.setCell ⟨gi, j * 2, none⟩ (.string nv1)).setCell ⟨gi, j * 2 + 1, none⟩ (.string nv2)) B (.slice (some ⟨g, 0, none⟩) n co) (relist (mset mkKeys i S) i (marks mkKeys i 0 (j + 1) ++ S[i].2.drop (j + 1))) := by
            have hl0 : Lst eKV eSl wr2.drew B (.slice (some ⟨g, 0, none⟩) n co) _ := HX.out.1.below (Below.refl _ _).drew
            have h7 := hl0.relist (w' := (wr2.drew.setCell ⟨gi, j * 2, none⟩ (.string nv1)).setCell ⟨gi, j * 2 + 1, none⟩ (.string nv2)) hi3 (l := marks mkKeys i 0 (j + 1) ++ S[i].2.drop (j + 1)) ((Tn.setCell _ ⟨gi, j * 2, none⟩ _ (by rw [HX.out.2.2.2.2.1]; simp only; rw [HM.out.2.1]; rfl)).trans (Tn.setCell _ ⟨gi, j * 2 + 1, none⟩ _ (by rw [HX.out.2.2.2.2.1]; simp only; rw [HM.out.2.1]; rfl))) (by
              rw [HX.out.2.2.2.2.1]
              simp only
              rw [HM.out.2.1]
              have h8 := HX.out.2.2.2.1
              rw [HX.out.2.2.2.2.2.1] at h8
              exact h8)
            rw [relist_twice] at h7
            exact h7
          have hom3 : Own eKV ((wr2.drew.setCell ⟨gi, j * 2, none⟩ (.string nv1)).setCell ⟨gi, j * 2 + 1, none⟩ (.string nv2)) wo.heap.size (.slice (some ⟨gm, 0, none⟩) m cm) (marks mkKeys i 0 m) :=
            ((Tn.setCell (F := fun q => q = gi) wr2.drew ⟨gi, j * 2, none⟩ (.string nv1) rfl).trans (Tn.setCell _ ⟨gi, j * 2 + 1, none⟩ _ rfl)).row (World.ownsRow.drew HX.out.2.1) (fun q hq e => HX.out.2.2.2.2.2.2 (by rw [← e]; exact (Option.some.inj hq).symm))
          have htn3 : Tn (footL (.slice (some ⟨g, 0, none⟩) n co) S) w ((wr2.drew.setCell ⟨gi, j * 2, none⟩ (.string nv1)).setCell ⟨gi, j * 2 + 1, none⟩ (.string nv2)) :=
            ((HX.out.2.2.1.trans (Tn.drew _)).trans (Tn.setCell _ ⟨gi, j * 2, none⟩ _ (.inr ⟨i, hi1, by rw [HM.out.2.1]; rfl⟩))).trans (Tn.setCell _ ⟨gi, j * 2 + 1, none⟩ _ (.inr ⟨i, hi1, by rw [HM.out.2.1]; rfl⟩))
          have HF := Lib.hid (And.intro hfin (And.intro hom3 htn3))
          clear hfin hom3 htn3
          go_wp2_with fail
          go_roundw
          case rel => exact ⟨j + 1, by omega, by go_num, HF.out.1, HF.out.2.1, HF.out.2.2⟩
          case measure => simp [intOf]; omega
        · obtain rfl : j = m := by omega
          clear hom2
          have HZ := Lib.hid (And.intro hlst2 htn2)
          clear hlst2 htn2
          go_wp2
          go_roundw
          case rel =>
            refine ⟨i + 1, by omega, by go_num, ?_, HZ.out.2⟩
            have h6 := HZ.out.1
            rw [List.drop_of_length_le (by rw [HM.out.1]; omega), List.append_nil] at h6
            rw [← mset_succ mkKeys i S hi1, HM.out.1]
            exact h6
          case measure => simp [intOf]; omega
    · obtain rfl : i = n := by omega
      clear hlst
      go_wp2
      go_end0
      exact ⟨rfl, HT.out.1, HT.out.2.1⟩
end Go.Proofs.YtkeggcfnoonakaaGreat
