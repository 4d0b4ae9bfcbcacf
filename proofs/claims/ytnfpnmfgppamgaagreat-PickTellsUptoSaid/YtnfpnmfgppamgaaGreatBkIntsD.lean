/-
  Book: the kind Ints: marks are laid.
-/
import Derived.Test.YtnfpnmfgppamgaaGreatBkIntsC
import Derived.Test.YtnfpnmfgppamgaaGreatHold
namespace Go.Proofs.YtnfpnmfgppamgaaGreat
open Go.RowKit

theorem iset {w : World} {B g n cap : Nat} {l : List Int} (h : Own kInts w B (.slice (some ⟨g, 0, none⟩) n cap) l) (hn : l.length = n) (j : Nat) (x : Int) : Own kInts (w.setCell ⟨g, j, none⟩ (.int .i64 x)) B (.slice (some ⟨g, 0, none⟩) n cap) (l.set j x) := by
  subst hn
  have h1 := (World.ownsRow.stored h j (.int .i64 x)).1
  have e : (l.flatMap (fun k : Int => [Value.int .i64 k])).set j (.int .i64 x) = (l.set j x).flatMap (fun k : Int => [Value.int .i64 k]) := by
    rw [← List.map_eq_flatMap, ← List.map_eq_flatMap, List.map_set]
  show World.ownsRow _ _ _ _ _ _ _
  rw [List.length_set, ← e]
  exact h1
theorem iget {w : World} {B n cap : Nat} {a : Option Addr} {l : List Int} (h : Own kInts w B (.slice a n cap) l) {j : Nat} {x : Int} (hj : l[j]? = some x) : ∃ g, a = some ⟨g, 0, none⟩ ∧ w.cell? ⟨g, j, none⟩ = some (.int .i64 x) ∧ w.frozen? ⟨g, j, none⟩ = false ∧ B ≤ g ∧ g < w.heap.size := by
  obtain ⟨hjl, he⟩ := List.getElem?_eq_some_iff.1 hj
  have h0 := h
  obtain ⟨h1, h2⟩ := h
  rcases h2 with ⟨_, h3⟩ | ⟨g, cap', cur, hv, hg, hh, hn', hc, hcl, htk⟩
  · omega
  · injection hv with e1 e2 e3
    subst e1 e2
    refine ⟨g, rfl, ?_, ?_, hg, (Array.getElem?_eq_some_iff.1 hh).1⟩
    · have := World.ownsRow.cellAt h0 j (by omega)
      rw [this]
      have h4 := kInts.get l j 0 hjl (by omega)
      rw [Nat.mul_one, Nat.add_zero] at h4
      rw [h4, he]
      rfl
    · exact World.ownsRow.frozenAt h0 j

set_option maxRecDepth 100000 in
set_option maxHeartbeats 2000000 in
theorem put_Ints {w : World} {bk B : Nat} {vo : Value} {S : List (Sl × List Int)} (hc : w.cell? ⟨bk, 2, none⟩ = some vo) (hbk : bk < B) (h : Lst kInts kIntsS w B vo S) (hS : S.length ≤ 1000) (hl : ∀ i (hi : i < S.length), S[i].2.length ≤ 1000000) :
    Calls Tryz.prog 53 #[.pointer (some ⟨bk, 0, none⟩)] w fun e w' => e = .returned (.tuple #[]) ∧ Lst kInts kIntsS w' B vo (mset mkInts S.length S) ∧ Tn (footL vo S) w w' := by
  obtain ⟨ao, co, rfl⟩ := h.form
  obtain ⟨n, hn⟩ : ∃ n, n = S.length := ⟨_, rfl⟩
  rw [← hn] at h hc hS ⊢
  have HL := Lib.hid hl
  have HN := Lib.hid hn
  have HC := Lib.hid (And.intro hc h)
  have hlt0 := World.block_lt_of_cell? _ _ hc
  clear hn hl
  go_enter Tryz.func53, Tryz.ntmps53
  go_wp2
  go_loopw [2, 3, 4] (fun iv _ _ wr => ∃ i : Nat, i ≤ n ∧ iv = .int .i64 (i : Int) ∧ Lst kInts kIntsS wr B (.slice ao n co) (mset mkInts i S) ∧ Tn (footL (.slice ao n co) S) w wr) (fun iv _ _ _ => n - (intOf iv).toNat)
  case atStart => exact ⟨0, by omega, rfl, by rw [mset_zero]; exact h, Tn.refl _ _⟩
  case round =>
    obtain ⟨wo, rfl⟩ : ∃ wo, wo = wr := ⟨_, rfl⟩
    obtain ⟨i, hi, rfl, hlst, htn⟩ := hrel
    clear hc h
    have hnf : ∀ q, footL (.slice ao n co) S q → q ≠ bk := fun q hq e => by have := (HC.out.2.lt hq).1; omega
    have cb : wo.cell? ⟨bk, 2, none⟩ = some (.slice ao n co) := htn.cell HC.out.1 (fun hq => hnf bk hq rfl)
    have HT := Lib.hid (And.intro hlst (And.intro htn hnf))
    clear htn hnf
    by_cases hlt : i < n
    · have hi1 : i < S.length := by have := HN.out; omega
      have hi2 : i < (mset mkInts i S).length := by rw [mset_len]; exact hi1
      have hmg : (mset mkInts i S)[i] = (S[i].1, S[i].2) := by rw [mset_get mkInts i i S hi2 hi1]; simp
      obtain ⟨g, sa, sc, rfl, d1, s1⟩ := hlst.at_ hi2
      rw [hmg] at d1 s1
      simp only at d1 s1
      obtain ⟨m, hm⟩ : ∃ m, S[i].2.length = m := ⟨_, rfl⟩
      have hll := HL.out i hi1
      rw [hm] at d1 s1 hll
      have HM := Lib.hid (And.intro hm (And.intro s1 hmg))
      have r1 : (i : Int) < (n : Int) := by omega
      clear hm s1 hmg hlst
      go_wp2_with (go_at_call 114; refine (mark_Ints i 0 m (by omega) (by omega) (by omega) _).mono ?_; rintro e w1 ⟨am, cm, rfl, hom, hbm⟩; have HO := Lib.hid (And.intro hom hbm); clear hom hbm)
      go_loopw [4] (fun kv wr2 => ∃ j : Nat, j ≤ m ∧ kv = .int .i64 (j : Int) ∧ Lst kInts kIntsS wr2 B (.slice (some ⟨g, 0, none⟩) n co) (relist (mset mkInts i S) i (marks mkInts i 0 j ++ S[i].2.drop j)) ∧ Own kInts wr2 wo.heap.size (.slice am m cm) (marks mkInts i 0 m) ∧ Tn (footL (.slice (some ⟨g, 0, none⟩) n co) S) w wr2) (fun kv _ => m - (intOf kv).toNat)
      case atStart =>
        refine ⟨0, by omega, rfl, ?_, HO.out.1, HT.out.2.1.trans (Tn.ofBelow HO.out.2)⟩
        have : marks mkInts i 0 0 ++ S[i].2.drop 0 = (mset mkInts i S)[i].2 := by rw [HM.out.2.2]; rfl
        rw [this, relist_same _ _ hi2]
        exact HT.out.1.below HO.out.2
      case round =>
        obtain ⟨wr2, rfl⟩ : ∃ wr2, wr2 = wr := ⟨_, rfl⟩
        obtain ⟨j, hj, rfl, hlst2, hom2, htn2⟩ := hrel
        have cb2 : wr2.cell? ⟨bk, 2, none⟩ = some (.slice (some ⟨g, 0, none⟩) n co) := htn2.cell HC.out.1 (fun hq => HT.out.2.2 bk hq rfl)
        by_cases hlt2 : j < m
        · have hi3 : i < (relist (mset mkInts i S) i (marks mkInts i 0 j ++ S[i].2.drop j)).length := by rw [relist_len]; exact hi2
          have hrg : (relist (mset mkInts i S) i (marks mkInts i 0 j ++ S[i].2.drop j))[i] = (S[i].1, marks mkInts i 0 j ++ S[i].2.drop j) := by
            rw [relist_get _ i i _ hi3 hi2, HM.out.2.2]; simp
          have hml : (marks mkInts i 0 j ++ S[i].2.drop j).length = m := by rw [List.length_append, marks_len, List.length_drop, HM.out.1]; omega
          obtain ⟨g', sa', sc', hg', d2, s2⟩ := hlst2.at_ hi3
          obtain rfl : g = g' := by injection hg' with e; injection e
          have hown := hlst2.each i hi3
          rw [hrg] at d2 s2 hown
          simp only [hml] at d2 s2
          simp only at hown
          rw [HM.out.2.1] at s2
          obtain ⟨rfl, -, rfl⟩ := Value.slice.inj s2
          rw [HM.out.2.1] at hown
          have hsd : (marks mkInts i 0 j ++ S[i].2.drop j)[j]? = some (S[i].2[j]'(by rw [HM.out.1]; exact hlt2)) := by
            rw [List.getElem?_append_right (by rw [marks_len]; omega), marks_len, Nat.sub_self, List.getElem?_drop, Nat.add_zero, List.getElem?_eq_getElem (by rw [HM.out.1]; exact hlt2)]
          obtain ⟨gi, rfl, x1, x2, x3, x4⟩ := iget hown hsd
          obtain ⟨gm, rfl, y1, -, y3, y4⟩ := iget hom2 (marks_get mkInts i m j hlt2)
          obtain ⟨ov, hov⟩ : ∃ ov, S[i].2[j]'(by rw [HM.out.1]; exact hlt2) = ov := ⟨_, rfl⟩
          rw [hov] at x1
          obtain ⟨nv, hnv⟩ : ∃ nv, mkInts i j = nv := ⟨_, rfl⟩
          rw [hnv] at y1
          have hset := iset hown (by exact hml) j (mkInts i j)
          rw [mark_over mkInts i j _ (by rw [HM.out.1]; exact hlt2)] at hset
          have hgg : gi ≠ gm := fun e => by
            have := (hlst2.lt (q := gi) (.inr ⟨i, hi3, by rw [hrg]; simp only; rw [HM.out.2.1]; rfl⟩)).2
            have h5 : footL (.slice (some ⟨g, 0, none⟩) n co) (mset mkInts i S) gi := .inr ⟨i, hi2, by rw [HM.out.2.2]; simp only; rw [HM.out.2.1]; rfl⟩
            have := (HT.out.1.lt h5).2
            omega
          have HX := Lib.hid (And.intro hlst2 (And.intro hom2 (And.intro htn2 (And.intro hset (And.intro hrg (And.intro hnv hgg))))))
          have r2 : (j : Int) < (m : Int) := by omega
          clear hlst2 hom2 htn2 hset hrg hnv hov hown s2 hml hsd hg' hgg
          go_wp2
          refine wp_region_K (fun w' => w'.cell? ⟨bk, 2, none⟩ = some (.slice (some ⟨g, 0, none⟩) n co) ∧ w'.cell? ⟨g, i, none⟩ = some (.slice (some ⟨gi, 0, none⟩) m sc) ∧ w'.cell? ⟨gm, j, none⟩ = some (.int .i64 nv)) 13 14 (by kernel_rfl) (by kernel_rfl) ⟨cb2, d2, y1⟩ (fun hH => ?_)
          refine wpAnyK_take (i := 0) [13] (v := ?v1) rfl (by kernel_rfl) (by kernel_rfl) (by kernel_rfl) (by kernel_rfl) (fun _ _ _ h => h) (Or.inl ⟨by rfl, ?hy1⟩) hH ?rest1
          case hy1 => (intro w hSw; (try dsimp only at hSw); go_simp; with_reducible rfl)
          try simp only [Act.put, List.setIfInBounds_toArray, List.set_cons_zero, List.set_cons_succ]
          refine wpAnyK_take (i := 1) [13] (v := ?v2) rfl (by kernel_rfl) (by kernel_rfl) (by kernel_rfl) (by kernel_rfl) (fun _ _ _ h => h) (Or.inl ⟨by rfl, ?hy2⟩) hH ?rest2
          case hy2 => (intro w hSw; (try dsimp only at hSw); go_simp; with_reducible rfl)
          try simp only [Act.put, List.setIfInBounds_toArray, List.set_cons_zero, List.set_cons_succ]
          refine wpAnyK_take (i := 2) [13] (v := ?v3) rfl (by kernel_rfl) (by kernel_rfl) (by kernel_rfl) (by kernel_rfl) (fun _ _ _ h => h) (Or.inl ⟨by rfl, ?hy3⟩) hH ?rest3
          case hy3 => (intro w hSw; (try dsimp only at hSw); go_simp; with_reducible rfl)
          try simp only [Act.put, List.setIfInBounds_toArray, List.set_cons_zero, List.set_cons_succ]
          refine wpAnyK_take (i := 3) [13] (v := ?v4) rfl (by kernel_rfl) (by kernel_rfl) (by kernel_rfl) (by kernel_rfl) (fun _ _ _ h => h) (Or.inl ⟨by rfl, ?hy4⟩) hH ?rest4
          case hy4 => (intro w hSw; (try dsimp only at hSw); go_simp; with_reducible rfl)
          try simp only [Act.put, List.setIfInBounds_toArray, List.set_cons_zero, List.set_cons_succ]
          refine wpAnyK_take (i := 4) [13] (v := ?v5) rfl (by kernel_rfl) (by kernel_rfl) (by kernel_rfl) (by kernel_rfl) (fun _ _ _ h => h) (Or.inl ⟨by rfl, ?hy5⟩) hH ?rest5
          case hy5 => (intro w hSw; (try dsimp only at hSw); go_simp; with_reducible rfl)
          try simp only [Act.put, List.setIfInBounds_toArray, List.set_cons_zero, List.set_cons_succ]
          refine wpAnyK_take (i := 5) [13] (v := ?v6) rfl (by kernel_rfl) (by kernel_rfl) (by kernel_rfl) (by kernel_rfl) (fun _ _ _ h => h) (Or.inl ⟨by rfl, ?hy6⟩) hH ?rest6
          case hy6 => (intro w hSw; (try dsimp only at hSw); go_simp; with_reducible rfl)
          try simp only [Act.put, List.setIfInBounds_toArray, List.set_cons_zero, List.set_cons_succ]
          refine wpAnyK_take (i := 6) [13] (v := ?v7) rfl (by kernel_rfl) (by kernel_rfl) (by kernel_rfl) (by kernel_rfl) (fun _ _ _ h => h) (Or.inl ⟨by rfl, ?hy7⟩) hH ?rest7
          case hy7 => (intro w hSw; (try dsimp only at hSw); go_simp; with_reducible rfl)
          try simp only [Act.put, List.setIfInBounds_toArray, List.set_cons_zero, List.set_cons_succ]
          refine wpAnyK_take (i := 7) [13] (v := ?v8) rfl (by kernel_rfl) (by kernel_rfl) (by kernel_rfl) (by kernel_rfl) (fun _ _ _ h => h) (Or.inl ⟨by rfl, ?hy8⟩) hH ?rest8
          case hy8 => (intro w hSw; (try dsimp only at hSw); go_simp; with_reducible rfl)
          try simp only [Act.put, List.setIfInBounds_toArray, List.set_cons_zero, List.set_cons_succ]
          refine wpAnyK_take (i := 8) [13] (v := ?v9) rfl (by kernel_rfl) (by kernel_rfl) (by kernel_rfl) (by kernel_rfl) (fun _ _ _ h => h) (Or.inl ⟨by rfl, ?hy9⟩) hH ?rest9
          case hy9 => (intro w hSw; (try dsimp only at hSw); go_simp; with_reducible rfl)
          try simp only [Act.put, List.setIfInBounds_toArray, List.set_cons_zero, List.set_cons_succ]
          refine wpAnyK_take (i := 9) [13] (v := ?v10) rfl (by kernel_rfl) (by kernel_rfl) (by kernel_rfl) (by kernel_rfl) (fun _ _ _ h => h) (Or.inl ⟨by rfl, ?hy10⟩) hH ?rest10
          case hy10 => (intro w hSw; (try dsimp only at hSw); go_simp; with_reducible rfl)
          try simp only [Act.put, List.setIfInBounds_toArray, List.set_cons_zero, List.set_cons_succ]
          refine wpAnyK_take (i := 10) [13] (v := ?v11) rfl (by kernel_rfl) (by kernel_rfl) (by kernel_rfl) (by kernel_rfl) (fun _ _ _ h => h) (Or.inl ⟨by rfl, ?hy11⟩) hH ?rest11
          case hy11 => (intro w hSw; (try dsimp only at hSw); go_simp; with_reducible rfl)
          try simp only [Act.put, List.setIfInBounds_toArray, List.set_cons_zero, List.set_cons_succ]
          refine wpAnyK_take (i := 11) [13] (v := ?v12) rfl (by kernel_rfl) (by kernel_rfl) (by kernel_rfl) (by kernel_rfl) (fun _ _ _ h => h) (Or.inl ⟨by rfl, ?hy12⟩) hH ?rest12
          case hy12 => (intro w hSw; (try dsimp only at hSw); go_simp; with_reducible rfl)
          try simp only [Act.put, List.setIfInBounds_toArray, List.set_cons_zero, List.set_cons_succ]
          refine wpAnyK_take (i := 12) [13] (v := ?v13) rfl (by kernel_rfl) (by kernel_rfl) (by kernel_rfl) (by kernel_rfl) (fun _ _ _ h => h) (Or.inl ⟨by rfl, ?hy13⟩) hH ?rest13
          case hy13 => (intro w hSw; (try dsimp only at hSw); go_simp; with_reducible rfl)
          try simp only [Act.put, List.setIfInBounds_toArray, List.set_cons_zero, List.set_cons_succ]
          refine wpAnyK_last (by kernel_rfl) rfl (fun K hK => ?_) (by kernel_rfl)
          go_simp
          refine hK.out _ _ (wpAnyK_done (by kernel_rfl) ?_ _)
          clear hK K hH
          have hfin : Lst kInts kIntsS (wr2.drew.setCell ⟨gi, j, none⟩ (.int .i64 nv)) B (.slice (some ⟨g, 0, none⟩) n co) (relist (mset mkInts i S) i (marks mkInts i 0 (j + 1) ++ S[i].2.drop (j + 1))) := by
            have hl0 : Lst kInts kIntsS wr2.drew B (.slice (some ⟨g, 0, none⟩) n co) _ := HX.out.1.below (Below.refl _ _).drew
            have h7 := hl0.relist (w' := wr2.drew.setCell ⟨gi, j, none⟩ (.int .i64 nv)) hi3 (l := marks mkInts i 0 (j + 1) ++ S[i].2.drop (j + 1)) (Tn.setCell _ _ _ (by rw [HX.out.2.2.2.2.1]; simp only; rw [HM.out.2.1]; rfl)) (by
              rw [HX.out.2.2.2.2.1]
              simp only
              rw [HM.out.2.1, ← HX.out.2.2.2.2.2.1]
              exact HX.out.2.2.2.1)
            rw [relist_twice] at h7
            exact h7
          have hom3 : Own kInts (wr2.drew.setCell ⟨gi, j, none⟩ (.int .i64 nv)) wo.heap.size (.slice (some ⟨gm, 0, none⟩) m cm) (marks mkInts i 0 m) :=
            (Tn.setCell (F := fun q => q = gi) wr2.drew ⟨gi, j, none⟩ _ rfl).row (World.ownsRow.drew HX.out.2.1) (fun q hq e => HX.out.2.2.2.2.2.2 (by rw [← e]; exact (Option.some.inj hq).symm))
          have htn3 : Tn (footL (.slice (some ⟨g, 0, none⟩) n co) S) w (wr2.drew.setCell ⟨gi, j, none⟩ (.int .i64 nv)) :=
            (HX.out.2.2.1.trans (Tn.drew _)).trans (Tn.setCell _ _ _ (.inr ⟨i, hi1, by rw [HM.out.2.1]; rfl⟩))
          have HF := Lib.hid (And.intro hfin (And.intro hom3 htn3))
          clear hfin hom3 htn3
          go_wp2_with fail
          go_roundw
          case rel => exact ⟨j + 1, by omega, by go_num, HF.out.1, HF.out.2.1, HF.out.2.2⟩
          case measure => simp [intOf]; omega
        · obtain rfl : j = m := by omega
          clear hom2
          have HZ := Lib.hid (And.intro hlst2 htn2)
          clear hlst2 htn2
          go_wp2
          go_roundw
          case rel =>
            refine ⟨i + 1, by omega, by go_num, ?_, HZ.out.2⟩
            have h6 := HZ.out.1
            rw [List.drop_of_length_le (by rw [HM.out.1]; omega), List.append_nil] at h6
            rw [← mset_succ mkInts i S hi1, HM.out.1]
            exact h6
          case measure => simp [intOf]; omega
    · obtain rfl : i = n := by omega
      clear hlst
      go_wp2
      go_end0
      exact ⟨rfl, HT.out.1, HT.out.2.1⟩
end Go.Proofs.YtnfpnmfgppamgaaGreat
