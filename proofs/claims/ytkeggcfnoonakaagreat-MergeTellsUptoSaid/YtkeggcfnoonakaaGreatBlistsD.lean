/-
  Book: the kind Lists: marks are laid.
-/
import Derived.Test.YtkeggcfnoonakaaGreatBlistsC
import Derived.Test.YtkeggcfnoonakaaGreatBk3
import Derived.Test.YtkeggcfnoonakaaGreatHold
set_option linter.unusedSimpArgs false
set_option linter.unusedVariables false
namespace Go.Proofs.YtkeggcfnoonakaaGreat
open Go.RowKit

/-- Marks that were made: what they hold, and where they lie. -/
def MkAll (w : World) (N : Nat) (mk : Nat → Nat → LK) (A : Nat → Nat → Prop) : Prop := ∀ i k, A i k → (mk i k).2 = mkL i k ∧ Own eKV w N (mk i k).1.val (mk i k).2
theorem MkAll.tn {w w' : World} {N : Nat} {mk : Nat → Nat → LK} {A : Nat → Nat → Prop} {G : Nat → Prop} (h : MkAll w N mk A) (ht : Tn G w w') (hG : ∀ i k, A i k → ∀ q, (mk i k).1.val.ownBlock = some q → ¬ G q) : MkAll w' N mk A :=
  fun i k ha => ⟨(h i k ha).1, ht.row (h i k ha).2 (hG i k ha)⟩
theorem MkAll.tnLt {w w' : World} {N : Nat} {mk : Nat → Nat → LK} {A : Nat → Nat → Prop} {G : Nat → Prop} (h : MkAll w N mk A) (ht : Tn G w w') (hG : ∀ q, G q → q < N) : MkAll w' N mk A :=
  h.tn ht (fun i k ha q hq hg => by have := ((h i k ha).2.lt q hq).1; have := hG q hg; omega)
theorem MkAll.below {w w' : World} {N : Nat} {mk : Nat → Nat → LK} {A : Nat → Nat → Prop} (h : MkAll w N mk A) (hb : Below w.heap.size w w') : MkAll w' N mk A :=
  fun i k ha => ⟨(h i k ha).1, row_below (h i k ha).2 hb⟩
theorem MkAll.mono {w : World} {N N' : Nat} {mk : Nat → Nat → LK} {A : Nat → Nat → Prop} (h : MkAll w N mk A) (hN : N' ≤ N) : MkAll w N' mk A :=
  fun i k ha => ⟨(h i k ha).1, row_mono (h i k ha).2 hN⟩
/-- Which marks the first i rows take. -/
def Rows (S : List (Sl × List LK)) (i : Nat) (j k : Nat) : Prop := ∃ hj : j < S.length, j < i ∧ k < S[j].2.length
theorem mset_congr {mk mk2 : Nat → Nat → LK} {i : Nat} {S : List (Sl × List LK)} (h : ∀ j, j < i → ∀ k, mk2 j k = mk j k) : mset mk2 i S = mset mk i S := by
  apply List.ext_getElem?
  intro j
  simp only [mset, List.getElem?_mapIdx]
  cases S[j]? with
  | none => rfl
  | some p =>
    simp only [Option.map_some]
    by_cases hj : j < i
    · rw [if_pos hj, if_pos hj]
      have : marks mk2 j 0 p.2.length = marks mk j 0 p.2.length := by
        unfold marks
        exact List.map_congr_left (fun t _ => h j hj _)
      rw [this]
    · rw [if_neg hj, if_neg hj]
theorem mk_row {w1 : World} {N N' m i : Nat} {S : List (Sl × List LK)} {mk : Nat → Nat → LK} {M : List LK} {v : Value} (hi : i < S.length) (h : MkAll w1 N mk (Rows S i)) (hM : MkdL w1 N' v i 0 m M) (hN : N ≤ N') (hm : S[i].2.length = m) :
    ∃ mk2, mset mk2 i S = mset mk i S ∧ marks mk2 i 0 m = M ∧ MkAll w1 N mk2 (Rows S (i + 1)) := by
  refine ⟨fun j k => if j = i then M.getD k (⟨none, 0, 0⟩, []) else mk j k, mset_congr (fun j hj k => if_neg (by omega)), ?_, fun j k hA => ?_⟩
  · apply List.ext_getElem?
    intro t
    by_cases h1 : t < m
    · have h2 : t < M.length := by rw [hM.len]; exact h1
      rw [marks_get _ _ _ _ h1, List.getElem?_eq_getElem h2]
      show some (if i = i then M.getD t (⟨none, 0, 0⟩, []) else mk i t) = _
      rw [if_pos rfl, List.getD_eq_getElem?_getD, List.getElem?_eq_getElem h2]
      rfl
    · rw [List.getElem?_eq_none (by rw [marks_len]; omega), List.getElem?_eq_none (by rw [hM.len]; omega)]
  · obtain ⟨hj, hji, hk⟩ := hA
    by_cases e : j = i
    · subst e
      have hkM : k < M.length := by rw [hM.len, ← hm]; exact hk
      have e2 : (if j = j then M.getD k (⟨none, 0, 0⟩, []) else mk j k) = M[k] := by
        rw [if_pos rfl, List.getD_eq_getElem?_getD, List.getElem?_eq_getElem hkM]
        rfl
      show (if j = j then M.getD k (⟨none, 0, 0⟩, []) else mk j k).2 = _ ∧ Own eKV w1 N (if j = j then M.getD k (⟨none, 0, 0⟩, []) else mk j k).1.val (if j = j then M.getD k (⟨none, 0, 0⟩, []) else mk j k).2
      rw [e2]
      have := hM.core k hkM
      rw [Nat.zero_add] at this
      exact ⟨this, row_mono (hM.each k hkM) hN⟩
    · show (if j = i then M.getD k (⟨none, 0, 0⟩, []) else mk j k).2 = _ ∧ Own eKV w1 N (if j = i then M.getD k (⟨none, 0, 0⟩, []) else mk j k).1.val (if j = i then M.getD k (⟨none, 0, 0⟩, []) else mk j k).2
      rw [if_neg e]
      exact h j k ⟨hj, by omega, hk⟩
theorem lk_at {w : World} {B n cap : Nat} {a : Option Addr} {l : List LK} (h : Own kLists w B (.slice a n cap) l) {j : Nat} {x : LK} (hj : l[j]? = some x) : ∃ g, a = some ⟨g, 0, none⟩ ∧ w.cell? ⟨g, j, none⟩ = some x.1.val ∧ w.frozen? ⟨g, j, none⟩ = false ∧ B ≤ g ∧ g < w.heap.size := by
  obtain ⟨hjl, he⟩ := List.getElem?_eq_some_iff.1 hj
  obtain ⟨g, h1, _, h2, h3, h4, h5⟩ := lk_get h hjl
  rw [he] at h2
  exact ⟨g, h1, h2, h3 j, h4, h5⟩

set_option maxRecDepth 100000 in
set_option maxHeartbeats 2000000 in
theorem put_Lists {w : World} {bk B : Nat} {vo : Value} {S : List (Sl × List LK)} (hc : w.cell? ⟨bk, 28, none⟩ = some vo) (hbk : bk < B) (h : Lst kLists kListsS w B vo S) (hS : S.length ≤ 1000) (hl : ∀ i (hi : i < S.length), S[i].2.length ≤ 100000) :
    Calls Tryz.prog 47 #[.pointer (some ⟨bk, 0, none⟩)] w fun e w' => e = .returned (.tuple #[]) ∧ ∃ mk, Lst kLists kListsS w' B vo (mset mk S.length S) ∧ MkAll w' w.heap.size mk (Rows S S.length) ∧ Tn (footL vo S) w w' := by
  obtain ⟨ao, co, rfl⟩ := h.form
  obtain ⟨n, hn⟩ : ∃ n, n = S.length := ⟨_, rfl⟩
  rw [← hn] at h hc hS ⊢
  have HL := Lib.hid hl
  have HN := Lib.hid hn
  have HC := Lib.hid (And.intro hc h)
  have hlt0 := World.block_lt_of_cell? _ _ hc
  clear hn hl
  go_enter Tryz.func47, Tryz.ntmps47
  go_wp2
  go_loopw [2, 3, 4] (fun iv _ _ wr => ∃ i : Nat, i ≤ n ∧ iv = .int .i64 (i : Int) ∧ ∃ mk, Lst kLists kListsS wr B (.slice ao n co) (mset mk i S) ∧ MkAll wr w.heap.size mk (Rows S i) ∧ Tn (footL (.slice ao n co) S) w wr) (fun iv _ _ _ => n - (intOf iv).toNat)
  case atStart => exact ⟨0, by omega, rfl, fun _ _ => (⟨none, 0, 0⟩, []), by rw [mset_zero]; exact h, fun i k ha => by obtain ⟨_, h9, _⟩ := ha; omega, Tn.refl _ _⟩
  case round =>
    obtain ⟨wo, rfl⟩ : ∃ wo, wo = wr := ⟨_, rfl⟩
    obtain ⟨i, hi, rfl, mk, hlst, hmka, htn⟩ := hrel
    clear hc h
    have hnf : ∀ q, footL (.slice ao n co) S q → q ≠ bk := fun q hq e => by have := (HC.out.2.lt hq).1; omega
    have cb : wo.cell? ⟨bk, 28, none⟩ = some (.slice ao n co) := htn.cell HC.out.1 (fun hq => hnf bk hq rfl)
    have HT := Lib.hid (And.intro hlst (And.intro htn hnf))
    have HA := Lib.hid hmka
    clear htn hnf hmka
    by_cases hlt : i < n
    · have hi1 : i < S.length := by have := HN.out; omega
      have hi2 : i < (mset mk i S).length := by rw [mset_len]; exact hi1
      have hmg : (mset mk i S)[i] = (S[i].1, S[i].2) := by rw [mset_get mk i i S hi2 hi1]; simp
      obtain ⟨g, sa, sc, rfl, d1, s1⟩ := hlst.at_ hi2
      rw [hmg] at d1 s1
      simp only at d1 s1
      obtain ⟨m, hm⟩ : ∃ m, S[i].2.length = m := ⟨_, rfl⟩
      have hll := HL.out i hi1
      rw [hm] at d1 s1 hll
      have HM := Lib.hid (And.intro hm s1)
      have r1 : (i : Int) < (n : Int) := by omega
      clear hm s1 hmg hlst
      go_wp2_with (go_at_call 111; refine (mark_Lists i 0 m (by omega) (by omega) (by omega) _).mono ?_; rintro e w1 ⟨am, cm, M, rfl, hom, hbm⟩; have HO1 := Lib.hid (And.intro hom hbm); clear hom hbm)
      obtain ⟨mk2, hms, hmM, hmA⟩ := mk_row hi1 (HA.out.below HO1.out.2) HO1.out.1 (HT.out.2.1.size) HM.out.1
      have HO := Lib.hid (show Own kLists w1 wo.heap.size (.slice am m cm) (marks mk2 i 0 m) ∧ Below wo.heap.size wo w1 from ⟨by rw [hmM]; exact HO1.out.1.own, HO1.out.2⟩)
      have hi2b : i < (mset mk2 i S).length := by rw [mset_len]; exact hi1
      have hmg2 : (mset mk2 i S)[i] = (S[i].1, S[i].2) := by rw [mset_get mk2 i i S hi2b hi1]; simp
      have HM2 := Lib.hid (And.intro HM.out.1 (And.intro HM.out.2 hmg2))
      have HT2 : Hid (Lst kLists kListsS wo B (.slice (some ⟨g, 0, none⟩) n co) (mset mk2 i S) ∧ Tn (footL (.slice (some ⟨g, 0, none⟩) n co) S) w wo ∧ ∀ q, footL (.slice (some ⟨g, 0, none⟩) n co) S q → q ≠ bk) := Lib.hid ⟨by rw [hms]; exact HT.out.1, HT.out.2⟩
      have HA2 := Lib.hid hmA
      clear hmM hmA hmg2 hms HO1 HT HM HA hi2
      go_loopw [4] (fun kv wr2 => ∃ j : Nat, j ≤ m ∧ kv = .int .i64 (j : Int) ∧ Lst kLists kListsS wr2 B (.slice (some ⟨g, 0, none⟩) n co) (relist (mset mk2 i S) i (marks mk2 i 0 j ++ S[i].2.drop j)) ∧ Own kLists wr2 wo.heap.size (.slice am m cm) (marks mk2 i 0 m) ∧ Tn (footL (.slice (some ⟨g, 0, none⟩) n co) S) w wr2 ∧ Tn (footL (.slice (some ⟨g, 0, none⟩) n co) S) w1 wr2) (fun kv _ => m - (intOf kv).toNat)
      case atStart =>
        refine ⟨0, by omega, rfl, ?_, HO.out.1, HT2.out.2.1.trans (Tn.ofBelow HO.out.2), Tn.refl _ _⟩
        have : marks mk2 i 0 0 ++ S[i].2.drop 0 = (mset mk2 i S)[i].2 := by rw [HM2.out.2.2]; rfl
        rw [this, relist_same _ _ hi2b]
        exact HT2.out.1.below HO.out.2
      case round =>
        obtain ⟨wr2, rfl⟩ : ∃ wr2, wr2 = wr := ⟨_, rfl⟩
        obtain ⟨j, hj, rfl, hlst2, hom2, htn2, htz2⟩ := hrel
        have cb2 : wr2.cell? ⟨bk, 28, none⟩ = some (.slice (some ⟨g, 0, none⟩) n co) := htn2.cell HC.out.1 (fun hq => HT2.out.2.2 bk hq rfl)
        by_cases hlt2 : j < m
        · have hi3 : i < (relist (mset mk2 i S) i (marks mk2 i 0 j ++ S[i].2.drop j)).length := by rw [relist_len]; exact hi2b
          have hrg : (relist (mset mk2 i S) i (marks mk2 i 0 j ++ S[i].2.drop j))[i] = (S[i].1, marks mk2 i 0 j ++ S[i].2.drop j) := by
            rw [relist_get _ i i _ hi3 hi2b, HM2.out.2.2]; simp
          have hml : (marks mk2 i 0 j ++ S[i].2.drop j).length = m := by rw [List.length_append, marks_len, List.length_drop, HM2.out.1]; omega
          obtain ⟨g', sa', sc', hg', d2, s2⟩ := hlst2.at_ hi3
          obtain rfl : g = g' := by injection hg' with e; injection e
          have hown := hlst2.each i hi3
          rw [hrg] at d2 s2 hown
          simp only [hml] at d2 s2
          simp only at hown
          rw [HM2.out.2.1] at s2
          obtain ⟨rfl, -, rfl⟩ := Value.slice.inj s2
          rw [HM2.out.2.1] at hown
          have hsd : (marks mk2 i 0 j ++ S[i].2.drop j)[j]? = some (S[i].2[j]'(by rw [HM2.out.1]; exact hlt2)) := by
            rw [List.getElem?_append_right (by rw [marks_len]; omega), marks_len, Nat.sub_self, List.getElem?_drop, Nat.add_zero, List.getElem?_eq_getElem (by rw [HM2.out.1]; exact hlt2)]
          obtain ⟨gi, rfl, x1, x2, x3, x4⟩ := lk_at hown hsd
          obtain ⟨gm, rfl, y1, -, y3, y4⟩ := lk_at hom2 (marks_get mk2 i m j hlt2)
          obtain ⟨ov, hov⟩ : ∃ ov, S[i].2[j]'(by rw [HM2.out.1]; exact hlt2) = ov := ⟨_, rfl⟩
          rw [hov] at x1
          obtain ⟨⟨ov1, ov2, ov3⟩, ovl⟩ := ov
          replace x1 : wr2.cell? ⟨gi, j, none⟩ = some (.slice ov1 ov2 ov3) := x1
          obtain ⟨nva, nvn, nvc, nvl, hnv⟩ : ∃ a n c l, mk2 i j = ((⟨a, n, c⟩ : Sl), l) := ⟨_, _, _, _, rfl⟩
          rw [hnv] at y1
          replace y1 : wr2.cell? ⟨gm, j, none⟩ = some (.slice nva nvn nvc) := y1
          have hset := lset_row hown (by exact hml) j (mk2 i j)
          rw [mark_over mk2 i j _ (by rw [HM2.out.1]; exact hlt2)] at hset
          have hgg : gi ≠ gm := fun e => by
            have := (hlst2.lt (q := gi) (.inr ⟨i, hi3, by rw [hrg]; simp only; rw [HM2.out.2.1]; rfl⟩)).2
            have h5 : footL (.slice (some ⟨g, 0, none⟩) n co) (mset mk2 i S) gi := .inr ⟨i, hi2b, by rw [HM2.out.2.2]; simp only; rw [HM2.out.2.1]; rfl⟩
            have := (HT2.out.1.lt h5).2
            omega
          have HX := Lib.hid (And.intro hlst2 (And.intro hom2 (And.intro htn2 (And.intro hset (And.intro hrg (And.intro hnv (And.intro hgg htz2)))))))
          have r2 : (j : Int) < (m : Int) := by omega
          clear hlst2 hom2 htn2 htz2 hset hrg hnv hov hown s2 hml hsd hg' hgg
          go_wp2
          refine wp_region_K (fun w' => w'.cell? ⟨bk, 28, none⟩ = some (.slice (some ⟨g, 0, none⟩) n co) ∧ w'.cell? ⟨g, i, none⟩ = some (.slice (some ⟨gi, 0, none⟩) m sc) ∧ w'.cell? ⟨gm, j, none⟩ = some (.slice nva nvn nvc)) 13 14 (by kernel_rfl) (by kernel_rfl) ⟨cb2, d2, y1⟩ (fun hH => ?_)
          refine wpAnyK_take (i := 0) [13] (v := ?v1) rfl (by kernel_rfl) (by kernel_rfl) (by kernel_rfl) (by kernel_rfl) (fun _ _ _ h => h) (Or.inl ⟨by rfl, ?hy1⟩) hH ?rest1
          case hy1 => (intro w hSw; (try dsimp only at hSw); go_simp; with_reducible rfl)
          try simp only [Act.put, List.setIfInBounds_toArray, List.set_cons_zero, List.set_cons_succ]
          refine wpAnyK_take (i := 1) [13] (v := ?v2) rfl (by kernel_rfl) (by kernel_rfl) (by kernel_rfl) (by kernel_rfl) (fun _ _ _ h => h) (Or.inl ⟨by rfl, ?hy2⟩) hH ?rest2
          case hy2 => (intro w hSw; (try dsimp only at hSw); go_simp; with_reducible rfl)
          try simp only [Act.put, List.setIfInBounds_toArray, List.set_cons_zero, List.set_cons_succ]
          refine wpAnyK_take (i := 2) [13] (v := ?v3) rfl (by kernel_rfl) (by kernel_rfl) (by kernel_rfl) (by kernel_rfl) (fun _ _ _ h => h) (Or.inl ⟨by rfl, ?hy3⟩) hH ?rest3
          case hy3 => (intro w hSw; (try dsimp only at hSw); go_simp; with_reducible rfl)
          try simp only [Act.put, List.setIfInBounds_toArray, List.set_cons_zero, List.set_cons_succ]
          refine wpAnyK_take (i := 3) [13] (v := ?v4) rfl (by kernel_rfl) (by kernel_rfl) (by kernel_rfl) (by kernel_rfl) (fun _ _ _ h => h) (Or.inl ⟨by rfl, ?hy4⟩) hH ?rest4
          case hy4 => (intro w hSw; (try dsimp only at hSw); go_simp; with_reducible rfl)
          try simp only [Act.put, List.setIfInBounds_toArray, List.set_cons_zero, List.set_cons_succ]
          refine wpAnyK_take (i := 4) [13] (v := ?v5) rfl (by kernel_rfl) (by kernel_rfl) (by kernel_rfl) (by kernel_rfl) (fun _ _ _ h => h) (Or.inl ⟨by rfl, ?hy5⟩) hH ?rest5
          case hy5 => (intro w hSw; (try dsimp only at hSw); go_simp; with_reducible rfl)
          try simp only [Act.put, List.setIfInBounds_toArray, List.set_cons_zero, List.set_cons_succ]
          refine wpAnyK_take (i := 5) [13] (v := ?v6) rfl (by kernel_rfl) (by kernel_rfl) (by kernel_rfl) (by kernel_rfl) (fun _ _ _ h => h) (Or.inl ⟨by rfl, ?hy6⟩) hH ?rest6
          case hy6 => (intro w hSw; (try dsimp only at hSw); go_simp; with_reducible rfl)
          try simp only [Act.put, List.setIfInBounds_toArray, List.set_cons_zero, List.set_cons_succ]
          refine wpAnyK_take (i := 6) [13] (v := ?v7) rfl (by kernel_rfl) (by kernel_rfl) (by kernel_rfl) (by kernel_rfl) (fun _ _ _ h => h) (Or.inl ⟨by rfl, ?hy7⟩) hH ?rest7
          case hy7 => (intro w hSw; (try dsimp only at hSw); go_simp; with_reducible rfl)
          try simp only [Act.put, List.setIfInBounds_toArray, List.set_cons_zero, List.set_cons_succ]
          refine wpAnyK_take (i := 7) [13] (v := ?v8) rfl (by kernel_rfl) (by kernel_rfl) (by kernel_rfl) (by kernel_rfl) (fun _ _ _ h => h) (Or.inl ⟨by rfl, ?hy8⟩) hH ?rest8
          case hy8 => (intro w hSw; (try dsimp only at hSw); go_simp; with_reducible rfl)
          try simp only [Act.put, List.setIfInBounds_toArray, List.set_cons_zero, List.set_cons_succ]
          refine wpAnyK_take (i := 8) [13] (v := ?v9) rfl (by kernel_rfl) (by kernel_rfl) (by kernel_rfl) (by kernel_rfl) (fun _ _ _ h => h) (Or.inl ⟨by rfl, ?hy9⟩) hH ?rest9
          case hy9 => (intro w hSw; (try dsimp only at hSw); go_simp; with_reducible rfl)
          try simp only [Act.put, List.setIfInBounds_toArray, List.set_cons_zero, List.set_cons_succ]
          refine wpAnyK_take (i := 9) [13] (v := ?v10) rfl (by kernel_rfl) (by kernel_rfl) (by kernel_rfl) (by kernel_rfl) (fun _ _ _ h => h) (Or.inl ⟨by rfl, ?hy10⟩) hH ?rest10
          case hy10 => (intro w hSw; (try dsimp only at hSw); go_simp; with_reducible rfl)
          try simp only [Act.put, List.setIfInBounds_toArray, List.set_cons_zero, List.set_cons_succ]
          refine wpAnyK_take (i := 10) [13] (v := ?v11) rfl (by kernel_rfl) (by kernel_rfl) (by kernel_rfl) (by kernel_rfl) (fun _ _ _ h => h) (Or.inl ⟨by rfl, ?hy11⟩) hH ?rest11
          case hy11 => (intro w hSw; (try dsimp only at hSw); go_simp; with_reducible rfl)
          try simp only [Act.put, List.setIfInBounds_toArray, List.set_cons_zero, List.set_cons_succ]
          refine wpAnyK_take (i := 11) [13] (v := ?v12) rfl (by kernel_rfl) (by kernel_rfl) (by kernel_rfl) (by kernel_rfl) (fun _ _ _ h => h) (Or.inl ⟨by rfl, ?hy12⟩) hH ?rest12
          case hy12 => (intro w hSw; (try dsimp only at hSw); go_simp; with_reducible rfl)
          try simp only [Act.put, List.setIfInBounds_toArray, List.set_cons_zero, List.set_cons_succ]
          refine wpAnyK_take (i := 12) [13] (v := ?v13) rfl (by kernel_rfl) (by kernel_rfl) (by kernel_rfl) (by kernel_rfl) (fun _ _ _ h => h) (Or.inl ⟨by rfl, ?hy13⟩) hH ?rest13
          case hy13 => (intro w hSw; (try dsimp only at hSw); go_simp; with_reducible rfl)
          try simp only [Act.put, List.setIfInBounds_toArray, List.set_cons_zero, List.set_cons_succ]
          refine wpAnyK_last (by kernel_rfl) rfl (fun K hK => ?_) (by kernel_rfl)
          go_simp
          refine hK.out _ _ (wpAnyK_done (by kernel_rfl) ?_ _)
          clear hK K hH
          have hfin : Lst kLists kListsS (wr2.drew.setCell ⟨gi, j, none⟩ (.slice nva nvn nvc)) B (.slice (some ⟨g, 0, none⟩) n co) (relist (mset mk2 i S) i (marks mk2 i 0 (j + 1) ++ S[i].2.drop (j + 1))) := by
            have hl0 : Lst kLists kListsS wr2.drew B (.slice (some ⟨g, 0, none⟩) n co) _ := HX.out.1.below (Below.refl _ _).drew
            have h7 := hl0.relist (w' := wr2.drew.setCell ⟨gi, j, none⟩ (.slice nva nvn nvc)) hi3 (l := marks mk2 i 0 (j + 1) ++ S[i].2.drop (j + 1)) (Tn.setCell _ _ _ (by rw [HX.out.2.2.2.2.1]; simp only; rw [HM2.out.2.1]; rfl)) (by
              rw [HX.out.2.2.2.2.1]
              simp only
              rw [HM2.out.2.1]
              have h8 := HX.out.2.2.2.1
              rw [HX.out.2.2.2.2.2.1] at h8
              exact h8)
            rw [relist_twice] at h7
            exact h7
          have hom3 : Own kLists (wr2.drew.setCell ⟨gi, j, none⟩ (.slice nva nvn nvc)) wo.heap.size (.slice (some ⟨gm, 0, none⟩) m cm) (marks mk2 i 0 m) :=
            (Tn.setCell (F := fun q => q = gi) wr2.drew ⟨gi, j, none⟩ _ rfl).row (World.ownsRow.drew HX.out.2.1) (fun q hq e => HX.out.2.2.2.2.2.2.1 (by rw [← e]; exact (Option.some.inj hq).symm))
          have htn3 : Tn (footL (.slice (some ⟨g, 0, none⟩) n co) S) w (wr2.drew.setCell ⟨gi, j, none⟩ (.slice nva nvn nvc)) :=
            (HX.out.2.2.1.trans (Tn.drew _)).trans (Tn.setCell _ _ _ (.inr ⟨i, hi1, by rw [HM2.out.2.1]; rfl⟩))
          have htz3 : Tn (footL (.slice (some ⟨g, 0, none⟩) n co) S) w1 (wr2.drew.setCell ⟨gi, j, none⟩ (.slice nva nvn nvc)) :=
            (HX.out.2.2.2.2.2.2.2.trans (Tn.drew _)).trans (Tn.setCell _ _ _ (.inr ⟨i, hi1, by rw [HM2.out.2.1]; rfl⟩))
          have HF := Lib.hid (And.intro hfin (And.intro hom3 (And.intro htn3 htz3)))
          clear hfin hom3 htn3 htz3
          go_wp2_with fail
          go_roundw
          case rel => exact ⟨j + 1, by omega, by go_num, HF.out.1, HF.out.2.1, HF.out.2.2.1, HF.out.2.2.2⟩
          case measure => simp [intOf]; omega
        · obtain rfl : j = m := by omega
          clear hom2
          have HZ := Lib.hid (And.intro hlst2 (And.intro htn2 htz2))
          clear hlst2 htn2 htz2
          go_wp2
          go_roundw
          case rel =>
            refine ⟨i + 1, by omega, by go_num, mk2, ?_, HA2.out.tnLt HZ.out.2.2 (fun q hq => (HC.out.2.lt hq).2), HZ.out.2.1⟩
            have h6 := HZ.out.1
            rw [List.drop_of_length_le (by rw [HM2.out.1]; omega), List.append_nil] at h6
            rw [← mset_succ mk2 i S hi1, HM2.out.1]
            exact h6
          case measure => simp [intOf]; omega
    · obtain rfl : i = n := by omega
      clear hlst
      go_wp2
      go_end0
      exact ⟨rfl, mk, HT.out.1, HA.out, HT.out.2.1⟩
end Go.Proofs.YtkeggcfnoonakaaGreat
