/-
  Book: the kind Lists: lists are grown; are all marked?
-/
import Derived.Test.YtkeggcfnoonakaaGreatBlistsD
import Derived.Test.YtkeggcfnoonakaaGreatBlistsB
import Derived.Test.YtkeggcfnoonakaaGreatBk4
set_option linter.unusedSimpArgs false
set_option linter.unusedVariables false
namespace Go.Proofs.YtkeggcfnoonakaaGreat
open Go.RowKit

/-- Which marks are made when the row i has got t more. -/
def GA (S : List (Sl × List LK)) (i t j k : Nat) : Prop := ∃ hj : j < S.length, (j < i ∧ k < S[j].2.length + 72) ∨ (j = i ∧ k < S[j].2.length + t) ∨ k < S[j].2.length
structure GL (wr : World) (N : Nat) (mk : Nat → Nat → LK) (S : List (Sl × List LK)) (i t : Nat) (ov lv : Value) : Prop where
  all : MkAll wr N mk (GA S i t)
  avoO : ∀ j k, GA S i t j k → ∀ q, (mk j k).1.val.ownBlock = some q → ov.ownBlock ≠ some q
  avoL : ∀ j k, GA S i t j k → ∀ q, (mk j k).1.val.ownBlock = some q → lv.ownBlock ≠ some q
  mkd : Mkd mk S
theorem marks_congr {mk mk2 : Nat → Nat → LK} {i f n : Nat} (h : ∀ k, f ≤ k → k < f + n → mk2 i k = mk i k) : marks mk2 i f n = marks mk i f n := by
  unfold marks
  exact List.map_congr_left (fun t ht => h _ (Nat.le_add_right _ _) (by have := List.mem_range.1 ht; omega))
section
variable {wr w' w0 : World} {N i t B : Nat} {mk : Nat → Nat → LK} {S Sg : List (Sl × List LK)} {ov lv vo : Value}
theorem GL.below (h : GL wr N mk S i t ov lv) (hb : Below wr.heap.size wr w') : GL w' N mk S i t ov lv := ⟨h.all.below hb, h.avoO, h.avoL, h.mkd⟩
theorem GL.app {P : Program} {T E : TypeId} {k by_ : Nat} {α : Type} {cell : α → List Value} {e : Elm P T E k by_ cell} {B : Nat} {lv' : Value} {l l2 : List α} (h : GL wr N mk S i t ov lv) (hap : Appd e wr w' B lv lv' l l2) : GL w' N mk S i t ov lv' :=
  ⟨h.all.tn hap.tn h.avoL, h.avoO, fun j k ha q hq hv => by
    rcases hap.block with hb | hb
    · exact h.avoL j k ha q hq (hb ▸ hv)
    · have := hb q hv; have := ((h.all j k ha).2.lt q hq).2; omega, h.mkd⟩
theorem GL.appO {P : Program} {T E : TypeId} {k by_ : Nat} {α : Type} {cell : α → List Value} {e : Elm P T E k by_ cell} {B : Nat} {ov' : Value} {l l2 : List α} (h : GL wr N mk S i 72 ov lv) (hap : Appd e wr w' B ov ov' l l2) (lv2 : Value) (hl : ∀ q, lv2.ownBlock = some q → q < N) : GL w' N mk S (i + 1) 0 ov' lv2 := by
  have hga : ∀ j k, GA S (i + 1) 0 j k → GA S i 72 j k := fun j k ⟨hj, h1⟩ => ⟨hj, by
    rcases h1 with ⟨h1, h2⟩ | ⟨h1, h2⟩ | h1
    · by_cases e : j = i
      · exact .inr (.inl ⟨e, h2⟩)
      · exact .inl ⟨by omega, h2⟩
    · exact .inr (.inr (by omega))
    · exact .inr (.inr h1)⟩
  exact ⟨fun j k ha => (h.all.tn hap.tn h.avoO) j k (hga j k ha), fun j k ha q hq hv => by
    rcases hap.block with hb | hb
    · exact h.avoO j k (hga j k ha) q hq (hb ▸ hv)
    · have := hb q hv; have := ((h.all j k (hga j k ha)).2.lt q hq).2; omega, fun j k ha q hq hv => by
    have := hl q hv; have := ((h.all j k (hga j k ha)).2.lt q hq).1; omega, h.mkd⟩
theorem GL.lv2 (h : GL wr N mk S i t ov lv) {lv2 : Value} (hl : ∀ q, lv2.ownBlock = some q → q < N) : GL wr N mk S i t ov lv2 :=
  ⟨h.all, h.avoO, fun j k ha q hq hv => by have := hl q hv; have := ((h.all j k ha).2.lt q hq).1; omega, h.mkd⟩
theorem Grow.congr {mk2 : Nat → Nat → LK} (h : Grow kLists kListsS mk w0 wr B vo S ov Sg i) (hc : ∀ j, j < i → ∀ k, mk2 j k = mk j k) : Grow kLists kListsS mk2 w0 wr B vo S ov Sg i :=
  ⟨h.l0, h.l, h.g, h.len, fun j hj hj' => by rw [h.mkd j hj hj']; exact (marks_congr (fun k _ _ => hc j (by have := h.len; omega) k)).symm, h.freshO, h.freshE, h.tn⟩
theorem GL.mark {N' m' : Nat} {M : List LK} {v : Value} (h : GL wr N mk S i t ov lv) (hin : GrowIn kLists kListsS mk w0 wr B vo S ov Sg i lv t) (hM : MkdL wr N' v i ((S[i]'hin.hi).2.length + t) m' M) (hN : N ≤ N') (ho : ∀ q, ov.ownBlock = some q → q < N') (hl : ∀ q, lv.ownBlock = some q → q < N') :
    ∃ mk2, GrowIn kLists kListsS mk2 w0 wr B vo S ov Sg i lv t ∧ GL wr N mk2 S i (t + m') ov lv ∧ marks mk2 i ((S[i]'hin.hi).2.length + t) m' = M := by
  have hi := hin.hi
  obtain ⟨L, hL⟩ : ∃ L, S[i].2.length = L := ⟨_, rfl⟩
  rw [hL] at hM ⊢
  obtain ⟨mk2, hmk2⟩ : ∃ mk2 : Nat → Nat → LK, mk2 = fun j k => if j = i ∧ L + t ≤ k then M.getD (k - (L + t)) (⟨none, 0, 0⟩, []) else mk j k := ⟨_, rfl⟩
  have hold : ∀ j k, ¬ (j = i ∧ L + t ≤ k) → mk2 j k = mk j k := fun j k hn => by rw [hmk2]; exact if_neg hn
  have hnew : ∀ u (hu : u < M.length), mk2 i (L + t + u) = M[u] := fun u hu => by
    rw [hmk2]
    show (if i = i ∧ L + t ≤ L + t + u then M.getD (L + t + u - (L + t)) (⟨none, 0, 0⟩, []) else mk i (L + t + u)) = _
    rw [if_pos ⟨rfl, by omega⟩, show L + t + u - (L + t) = u by omega, List.getD_eq_getElem?_getD, List.getElem?_eq_getElem hu]
    rfl
  have hcase : ∀ j k, GA S i (t + m') j k → (GA S i t j k ∧ mk2 j k = mk j k) ∨ ∃ u, ∃ hu : u < M.length, j = i ∧ k = L + t + u := fun j k ⟨hj, h1⟩ => by
    by_cases hn : j = i ∧ L + t ≤ k
    · right
      obtain ⟨e1, e2⟩ := hn
      subst e1
      rw [hL] at h1
      have : k < L + (t + m') := by omega
      exact ⟨k - (L + t), by rw [hM.len]; omega, rfl, by omega⟩
    · left
      refine ⟨⟨hj, ?_⟩, hold j k hn⟩
      rcases h1 with h1 | ⟨h1, h2⟩ | h1
      · exact .inl h1
      · subst h1
        rw [hL]
        exact .inr (.inl ⟨rfl, by omega⟩)
      · exact .inr (.inr h1)
  have hmkd : Mkd mk2 S := fun j hj => by
    rw [marks_congr (mk := mk) (fun k _ hk => hold j k (fun hn => by
      obtain ⟨e1, e2⟩ := hn
      subst e1
      rw [hL] at hk
      omega))]
    exact h.mkd j hj
  refine ⟨mk2, ⟨hin.gr.congr (fun j hj k => hold j k (fun hn => by omega)), hi, ?_, hin.pl, hin.nf⟩, ⟨fun j k ha => ?_, fun j k ha q hq => ?_, fun j k ha q hq => ?_, hmkd⟩, ?_⟩
  · have := hin.own
    rw [hL] at this ⊢
    rw [marks_congr (mk := mk) (mk2 := mk2) (fun k _ hk => hold i k (fun hn => by omega))]
    exact this
  · rcases hcase j k ha with ⟨h1, h2⟩ | ⟨u, hu, rfl, rfl⟩
    · rw [h2]; exact h.all j k h1
    · rw [hnew u hu]
      exact ⟨hM.core u hu, row_mono (hM.each u hu) hN⟩
  · rcases hcase j k ha with ⟨h1, h2⟩ | ⟨u, hu, rfl, rfl⟩
    · rw [h2] at hq; exact h.avoO j k h1 q hq
    · rw [hnew u hu] at hq
      intro hv
      have := ho q hv; have := ((hM.each u hu).lt q hq).1; omega
  · rcases hcase j k ha with ⟨h1, h2⟩ | ⟨u, hu, rfl, rfl⟩
    · rw [h2] at hq; exact h.avoL j k h1 q hq
    · rw [hnew u hu] at hq
      intro hv
      have := hl q hv; have := ((hM.each u hu).lt q hq).1; omega
  · apply List.ext_getElem?
    intro u
    by_cases hu : u < m'
    · have hu2 : u < M.length := by rw [hM.len]; exact hu
      rw [List.getElem?_eq_getElem hu2, ← hnew u hu2]
      simp [marks, hu]
    · rw [List.getElem?_eq_none (by rw [marks_len]; omega), List.getElem?_eq_none (by rw [hM.len]; omega)]
end
set_option maxRecDepth 100000 in
set_option maxHeartbeats 2000000 in
theorem grow_Lists {w : World} {bk B : Nat} {vo : Value} {S : List (Sl × List LK)} (hc : w.cell? ⟨bk, 28, none⟩ = some vo) (hbk : bk < B) (h : Lst kLists kListsS w B vo S) (hS : S.length ≤ 1000) (hl : ∀ i (hi : i < S.length), S[i].2.length ≤ 100000) {mk : Nat → Nat → LK} {N : Nat} (hmk : Mkd mk S) (hall : MkAll w N mk (Rows S S.length)) (hN : N ≤ w.heap.size) (hF : ∀ q, footL vo S q → q < N) (hB : B ≤ w.heap.size) :
    Calls Tryz.prog 72 #[.pointer (some ⟨bk, 0, none⟩)] w fun e w' => ∃ outv Sg mk, e = .returned outv ∧ Grow kLists kListsS mk w w' B vo S outv Sg S.length ∧ GL w' N mk S S.length 0 outv (.slice none 0 0) := by
  obtain ⟨ao, co, rfl⟩ := h.form
  obtain ⟨n, hn⟩ : ∃ n, n = S.length := ⟨_, rfl⟩
  rw [← hn] at h hc hS ⊢
  have HL := Lib.hid hl
  have HN := Lib.hid hn
  have hgl : GL w N mk S 0 0 (.slice none 0 0) (.slice none 0 0) := ⟨fun j k ha => by
    obtain ⟨hj, h1⟩ := ha
    exact hall j k ⟨hj, hj, by omega⟩, (fun _ _ _ _ _ hv => by cases hv), (fun _ _ _ _ _ hv => by cases hv), hmk⟩
  have HC := Lib.hid (And.intro hc (And.intro h (And.intro hN hF)))
  have hlt0 : bk < w.heap.size := World.block_lt_of_cell? _ _ hc
  clear hn hl hmk hall hN hF
  go_enter Tryz.func72, Tryz.ntmps72
  go_wp2
  go_loopw [3, 4, 5, 6] (fun ov iv _ _ wr => ∃ i : Nat, i ≤ n ∧ iv = .int .i64 (i : Int) ∧ ∃ Sg mk, Grow kLists kListsS mk w wr B (.slice ao n co) S ov Sg i ∧ GL wr N mk S i 0 ov (.slice none 0 0)) (fun _ iv _ _ _ => n - (intOf iv).toNat)
  case atStart => exact ⟨0, by omega, rfl, [], mk, Grow.start h, hgl⟩
  case round =>
    obtain ⟨wo, rfl⟩ : ∃ wo, wo = wr := ⟨_, rfl⟩
    obtain ⟨i, hi, rfl, Sg, mk, hgr, hgl⟩ := hrel
    clear hc h
    have cb : wo.cell? ⟨bk, 28, none⟩ = some (.slice ao n co) := hgr.tn.cell HC.out.1 (fun hq => by have := (HC.out.2.1.lt (q := bk) hq).1; omega)
    obtain ⟨aout, cout, rfl⟩ := hgr.g.form
    have hsg := hgr.len
    rw [hsg] at hgr hgl ⊢
    have HG := Lib.hid (And.intro hgr (And.intro hsg hgl))
    clear hsg hgl
    by_cases hlt : i < n
    · have hi1 : i < S.length := by have := HN.out; omega
      obtain ⟨g, sa, sc, rfl, d1, s1⟩ := hgr.l.at_ hi1
      have hin := hgr.in_ hi1 HG.out.2.2.mkd
      rw [s1] at hin
      obtain ⟨m, hm⟩ : ∃ m, S[i].2.length = m := ⟨_, rfl⟩
      have hll := HL.out i hi1
      rw [hm] at d1 s1 hll hin
      have hl0 : GL wo N mk S i 0 (.slice aout i cout) (.slice sa m sc) := HG.out.2.2.lv2 (fun q hq => HC.out.2.2.2 q (.inr ⟨i, hi1, by rw [s1]; exact hq⟩))
      have HM := Lib.hid (And.intro hm (And.intro s1 (And.intro hin hl0)))
      clear hl0
      have r1 : (i : Int) < (n : Int) := by omega
      clear hm s1 hgr hin
      go_wp2
      go_loopw [5, 6] (fun lv tv wr2 => ∃ t : Nat, t ≤ 12 ∧ tv = .int .i64 (t : Int) ∧ ∃ la lc mk, lv = .slice la (m + t) lc ∧ GrowIn kLists kListsS mk w wr2 B (.slice (some ⟨g, 0, none⟩) n co) S (.slice aout i cout) Sg i lv t ∧ GL wr2 N mk S i t (.slice aout i cout) lv) (fun _ tv _ => 12 - (intOf tv).toNat)
      case atStart => exact ⟨0, by omega, rfl, sa, sc, mk, rfl, HM.out.2.2.1, HM.out.2.2.2⟩
      case round =>
        obtain ⟨wr2, rfl⟩ : ∃ wr2, wr2 = wr := ⟨_, rfl⟩
        obtain ⟨t, ht, rfl, la, lc, mk1, rfl, hin2, hgl2⟩ := hrel
        have HI := Lib.hid hin2
        have HL2 := Lib.hid hgl2
        clear hin2 hgl2
        by_cases hlt2 : t < 12
        · have r2 : (t : Int) < 12 := by omega
          have mm := mark_Lists i (m + t) 1 (by omega) (by omega) (by omega)
          go_wp2_with (first
            | (go_at_call 111; go_loud (refine (mm _).mono ?_); rintro e w3 ⟨am, cm, M, rfl, hom, hbm⟩; obtain ⟨mk2, g1, g2, g3⟩ := (HL2.out.below hbm).mark (HI.out.below hbm) (m' := 1) (M := M) (by rw [HM.out.1]; exact hom) (Nat.le_trans HC.out.2.2.1 HI.out.gr.tn.size) (fun q hq => (HI.out.gr.g.lt (.inl hq)).2) (fun q hq => (HI.out.own.lt q hq).2); rw [HM.out.1] at g3; have HO := Lib.hid (show Own kLists w3 wr2.heap.size (.slice am 1 cm) (marks mk2 i (m + t) 1) ∧ Below wr2.heap.size wr2 w3 from ⟨by rw [g3]; exact hom.own, hbm⟩); have HI2 := Lib.hid (And.intro g1 g2); clear hom hbm g1 g2 g3)
            | (at_builtin; have tok := HO; go_loud (refine wpl_app2 kLists rfl _ _ rfl rfl rfl (l := marks mk2 i 0 m ++ marks mk2 i m t) (l2 := marks mk2 i (m + t) 1) (by rw [marks_app]; have h9 := HI2.out.1.own; rw [HM.out.1] at h9; have e9 := marks_len mk2 i 0 (m + t); exact h9) (src_own HO.out.1 (Below.refl _ _)) (by rw [List.length_append, marks_len, marks_len, marks_len]; omega) (Nat.le_trans hB HI2.out.1.gr.tn.size) ?_); go_loud (rw [show (marks mk2 i 0 m ++ marks mk2 i m t).length + (marks mk2 i (m + t) 1).length = m + (t + 1) from by rw [List.length_append, marks_len, marks_len, marks_len]; (try omega)]; intro a4 cap4 w4 hap; have hap2 : Appd kLists w3 w4 B (.slice la (m + t) lc) (.slice a4 (m + (t + 1)) cap4) (marks mk2 i 0 m ++ marks mk2 i m t) (marks mk2 i (m + t) 1) := hap; have hin3 := HI2.out.1.step HI2.out.2.mkd (m := 1) (by rw [HM.out.1]; exact hap2); have HI3 := Lib.hid hin3; have HL3 := Lib.hid (HI2.out.2.app hap2); clear hap hap2 hin3 HO HI2)))
          go_roundw
          case rel => exact ⟨t + 1, by omega, by go_num, a4, cap4, mk2, rfl, HI3.out, HL3.out⟩
          case measure => simp [intOf]; omega
        · obtain rfl : t = 12 := by omega
          have mm := mark_Lists i (m + 12) 60 (by omega) (by omega) (by omega)
          go_wp2_with (first
            | (go_at_call 111; go_loud (refine (mm _).mono ?_); rintro e w3 ⟨am, cm, M, rfl, hom, hbm⟩; obtain ⟨mk2, g1, g2, g3⟩ := (HL2.out.below hbm).mark (HI.out.below hbm) (m' := 60) (M := M) (by rw [HM.out.1]; exact hom) (Nat.le_trans HC.out.2.2.1 HI.out.gr.tn.size) (fun q hq => (HI.out.gr.g.lt (.inl hq)).2) (fun q hq => (HI.out.own.lt q hq).2); rw [HM.out.1] at g3; have HO := Lib.hid (show Own kLists w3 wr2.heap.size (.slice am 60 cm) (marks mk2 i (m + 12) 60) ∧ Below wr2.heap.size wr2 w3 from ⟨by rw [g3]; exact hom.own, hbm⟩); have HI2 := Lib.hid (And.intro g1 g2); clear hom hbm g1 g2 g3)
            | (at_builtin; have tok := HO; go_loud (refine wpl_app2 kLists rfl _ _ rfl rfl rfl (l := marks mk2 i 0 m ++ marks mk2 i m 12) (l2 := marks mk2 i (m + 12) 60) (by rw [marks_app]; have h9 := HI2.out.1.own; rw [HM.out.1] at h9; have e9 := marks_len mk2 i 0 (m + 12); exact h9) (src_own HO.out.1 (Below.refl _ _)) (by rw [List.length_append, marks_len, marks_len, marks_len]; omega) (Nat.le_trans hB HI2.out.1.gr.tn.size) ?_); go_loud (rw [show (marks mk2 i 0 m ++ marks mk2 i m 12).length + (marks mk2 i (m + 12) 60).length = m + (12 + 60) from by rw [List.length_append, marks_len, marks_len, marks_len]; (try omega)]; intro a4 cap4 w4 hap; have hap2 : Appd kLists w3 w4 B (.slice la (m + 12) lc) (.slice a4 (m + (12 + 60)) cap4) (marks mk2 i 0 m ++ marks mk2 i m 12) (marks mk2 i (m + 12) 60) := hap; have hin3 := HI2.out.1.step HI2.out.2.mkd (m := 60) (by rw [HM.out.1]; exact hap2); have HI3 := Lib.hid hin3; have HL3 := Lib.hid (HI2.out.2.app hap2); clear hap hap2 hin3 HO HI2))
            | (at_builtin; have tok := HI3; have hb5 : Below w4.heap.size w4 (w4.alloc (.cells #[.slice a4 (m + 72) cap4] 22)) := (Below.refl _ _).alloc (Nat.le_refl _) _; have HI5 := Lib.hid (HI3.out.below hb5); have HL5 := Lib.hid (HL3.out.below hb5); go_loud (refine wpl_app2 kListsS rfl _ _ rfl rfl rfl (l := Sg.map (·.1)) (l2 := [(⟨a4, m + 72, cap4⟩ : Sl)]) HI5.out.gr.g.outer (src_slt w4 ⟨a4, m + 72, cap4⟩ _) (by rw [List.length_map, HG.out.2.1]; simp; omega) (Nat.le_trans hB HI5.out.gr.tn.size) ?_); go_loud (rw [show (Sg.map (·.1)).length + [(⟨a4, m + 72, cap4⟩ : Sl)].length = i + 1 from by rw [List.length_map, HG.out.2.1]; rfl]; intro a6 cap6 w6 hap6; have hd := HI5.out.done (s := ⟨a4, m + 72, cap4⟩) hap6; have HD := Lib.hid (And.intro hd (HL5.out.appO hap6 (.slice none 0 0) (fun q hq => by cases hq))); clear hap6 hd hb5 HI3)))
          go_roundw
          case rel => exact ⟨i + 1, by omega, by go_num, _, mk2, HD.out.1, HD.out.2⟩
          case measure => simp [intOf]; omega
    · obtain rfl : i = n := by omega
      clear hgr
      go_wp2
      go_ret
      exact ⟨_, Sg, mk, rfl, HG.out.1, HG.out.2.2⟩

/-- What marks hold. -/
theorem mkdL_core {w : World} {N : Nat} {v : Value} {i f n : Nat} {M : List LK} (h : MkdL w N v i f n M) : M.map coreK = marks mkL i f n := by
  apply List.ext_getElem?
  intro u
  by_cases hu : u < n
  · have hu2 : u < M.length := by rw [h.len]; exact hu
    rw [List.getElem?_map, List.getElem?_eq_getElem hu2]
    simp [marks, hu]
    exact h.core u hu2
  · rw [List.getElem?_eq_none (by rw [List.length_map, h.len]; omega), List.getElem?_eq_none (by rw [marks_len]; omega)]
set_option maxRecDepth 100000 in
set_option maxHeartbeats 2000000 in
theorem marked_Lists {w : World} {B : Nat} {vo : Value} {S : List (Sl × List LK)} (h : Lst kLists kListsS w B vo S) (hS : S.length ≤ 1000) (hl : ∀ i (hi : i < S.length), S[i].2.length ≤ 100000) (hmk : ∀ i (hi : i < S.length), S[i].2.map coreK = marks mkL i 0 S[i].2.length) (hrd : ∀ i (hi : i < S.length), ∀ x ∈ S[i].2, RdK w x.1.val x.2) :
    Calls Tryz.prog 87 #[vo] w fun e w' => e = .returned (.bool true) ∧ Below w.heap.size w w' := by
  obtain ⟨ao, co, rfl⟩ := h.form
  obtain ⟨n, hn⟩ : ∃ n, n = S.length := ⟨_, rfl⟩
  rw [← hn] at h hS ⊢
  have HL := Lib.hid hl
  have HN := Lib.hid hn
  have HC := Lib.hid (And.intro h (And.intro hmk hrd))
  clear hn hl hmk h hrd
  go_enter Tryz.func87, Tryz.ntmps87
  go_wp2
  go_loopw [3] (fun iv wr => ∃ i : Nat, i ≤ n ∧ iv = .int .i64 (i : Int) ∧ Below w.heap.size w wr) (fun iv _ => n - (intOf iv).toNat)
  case atStart => exact ⟨0, by omega, rfl, Below.refl _ _⟩
  case round =>
    obtain ⟨i, hi, rfl, hbel⟩ := hrel
    have HB := Lib.hid hbel
    have hlr := HC.out.1.below hbel
    clear hbel
    by_cases hlt : i < n
    · have hi1 : i < S.length := by have := HN.out; omega
      obtain ⟨g, sa, sc, rfl, d1, s1⟩ := hlr.at_ hi1
      have hll := HL.out i hi1
      have hown := rdV_own (hlr.each i hi1) (fun x hx => (HC.out.2.2 i hi1 x hx).below HB.out)
      have hcor := HC.out.2.1 i hi1
      obtain ⟨m, hm⟩ : ∃ m, S[i].2.length = m := ⟨_, rfl⟩
      rw [s1] at hown
      rw [hm] at d1 s1 hll hcor hown
      have HO := Lib.hid (And.intro hown (And.intro hcor hm))
      clear hcor
      have r1 : (i : Int) < (n : Int) := by omega
      clear s1 hm hlr hown
      go_wp2
      have kd1 : wr.drew.cell? ⟨g, i, none⟩ = some (.slice sa m sc) := d1
      refine wp_region_K (fun w' => w'.cell? ⟨g, i, none⟩ = some (.slice sa m sc)) 12 13 (by kernel_rfl) (by kernel_rfl) kd1 (fun hH => ?_)
      refine wpAnyK_take (i := 0) [2, 3, 11, 12] (v := ?v1) rfl (by kernel_rfl) (by kernel_rfl) (by kernel_rfl) (by kernel_rfl) (fun _ _ _ h => h) (Or.inl ⟨by rfl, ?hy1⟩) hH ?rest1
      case hy1 => (intro w hSw; (try dsimp only at hSw); go_simp; with_reducible rfl)
      try simp only [Act.put, List.setIfInBounds_toArray, List.set_cons_zero, List.set_cons_succ]
      refine wpAnyK_take (i := 1) [2, 3, 11, 12] (v := ?v2) rfl (by kernel_rfl) (by kernel_rfl) (by kernel_rfl) (by kernel_rfl) (fun _ _ _ h => h) (Or.inl ⟨by rfl, ?hy2⟩) hH ?rest2
      case hy2 => (intro w hSw; (try dsimp only at hSw); go_simp; with_reducible rfl)
      try simp only [Act.put, List.setIfInBounds_toArray, List.set_cons_zero, List.set_cons_succ]
      refine wpAnyK_take (i := 2) [3, 11, 12] (v := ?v3) rfl (by kernel_rfl) (by kernel_rfl) (by kernel_rfl) (by kernel_rfl) (fun _ _ _ h => h) (Or.inl ⟨by rfl, ?hy3⟩) hH ?rest3
      case hy3 => (intro w hSw; (try dsimp only at hSw); go_simp; with_reducible rfl)
      try simp only [Act.put, List.setIfInBounds_toArray, List.set_cons_zero, List.set_cons_succ]
      refine wpAnyK_take (i := 3) [11, 12] (v := ?v4) rfl (by kernel_rfl) (by kernel_rfl) (by kernel_rfl) (by kernel_rfl) (fun _ _ _ h => h) (Or.inl ⟨by rfl, ?hy4⟩) hH ?rest4
      case hy4 => (intro w hSw; (try dsimp only at hSw); go_simp; with_reducible rfl)
      try simp only [Act.put, List.setIfInBounds_toArray, List.set_cons_zero, List.set_cons_succ]
      refine wpAnyK_take (i := 4) [10, 11, 12] (v := ?v5) rfl (by kernel_rfl) (by kernel_rfl) (by kernel_rfl) (by kernel_rfl) (fun _ _ _ h => h) (Or.inl ⟨by rfl, ?hy5⟩) hH ?rest5
      case hy5 => (intro w hSw; (try dsimp only at hSw); go_simp; with_reducible rfl)
      try simp only [Act.put, List.setIfInBounds_toArray, List.set_cons_zero, List.set_cons_succ]
      refine wpAnyK_take (i := 5) [7, 8, 9, 10, 11, 12] (v := ?v6) rfl (by kernel_rfl) (by kernel_rfl) (by kernel_rfl) (by kernel_rfl) (fun _ _ _ h => h) (Or.inl ⟨by rfl, ?hy6⟩) hH ?rest6
      case hy6 => (intro w hSw; (try dsimp only at hSw); go_simp; with_reducible rfl)
      try simp only [Act.put, List.setIfInBounds_toArray, List.set_cons_zero, List.set_cons_succ]
      refine wpAnyK_take (i := 6) [7, 8, 9, 10, 11, 12] (v := ?v7) rfl (by kernel_rfl) (by kernel_rfl) (by kernel_rfl) (by kernel_rfl) (fun _ _ _ h => h) (Or.inl ⟨by rfl, ?hy7⟩) hH ?rest7
      case hy7 => (intro w hSw; (try dsimp only at hSw); go_simp; with_reducible rfl)
      try simp only [Act.put, List.setIfInBounds_toArray, List.set_cons_zero, List.set_cons_succ]
      refine wpAnyK_take (i := 7) [8, 9, 10, 11, 12] (v := ?v8) rfl (by kernel_rfl) (by kernel_rfl) (by kernel_rfl) (by kernel_rfl) (fun _ _ _ h => h) (Or.inl ⟨by rfl, ?hy8⟩) hH ?rest8
      case hy8 => (intro w hSw; (try dsimp only at hSw); go_simp; with_reducible rfl)
      try simp only [Act.put, List.setIfInBounds_toArray, List.set_cons_zero, List.set_cons_succ]
      refine wpAnyK_take (i := 8) [9, 10, 11, 12] (v := ?v9) rfl (by kernel_rfl) (by kernel_rfl) (by kernel_rfl) (by kernel_rfl) (fun _ _ _ h => h) (Or.inl ⟨by rfl, ?hy9⟩) hH ?rest9
      case hy9 => (intro w hSw; (try dsimp only at hSw); go_simp; with_reducible rfl)
      try simp only [Act.put, List.setIfInBounds_toArray, List.set_cons_zero, List.set_cons_succ]
      refine wpAnyK_take (i := 9) [10, 11, 12] (v := ?v10) rfl (by kernel_rfl) (by kernel_rfl) (by kernel_rfl) (by kernel_rfl) (fun _ _ _ h => h) (Or.inl ⟨by rfl, ?hy10⟩) hH ?rest10
      case hy10 => (intro w hSw; (try dsimp only at hSw); go_simp; with_reducible rfl)
      try simp only [Act.put, List.setIfInBounds_toArray, List.set_cons_zero, List.set_cons_succ]
      refine wpAnyK_one (i := 10) (by kernel_rfl) rfl (fun K hK => ?_) (by kernel_rfl)
      go_simp
      go_at_call 111
      refine (mark_Lists i 0 m (by omega) (by omega) (by omega) _).mono ?_
      rintro e w3 ⟨am, cm, M, rfl, hom, hbm⟩
      have kd2 := (hbm.cell (p := ⟨g, i, none⟩) (World.block_lt_of_cell? _ _ kd1)).trans kd1
      have H3 := Lib.hid (And.intro hom hbm)
      clear hom hbm
      refine hK.out _ _ kd2 (fun hH => ?_)
      clear hK K
      try simp only [Act.put, List.setIfInBounds_toArray, List.set_cons_zero, List.set_cons_succ]
      refine wpAnyK_one (i := 11) (by kernel_rfl) rfl (fun K hK => ?_) (by kernel_rfl)
      go_simp
      go_at_call 13
      have hr1 := HO.out.1.below ((Below.refl _ wr).drew.trans H3.out.2)
      have hr2 := rdV_own H3.out.1.own (fun x hx => by obtain ⟨u, hu, rfl⟩ := List.mem_iff_getElem.1 hx; exact rdK_own (H3.out.1.each u hu))
      have hcc : S[i].2.map coreK = M.map coreK := HO.out.2.1.trans (mkdL_core H3.out.1).symm
      have hsm := same_Lists hr1 hr2 hcc (by rw [HO.out.2.2]; exact hll) (fun x hx => by
        have h9 : x.2 ∈ marks mkL i 0 m := by rw [← HO.out.2.1]; exact List.mem_map.2 ⟨x, hx, rfl⟩
        obtain ⟨u, -, h9⟩ := List.mem_map.1 h9
        rw [← h9]
        show (1 : Nat) ≤ 100000
        omega)
      clear hr1 hr2 hcc
      refine hsm.mono ?_
      clear hsm
      rintro e w4 ⟨rfl, a4, rfl⟩
      refine hK.out _ _ kd2 (fun hH => ?_)
      clear hK K
      try simp only [Act.put, List.setIfInBounds_toArray, List.set_cons_zero, List.set_cons_succ]
      refine wpAnyK_last (by kernel_rfl) rfl (fun K hK => ?_) (by kernel_rfl)
      go_simp
      refine hK.out _ _ (wpAnyK_done (by kernel_rfl) ?_ _)
      clear hK K hH
      have HF := Lib.hid (below_drewN (HB.out.trans (((Below.refl _ _).drew.trans H3.out.2).mono HB.out.size)) a4)
      clear kd1 kd2
      go_wp2
      go_roundw
      case rel => exact ⟨i + 1, by omega, by go_num, HF.out⟩
      case measure => simp [intOf]; omega
    · obtain rfl : i = n := by omega
      clear hlr
      go_wp2
      go_ret
      exact ⟨rfl, HB.out⟩
end Go.Proofs.YtkeggcfnoonakaaGreat
