
/-
  Merge: the laws' first call.
-/
import Derived.Test.YtkeggcfnoonakaaGreatMgI
import Derived.ChangeKeysEq
set_option linter.unusedSimpArgs false
set_option linter.unusedVariables false
namespace Go.Proofs.YtkeggcfnoonakaaGreat
open Go.RowKit

set_option maxHeartbeats 1000000 in
theorem index_one (c : UInt8) (w : World) : Calls Tryz.prog 93 #[.string ⟨#[c]⟩, .string ⟨#[0, 1]⟩] w fun e w' => e = .returned (.int .i64 (-1)) ∧ w' = w := by
  go_enter Tryz.func93, Tryz.ntmps93
  go_wp2
  go_ret
  exact ⟨rfl, rfl⟩
theorem head_one (c : UInt8) (w : World) : Calls Tryz.prog 24 #[.string ⟨#[c]⟩] w fun e w' => e = .returned (.string ⟨#[c]⟩) ∧ w' = w := by
  go_enter Tryz.func24, Tryz.ntmps24
  go_wp2_with fail
  refine (index_one c w).mono ?_
  rintro e w' ⟨rfl, hw⟩
  obtain rfl := hw.symm
  go_wp2_with fail
  go_ret
  exact ⟨rfl, rfl⟩
theorem beq_ba (p a : ByteArray) : (p == a) = (p.toList == a.toList) := by
  rw [ByteArray.toList_eq, ByteArray.toList_eq]
  cases p with | mk x => cases a with | mk y =>
    show (x == y) = (x.toList == y.toList)
    by_cases h : x = y
    · subst h; simp
    · have h2 : ¬ x.toList = y.toList := fun e => h (Array.toList_inj.1 e)
      rw [beq_eq_false_iff_ne.2 h, beq_eq_false_iff_ne.2 h2]
theorem eqstr (d : Nat) (p a : ByteArray) (w : World) : (Op.equalIn (d + 1) 9 (.string p) (.string a)).run Tryz.prog w = .ok (p.toList == a.toList) w := by
  rw [← beq_ba]
  simp [Op.equalIn, go_sem]
theorem eqkv (p q a b : ByteArray) (w : World) : (Op.equalIn 10000 54 (.agg #[.string p, .string q]) (.agg #[.string a, .string b])).run Tryz.prog w = .ok ((p.toList == a.toList) && (q.toList == b.toList)) w := by
  have hc : Tryz.prog.cellsOf 9 = 1 := by kernel_rfl
  obtain ⟨i, hi⟩ : ∃ i, Tryz.prog.info? 9 = some i := Option.isSome_iff_exists.1 (by kernel_rfl)
  have hp : ∀ (xs : Array Value) (o : Nat) (v : Value) (w : World), xs[o]? = some v → (part 9 xs o).run Tryz.prog w = .ok v w := by
    intro xs o v w h
    simp [part, Tryz.isAgg9, h, Result.andThen]
  rw [show (10000 : Nat) = 9999 + 1 from rfl, run_equalIn_array w 9999 _ _ Tryz.underlying54 hi, hc]
  simp [List.range, List.range.loop, Op.eqItems, Result.andThen, hp, eqstr 9998]
  cases e1 : (p.toList == a.toList) <;> cases e2 : (q.toList == b.toList) <;> simp_all

theorem ret_b' {a b : Bool} (h : a = b) : Ending.returned (.bool a) = .returned (.bool b) := by rw [h]
set_option maxRecDepth 100000 in
set_option maxHeartbeats 1000000 in
theorem samekeys_any {w : World} {a b : Option Addr} {ca cb : Nat} {A B : List KV} (ha : RdP w a ca A) (hb : RdP w b cb B) (hA : A.length ≤ 100000) (hB : B.length ≤ 100000) :
    Calls Tryz.prog 12 #[.slice a A.length ca, .slice b B.length cb] w fun e w' => e = .returned (.bool (decide (A = B))) ∧ Below w.heap.size w w' := by
  obtain ⟨n, hn⟩ : ∃ n, n = A.length := ⟨_, rfl⟩
  obtain ⟨m, hm⟩ : ∃ m, m = B.length := ⟨_, rfl⟩
  have heq := eqkv
  rw [← hn] at hA ⊢
  rw [← hm] at hB ⊢
  have HA := Lib.hid ha
  have HB := Lib.hid hb
  have HN := Lib.hid (And.intro hn hm)
  clear ha hb hn hm
  by_cases hnm : n = m
  · subst hnm
    go_enter Tryz.func12, Tryz.ntmps12
    go_wp2
    go_loopw [5] (fun x wr => ∃ i : Nat, i ≤ n ∧ x = .int .i64 (i : Int) ∧ A.take i = B.take i ∧ Below w.heap.size w wr) (fun x _ => n - (intOf x).toNat)
    case atStart => exact ⟨0, by omega, rfl, by simp, Below.refl _ _⟩
    case round =>
      obtain ⟨i, hi, rfl, htk, hbel⟩ := hrel
      have HTK := Lib.hid htk
      clear htk
      by_cases hlt : i < n
      · have hia : i < A.length := by have := HN.out.1; omega
        have hib : i < B.length := by have := HN.out.2; omega
        obtain ⟨g, o1, rfl, hca⟩ := HA.out.2.2.resolve_left (fun e => by rw [e] at hia; simp at hia)
        obtain ⟨g2, o2, rfl, hcb⟩ := HB.out.2.2.resolve_left (fun e => by rw [e] at hib; simp at hib)
        have hg := World.block_lt_of_cell? _ _ (hca i hia).1
        have hg2 := World.block_lt_of_cell? _ _ (hcb i hib).1
        simp only at hg hg2
        have c1 := (hbel.cell (p := ⟨g, o1 + i * 2, none⟩) hg).trans (hca i hia).1
        have c2 := (hbel.cell (p := ⟨g, o1 + i * 2 + 1, none⟩) hg).trans (hca i hia).2
        have c3 := (hbel.cell (p := ⟨g2, o2 + i * 2, none⟩) hg2).trans (hcb i hib).1
        have c4 := (hbel.cell (p := ⟨g2, o2 + i * 2 + 1, none⟩) hg2).trans (hcb i hib).2
        obtain ⟨x, hx⟩ : ∃ x, A[i] = x := ⟨_, rfl⟩
        obtain ⟨y, hy⟩ : ∃ y, B[i] = y := ⟨_, rfl⟩
        rw [hx] at c1 c2
        rw [hy] at c3 c4
        obtain ⟨x1, x2⟩ := x
        obtain ⟨y1, y2⟩ := y
        have HXY := Lib.hid (And.intro hx hy)
        clear hca hcb hx hy hg hg2
        have q1 : (i : Int) < (n : Int) := by omega
        have q2 : (0 : Int) ≤ (i : Int) := by omega
        by_cases hxy : x1 = y1 ∧ x2 = y2
        · obtain ⟨rfl, rfl⟩ := hxy
          have s1 := str_eq x1
          have s2 := str_eq x2
          go_wp2_with fail
          go_quiet (fail)
          go_wp2
          go_roundw
          case rel =>
            refine ⟨i + 1, by omega, by go_num, ?_, by first | exact hbel | exact (hbel.trans ((tn_drewN (F := fun _ => False) _ _).below hbel.size (fun _ e => e.elim)))⟩
            rw [List.take_succ_eq_append_getElem hia, List.take_succ_eq_append_getElem hib, HTK.out, HXY.out.1, HXY.out.2]
          case measure => simp [intOf]; omega
        · have hne : A ≠ B := fun e => by
            subst e
            have := HXY.out.1.symm.trans HXY.out.2
            injection this with e1 e2
            exact hxy ⟨e1, e2⟩
          have HNE := Lib.hid hne
          have hs : (x1.toList == y1.toList) = false ∨ (x1.toList == y1.toList) = true ∧ (x2.toList == y2.toList) = false := by
            by_cases e1 : x1 = y1
            · subst e1
              exact Or.inr ⟨str_eq _, str_ne (fun e => hxy ⟨rfl, e⟩)⟩
            · exact Or.inl (str_ne e1)
          clear hxy hne
          rcases hs with s1 | ⟨s1, s2⟩
          all_goals
            go_wp2_with fail
            go_quiet (fail)
            go_wp2
            go_ret
            exact ⟨ret_b' (by rw [decide_eq_false HNE.out]), by first | exact hbel | exact (hbel.trans ((tn_drewN (F := fun _ => False) _ _).below hbel.size (fun _ e => e.elim)))⟩
      · obtain rfl : i = n := by omega
        have he : A = B := by
          have := HTK.out
          rwa [List.take_of_length_le (by have := HN.out.1; omega), List.take_of_length_le (by have := HN.out.2; omega)] at this
        have HE := Lib.hid he
        clear he
        go_wp2
        go_ret
        exact ⟨ret_b' (by rw [decide_eq_true HE.out]), hbel⟩
  · have hne : A ≠ B := fun e => by subst e; exact hnm (HN.out.1.trans HN.out.2.symm)
    have HNE := Lib.hid hne
    have t1 : ((n : Int) != (m : Int)) = true := by simp; omega
    have t1n : (n != m) = true := by simpa using hnm
    clear hne
    go_enter Tryz.func12, Tryz.ntmps12
    go_wp2
    go_ret
    exact ⟨ret_b' (by rw [decide_eq_false HNE.out]), Below.refl _ _⟩


abbrev tA : ByteArray := ⟨#[97]⟩
abbrev tB : ByteArray := ⟨#[98]⟩
abbrev tC : ByteArray := ⟨#[99]⟩
abbrev t1 : ByteArray := ⟨#[49]⟩
abbrev t2 : ByteArray := ⟨#[50]⟩
abbrev t3 : ByteArray := ⟨#[51]⟩
abbrev t9 : ByteArray := ⟨#[57]⟩
def aL : List (List KV) := [[(tA, t1), (tC, t2)], [(tA, t9), (tB, t3)]]
def aM : List KV := [(tA, t1), (tB, t3), (tC, t2)]
theorem aM_laid : Laid aL aM := by
  refine ⟨?_, fun q hq => ?_, fun l hl p hp => ?_⟩
  · unfold aM Ris
    refine List.pairwise_cons.2 ⟨fun q hq => ?_, List.pairwise_cons.2 ⟨fun q hq => ?_, List.pairwise_singleton _ _⟩⟩
    · simp only [List.mem_cons, List.not_mem_nil, or_false] at hq
      rcases hq with rfl | rfl <;> decide
    · simp only [List.mem_cons, List.not_mem_nil, or_false] at hq
      subst hq
      decide
  · simp only [aM, List.mem_cons, List.not_mem_nil, or_false] at hq
    rcases hq with rfl | rfl | rfl
    · exact ⟨0, _, rfl, by simp, fun m l' hm => by omega⟩
    · refine ⟨1, _, rfl, by simp, fun m l' hm hl' p hp => ?_⟩
      obtain rfl : m = 0 := by omega
      obtain rfl : l' = [(tA, t1), (tC, t2)] := (Option.some.inj hl').symm
      simp only [List.mem_cons, List.not_mem_nil, or_false] at hp
      rcases hp with rfl | rfl <;> decide
    · exact ⟨0, _, rfl, by simp, fun m l' hm => by omega⟩
  · simp only [aL, List.mem_cons, List.not_mem_nil, or_false] at hl
    rcases hl with rfl | rfl <;> simp only [List.mem_cons, List.not_mem_nil, or_false] at hp <;> rcases hp with rfl | rfl
    · exact ⟨_, by simp [aM], rfl⟩
    · exact ⟨(tC, t2), by simp [aM], rfl⟩
    · exact ⟨(tA, t1), by simp [aM], rfl⟩
    · exact ⟨(tB, t3), by simp [aM], rfl⟩
theorem aL_ris : ∀ l ∈ aL, Ris l := by
  intro l hl
  simp only [aL, List.mem_cons, List.not_mem_nil, or_false] at hl
  rcases hl with rfl | rfl
  · refine List.pairwise_cons.2 ⟨fun q hq => ?_, List.pairwise_singleton _ _⟩
    rw [List.mem_singleton] at hq
    subst hq
    decide
  · refine List.pairwise_cons.2 ⟨fun q hq => ?_, List.pairwise_singleton _ _⟩
    rw [List.mem_singleton] at hq
    subst hq
    decide
theorem aM_head : ∀ p ∈ aM, ∀ w', Calls Tryz.prog 24 #[.string p.1] w' fun e w'' => e = .returned (.string (id p.1)) ∧ w'' = w' := by
  intro p hp w'
  simp only [aM, List.mem_cons, List.not_mem_nil, or_false] at hp
  rcases hp with rfl | rfl | rfl
  · exact head_one 97 w'
  · exact head_one 98 w'
  · exact head_one 99 w'
theorem aM_grp : (grp id aM).length = 3 := by decide
theorem aM_spl : (spl (grp id aM) (max 3 1)).1 = [[(tA, t1), (tB, t3)], [(tC, t2)]] := by decide
set_option maxRecDepth 100000 in
set_option maxHeartbeats 2000000 in
theorem alive_any (w : World) : Calls Tryz.prog 6 #[] w fun e w' => e = .returned (.bool true) ∧ Below w.heap.size w w' := by
  go_enter Tryz.func6, Tryz.ntmps6
  go_wp2_with fail
  obtain ⟨w1, hw1⟩ : ∃ w1, w1 = ((w.alloc (.cells #[.string tA, .string t1, .string tC, .string t2] 54)).alloc (.cells #[.string tA, .string t9, .string tB, .string t3] 54)).alloc (.cells #[.slice (some ⟨w.heap.size, 0, none⟩) 2 2, .slice (some ⟨w.heap.size + 1, 0, none⟩) 2 2] 23) := ⟨_, rfl⟩
  rw [← hw1]
  have hb1 : Below w.heap.size w w1 := by rw [hw1]; exact (((Below.refl _ _).alloc (Nat.le_refl _) _).alloc (by simp) _).alloc (by simp; omega) _
  have hrl : RdL w1 (some ⟨w.heap.size + 1 + 1, 0, none⟩) aL := by
    refine .inr ⟨_, 0, rfl, fun i hi => ?_⟩
    rcases (by simp [aL] at hi; omega : i = 0 ∨ i = 1) with rfl | rfl
    · refine ⟨some ⟨w.heap.size, 0, none⟩, 2, by rw [hw1]; simp [go_sem, aL], by simp [aL], by decide, .inr ⟨_, 0, rfl, fun j hj => ?_⟩⟩
      rcases (by simp [aL] at hj; omega : j = 0 ∨ j = 1) with rfl | rfl
      · exact ⟨by rw [hw1]; simp [go_sem, aL], by rw [hw1]; simp [go_sem, aL]⟩
      · exact ⟨by rw [hw1]; simp [go_sem, aL], by rw [hw1]; simp [go_sem, aL]⟩
    · refine ⟨some ⟨w.heap.size + 1, 0, none⟩, 2, by rw [hw1]; simp [go_sem, aL], by simp [aL], by decide, .inr ⟨_, 0, rfl, fun j hj => ?_⟩⟩
      rcases (by simp [aL] at hj; omega : j = 0 ∨ j = 1) with rfl | rfl
      · exact ⟨by rw [hw1]; simp [go_sem, aL], by rw [hw1]; simp [go_sem, aL]⟩
      · exact ⟨by rw [hw1]; simp [go_sem, aL], by rw [hw1]; simp [go_sem, aL]⟩
  have H1 := Lib.hid (And.intro hb1 hrl)
  clear hw1 hb1 hrl
  refine (merge_any (L := aL) (c := 2) H1.out.2 (by decide) (by decide)).mono ?_
  rintro e w2 ⟨hb2, ⟨_, out, v, rfl, ho, hla, _⟩ | ⟨hno, _⟩⟩
  · obtain rfl : out = aM := Laid.uniq aL_ris hla aM_laid
    obtain ⟨g, cap, rfl, _, _, hg, _, k01⟩ := kv_cells ho (i := 0) (by decide)
    obtain ⟨g', cap', e2, _, _, _, k10, _⟩ := kv_cells ho (i := 1) (by decide)
    injection e2 with e3 _ e5
    injection e3 with e3
    injection e3 with e3
    subst e3 e5
    obtain ⟨a9, c9, e9, hrp⟩ := rdP_own ho
    injection e9 with e91 _ e93
    subst e91 e93
    have k01 : w2.cell? ⟨g, 1, none⟩ = some (.string t1) := k01
    have k10 : w2.cell? ⟨g, 2, none⟩ = some (.string tB) := k10
    have H2 := Lib.hid (And.intro hb2 (And.intro hrp hg))
    clear hb2 hrp ho hla
    have e3 : aM.length = 3 := rfl
    rw [e3]
    have hsp : Calls Tryz.prog 10 #[.slice (some ⟨g, 0, none⟩) 3 cap, .int .i64 3] w2 _ := split_any (hd := id) (c := cap) (l := aM) 3 (by decide) (by decide) H2.out.2.1 (by decide) (by decide) (fun p hp w' _ => aM_head p hp w')
    have HSP := Lib.hid hsp
    clear hsp e3
    go_wp2_with fail
    with_reducible refine HSP.out.mono ?_
    rintro e w3 ⟨vo, S, rfl, hS, hSm, hb3⟩
    rw [aM_spl] at hSm
    have hSl : S.length = 2 := by rw [← List.length_map (f := (·.2)), hSm]; rfl
    obtain ⟨og, oc, rfl, c00⟩ := hS.read (i := 0) (by omega)
    have hs0 := hS.sl (i := 0) (by omega)
    have hm0 : (S[0]'(by omega)).2 = [(tA, t1), (tB, t3)] := by
      have h1 : (S.map (·.2))[0]? = some [(tA, t1), (tB, t3)] := by rw [hSm]; rfl
      rw [List.getElem?_map, List.getElem?_eq_getElem (by omega)] at h1
      exact Option.some.inj h1
    rw [hm0] at hs0
    have c0 : w3.cell? ⟨og, 0, none⟩ = some (.slice (S[0]'(by omega)).1.a 2 (S[0]'(by omega)).1.cap) := by
      rw [c00]
      unfold Sl.val
      rw [hs0]
      rfl
    obtain ⟨za, hza⟩ : ∃ z, (S[0]'(by omega)).1.a = z := ⟨_, rfl⟩
    obtain ⟨zc, hzc⟩ : ∃ z, (S[0]'(by omega)).1.cap = z := ⟨_, rfl⟩
    rw [hza, hzc] at c0
    rw [hSl]
    have HSL := Lib.hid hSl
    clear c00
    have n01 := (hb3.cell (p := ⟨g, 1, none⟩) H2.out.2.2).trans k01
    have n10 := (hb3.cell (p := ⟨g, 2, none⟩) H2.out.2.2).trans k10
    have hrp3 := H2.out.2.1.below (n := 0) hb3
    have hgr : Calls Tryz.prog 11 #[.slice (some ⟨g, 0, none⟩) 3 cap] w3 _ := group_any (hd := id) (c := cap) (l := aM) hrp3 (by decide) (fun p hp w' _ => aM_head p hp w')
    have H3 := Lib.hid (And.intro hb3 hgr)
    clear hb3 hgr hrp3 hS hSm hs0 hm0 hza hzc k01 k10 HSP hSl
    go_wp2_with fail
    refine H3.out.2.mono ?_
    rintro e w4 ⟨vg, SG, rfl, hSG, hGm, hb4⟩
    obtain ⟨ga, gc, rfl⟩ := hSG.form
    have hGl : SG.length = 3 := by rw [← List.length_map (f := (·.2)), hGm]; exact aM_grp
    rw [hGl]
    have H4 := Lib.hid hb4
    clear hSG hGm hb4 hGl
    go_wp2_with fail
    go_ret
    exact ⟨rfl, ((H1.out.1.trans (H2.out.1.mono H1.out.1.size)).trans (H3.out.1.mono (Nat.le_trans H1.out.1.size H2.out.1.size))).trans (H4.out.mono (Nat.le_trans H1.out.1.size (Nat.le_trans H2.out.1.size H3.out.1.size)))⟩
  · exact absurd aL_ris hno
end Go.Proofs.YtkeggcfnoonakaaGreat
