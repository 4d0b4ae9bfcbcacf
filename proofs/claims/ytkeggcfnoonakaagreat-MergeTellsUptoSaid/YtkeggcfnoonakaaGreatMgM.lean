
/-
  Merge: SameLists, and the law's own even.
-/
import Derived.Test.YtkeggcfnoonakaaGreatMgL
set_option linter.unusedSimpArgs false
set_option linter.unusedVariables false
namespace Go.Proofs.YtkeggcfnoonakaaGreat
open Go.RowKit

/-- A list of lists of the walk's own, read as lists that came in. -/
theorem rdL_of_lst {w : World} {B : Nat} {vo : Value} {S : List (Sl × List KV)} (h : Lst eKV eSl w B vo S) : ∃ a c, vo = .slice a (S.map (·.2)).length c ∧ RdL w a (S.map (·.2)) := by
  obtain ⟨a, c, rfl⟩ := h.form
  refine ⟨a, c, by rw [List.length_map], ?_⟩
  by_cases h0 : S = []
  · exact .inl (by rw [h0]; rfl)
  · right
    have hp : 0 < S.length := List.length_pos_iff.2 h0
    obtain ⟨g, cap, e, _⟩ := h.read hp
    injection e with e1 _ _
    subst e1
    refine ⟨g, 0, rfl, fun i hi => ?_⟩
    have hi' : i < S.length := by rw [List.length_map] at hi; exact hi
    obtain ⟨g', cap', e', hc⟩ := h.read hi'
    injection e' with e1 _ _
    injection e1 with e1
    injection e1 with e1
    subst e1
    obtain ⟨ai, ci, hv, hr⟩ := rdP_own (h.each i hi')
    rw [hv] at hc
    have hm : (S.map (·.2))[i] = S[i].2 := by simp
    rw [hm, Nat.zero_add]
    exact ⟨ai, ci, hc, hr⟩
theorem RdP.drewN {w : World} {a : Option Addr} {c : Nat} {l : List KV} (h : RdP w a c l) (n : Nat) : RdP (w.drewN n) a c l := h.below (n := 0) ((tn_drewN (F := fun _ => False) w n).below (Nat.le_refl _) (fun _ e => e.elim))
set_option maxRecDepth 100000 in
set_option maxHeartbeats 1000000 in
theorem samekeys_quiet {w : World} {a b : Option Addr} {ca cb : Nat} {A B : List KV} (ha : RdP w a ca A) (hb : RdP w b cb B) (hA : A.length ≤ 100000) (hB : B.length ≤ 100000) :
    Calls Tryz.prog 12 #[.slice a A.length ca, .slice b B.length cb] w fun e w' => e = .returned (.bool (decide (A = B))) ∧ ∃ m, w' = w.drewN m := by
  obtain ⟨n, hn⟩ : ∃ n, n = A.length := ⟨_, rfl⟩
  obtain ⟨m, hm⟩ : ∃ m, m = B.length := ⟨_, rfl⟩
  have heq := eqkv
  rw [← hn] at hA ⊢
  rw [← hm] at hB ⊢
  have HA := Lib.hid ha
  have HB := Lib.hid hb
  have HN := Lib.hid (And.intro hn hm)
  clear ha hb hn hm
  by_cases hnm : n = m
  · subst hnm
    go_enter Tryz.func12, Tryz.ntmps12
    go_wp2
    go_loopw [5] (fun x wr => ∃ i : Nat, i ≤ n ∧ x = .int .i64 (i : Int) ∧ A.take i = B.take i ∧ ∃ m, wr = w.drewN m) (fun x _ => n - (intOf x).toNat)
    case atStart => exact ⟨0, by omega, rfl, by simp, 0, rfl⟩
    case round =>
      obtain ⟨i, hi, rfl, htk, d9, hwr⟩ := hrel
      have HWR := Lib.hid hwr
      have HTK := Lib.hid htk
      clear htk hwr
      by_cases hlt : i < n
      · have hia : i < A.length := by have := HN.out.1; omega
        have hib : i < B.length := by have := HN.out.2; omega
        obtain ⟨g, o1, rfl, hca⟩ := HA.out.2.2.resolve_left (fun e => by rw [e] at hia; simp at hia)
        obtain ⟨g2, o2, rfl, hcb⟩ := HB.out.2.2.resolve_left (fun e => by rw [e] at hib; simp at hib)
        have c1 : wr.cell? ⟨g, o1 + i * 2, none⟩ = some (.string A[i].1) := by rw [HWR.out]; exact (hca i hia).1
        have c2 : wr.cell? ⟨g, o1 + i * 2 + 1, none⟩ = some (.string A[i].2) := by rw [HWR.out]; exact (hca i hia).2
        have c3 : wr.cell? ⟨g2, o2 + i * 2, none⟩ = some (.string B[i].1) := by rw [HWR.out]; exact (hcb i hib).1
        have c4 : wr.cell? ⟨g2, o2 + i * 2 + 1, none⟩ = some (.string B[i].2) := by rw [HWR.out]; exact (hcb i hib).2
        obtain ⟨x, hx⟩ : ∃ x, A[i] = x := ⟨_, rfl⟩
        obtain ⟨y, hy⟩ : ∃ y, B[i] = y := ⟨_, rfl⟩
        rw [hx] at c1 c2
        rw [hy] at c3 c4
        obtain ⟨x1, x2⟩ := x
        obtain ⟨y1, y2⟩ := y
        have HXY := Lib.hid (And.intro hx hy)
        clear hca hcb hx hy
        have q1 : (i : Int) < (n : Int) := by omega
        have q2 : (0 : Int) ≤ (i : Int) := by omega
        by_cases hxy : x1 = y1 ∧ x2 = y2
        · obtain ⟨rfl, rfl⟩ := hxy
          have s1 := str_eq x1
          have s2 := str_eq x2
          go_wp2_with fail
          go_quiet (fail)
          go_wp2
          go_roundw
          case rel =>
            refine ⟨i + 1, by omega, by go_num, ?_, by first | exact ⟨_, HWR.out⟩ | exact ⟨_, by rw [HWR.out]; exact World.drewN_drewN _ _ _⟩⟩
            rw [List.take_succ_eq_append_getElem hia, List.take_succ_eq_append_getElem hib, HTK.out, HXY.out.1, HXY.out.2]
          case measure => simp [intOf]; omega
        · have hne : A ≠ B := fun e => by
            subst e
            have := HXY.out.1.symm.trans HXY.out.2
            injection this with e1 e2
            exact hxy ⟨e1, e2⟩
          have HNE := Lib.hid hne
          have hs : (x1.toList == y1.toList) = false ∨ (x1.toList == y1.toList) = true ∧ (x2.toList == y2.toList) = false := by
            by_cases e1 : x1 = y1
            · subst e1
              exact Or.inr ⟨str_eq _, str_ne (fun e => hxy ⟨rfl, e⟩)⟩
            · exact Or.inl (str_ne e1)
          clear hxy hne
          rcases hs with s1 | ⟨s1, s2⟩
          all_goals
            go_wp2_with fail
            go_quiet (fail)
            go_wp2
            go_ret
            exact ⟨ret_b' (by rw [decide_eq_false HNE.out]), by first | exact ⟨_, HWR.out⟩ | exact ⟨_, by rw [HWR.out]; exact World.drewN_drewN _ _ _⟩⟩
      · obtain rfl : i = n := by omega
        have he : A = B := by
          have := HTK.out
          rwa [List.take_of_length_le (by have := HN.out.1; omega), List.take_of_length_le (by have := HN.out.2; omega)] at this
        have HE := Lib.hid he
        clear he
        go_wp2
        go_ret
        exact ⟨ret_b' (by rw [decide_eq_true HE.out]), _, HWR.out⟩
  · have hne : A ≠ B := fun e => by subst e; exact hnm (HN.out.1.trans HN.out.2.symm)
    have HNE := Lib.hid hne
    have t1 : ((n : Int) != (m : Int)) = true := by simp; omega
    have t1n : (n != m) = true := by simpa using hnm
    clear hne
    go_enter Tryz.func12, Tryz.ntmps12
    go_wp2
    go_ret
    exact ⟨ret_b' (by rw [decide_eq_false HNE.out]), 0, rfl⟩

set_option maxRecDepth 100000 in
set_option maxHeartbeats 1000000 in
theorem samelists_quiet {w : World} {a b : Option Addr} {ca cb : Nat} {A B : List (List KV)} (ha : RdL w a A) (hb : RdL w b B) (hA : A.length ≤ 100000) (hB : B.length ≤ 100000) (hA2 : ∀ l ∈ A, l.length ≤ 100000) (hB2 : ∀ l ∈ B, l.length ≤ 100000) :
    Calls Tryz.prog 13 #[.slice a A.length ca, .slice b B.length cb] w fun e w' => e = .returned (.bool (decide (A = B))) ∧ ∃ m, w' = w.drewN m := by
  obtain ⟨n, hn⟩ : ∃ n, n = A.length := ⟨_, rfl⟩
  obtain ⟨m, hm⟩ : ∃ m, m = B.length := ⟨_, rfl⟩
  rw [← hn] at hA ⊢
  rw [← hm] at hB ⊢
  have HA := Lib.hid (And.intro ha hA2)
  have HB := Lib.hid (And.intro hb hB2)
  have HN := Lib.hid (And.intro hn hm)
  clear ha hb hn hm hA2 hB2
  by_cases hnm : n = m
  · subst hnm
    go_enter Tryz.func13, Tryz.ntmps13
    go_wp2_with fail
    go_loopw [5] (fun x wr => ∃ i : Nat, i ≤ n ∧ x = .int .i64 (i : Int) ∧ A.take i = B.take i ∧ ∃ m, wr = w.drewN m) (fun x _ => n - (intOf x).toNat)
    case atStart => exact ⟨0, by omega, rfl, by simp, 0, rfl⟩
    case round =>
      obtain ⟨i, hi, rfl, htk, d9, hwr⟩ := hrel
      have HWR := Lib.hid hwr
      have HTK := Lib.hid htk
      clear htk hwr
      by_cases hlt : i < n
      · have hia : i < A.length := by have := HN.out.1; omega
        have hib : i < B.length := by have := HN.out.2; omega
        obtain ⟨g, o1, rfl, hca⟩ := HA.out.1.resolve_left (fun e => by rw [e] at hia; simp at hia)
        obtain ⟨g2, o2, rfl, hcb⟩ := HB.out.1.resolve_left (fun e => by rw [e] at hib; simp at hib)
        obtain ⟨xa, xc, cx, rx⟩ := hca i hia
        obtain ⟨ya, yc, cy, ry⟩ := hcb i hib
        have hlx := HA.out.2 _ (List.getElem_mem hia)
        have hly := HB.out.2 _ (List.getElem_mem hib)
        obtain ⟨x, hx⟩ : ∃ x, A[i] = x := ⟨_, rfl⟩
        obtain ⟨y, hy⟩ : ∃ y, B[i] = y := ⟨_, rfl⟩
        rw [hx] at cx rx hlx
        rw [hy] at cy ry hly
        have hcall : ∀ d, Calls Tryz.prog 12 #[.slice xa x.length xc, .slice ya y.length yc] (wr.drewN d) fun e w' => e = .returned (.bool (decide (x = y))) ∧ ∃ m, w' = (wr.drewN d).drewN m := fun d => by
          have h1 : wr.drewN d = w.drewN (d9 + d) := by rw [HWR.out]; exact World.drewN_drewN _ _ _
          rw [h1]
          exact samekeys_quiet (rx.drewN _) (ry.drewN _) hlx hly
        obtain ⟨xn, hxn⟩ : ∃ z, x.length = z := ⟨_, rfl⟩
        obtain ⟨yn, hyn⟩ : ∃ z, y.length = z := ⟨_, rfl⟩
        rw [hxn] at cx hcall
        rw [hyn] at cy hcall
        have c1 : wr.cell? ⟨g, o1 + i, none⟩ = some (.slice xa xn xc) := by rw [HWR.out]; exact cx
        have c2 : wr.cell? ⟨g2, o2 + i, none⟩ = some (.slice ya yn yc) := by rw [HWR.out]; exact cy
        have HXY := Lib.hid (And.intro hx hy)
        clear hca hcb hx hy cx cy rx ry hlx hly hxn hyn
        have q1 : (i : Int) < (n : Int) := by omega
        have q2 : (0 : Int) ≤ (i : Int) := by omega
        by_cases hxy : x = y
        · have hd : decide (x = y) = true := decide_eq_true hxy
          rw [hd] at hcall
          have HXE := Lib.hid hxy
          clear hxy hd
          go_wp2_with fail
          go_quiet ((go_at_call 12; with_reducible exact Calls.quiet_of (hcall _)))
          clear hcall
          go_wp2_with fail
          go_roundw
          case rel =>
            refine ⟨i + 1, by omega, by go_num, ?_, ⟨_, by rw [HWR.out]; exact World.drewN_drewN _ _ _⟩⟩
            rw [List.take_succ_eq_append_getElem hia, List.take_succ_eq_append_getElem hib, HTK.out, HXY.out.1, HXY.out.2, HXE.out]
          case measure => simp [intOf]; omega
        · have hd : decide (x = y) = false := decide_eq_false hxy
          rw [hd] at hcall
          have hne : A ≠ B := fun e => by
            subst e
            exact hxy (HXY.out.1.symm.trans HXY.out.2)
          have HNE := Lib.hid hne
          clear hxy hd hne
          go_wp2_with fail
          go_quiet ((go_at_call 12; with_reducible exact Calls.quiet_of (hcall _)))
          clear hcall
          go_wp2_with fail
          go_ret
          exact ⟨ret_b' (by rw [decide_eq_false HNE.out]), ⟨_, by rw [HWR.out]; exact World.drewN_drewN _ _ _⟩⟩
      · obtain rfl : i = n := by omega
        have he : A = B := by
          have := HTK.out
          rwa [List.take_of_length_le (by have := HN.out.1; omega), List.take_of_length_le (by have := HN.out.2; omega)] at this
        have HE := Lib.hid he
        clear he
        go_wp2_with fail
        go_ret
        exact ⟨ret_b' (by rw [decide_eq_true HE.out]), _, HWR.out⟩
  · have hne : A ≠ B := fun e => by subst e; exact hnm (HN.out.1.trans HN.out.2.symm)
    have HNE := Lib.hid hne
    have t1 : ((n : Int) != (m : Int)) = true := by simp; omega
    have t1n : (n != m) = true := by simpa using hnm
    clear hne
    go_enter Tryz.func13, Tryz.ntmps13
    go_wp2_with fail
    go_ret
    exact ⟨ret_b' (by rw [decide_eq_false HNE.out]), 0, rfl⟩

/-- Each list but the last has a byte. -/
def EvenG (G : List (List KV)) : Prop := ∀ i (h : i + 1 < G.length), bytesL G[i] ≠ 0
noncomputable def evD (G : List (List KV)) : Bool := @decide (EvenG G) (Classical.propDecidable _)
theorem evD_true {G : List (List KV)} (h : EvenG G) : evD G = true := by unfold evD; exact @decide_eq_true _ (Classical.propDecidable _) h
theorem evD_false {G : List (List KV)} (h : ¬ EvenG G) : evD G = false := by unfold evD; exact @decide_eq_false _ (Classical.propDecidable _) h
theorem RdP.two {w : World} {a : Option Addr} {c : Nat} {l : List KV} (h : RdP w a c l) {i : Nat} (hi : i < l.length) : ∃ b off, a = some ⟨b, off, none⟩ ∧ w.cell? ⟨b, off + i * 2, none⟩ = some (.string l[i].1) ∧ w.cell? ⟨b, off + i * 2 + 1, none⟩ = some (.string l[i].2) := by
  obtain ⟨b, off, h1, h2⟩ := h.2.2.resolve_left (fun e => by rw [e] at hi; simp at hi)
  exact ⟨b, off, h1, h2 i hi⟩
theorem bytesL_mem {G : List (List KV)} {g : List KV} (h : g ∈ G) : bytesL g ≤ bytesL G.flatten := by
  induction G with
  | nil => simp at h
  | cons x G ih =>
    rw [List.flatten_cons, bytesL_app]
    rcases List.mem_cons.1 h with rfl | h
    · omega
    · have := ih h; omega
theorem grp_len (hd : ByteArray → ByteArray) (l : List KV) : (grp hd l).length ≤ l.length := by
  have h1 : (grp hd l).length ≤ (grp hd l).flatten.length := by
    rw [List.length_flatten]
    have : ∀ M : List (List KV), (∀ x ∈ M, 1 ≤ x.length) → M.length ≤ (M.map List.length).sum := by
      intro M
      induction M with
      | nil => intro _; simp
      | cons x M ih =>
        intro hM
        have h1 := hM x (List.mem_cons_self)
        have h2 := ih (fun y hy => hM y (List.mem_cons_of_mem _ hy))
        simp
        omega
    exact this _ (fun x hx => List.length_pos_iff.2 (grp_ne (hd := hd) l x hx))
  rw [grp_flat] at h1
  exact h1

end Go.Proofs.YtkeggcfnoonakaaGreat
