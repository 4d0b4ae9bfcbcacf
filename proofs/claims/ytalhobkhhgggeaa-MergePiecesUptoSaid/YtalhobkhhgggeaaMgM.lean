/-
  Merge: SameLists, and the law's own even.
-/
import Derived.Test.YtalhobkhhgggeaaMgL
namespace Go.Proofs.Ytalhobkhhgggeaa
open Go.RowKit

/-- A list of lists of the walk's own, read as lists that came in. -/
theorem rdL_of_lst {w : World} {B : Nat} {vo : Value} {S : List (Sl × List KV)} (h : Lst eKV eSl w B vo S) : ∃ a c, vo = .slice a (S.map (·.2)).length c ∧ RdL w a (S.map (·.2)) := by
  obtain ⟨a, c, rfl⟩ := h.form
  refine ⟨a, c, by rw [List.length_map], ?_⟩
  by_cases h0 : S = []
  · exact .inl (by rw [h0]; rfl)
  · right
    have hp : 0 < S.length := List.length_pos_iff.2 h0
    obtain ⟨g, cap, e, _⟩ := h.read hp
    injection e with e1 _ _
    subst e1
    refine ⟨g, 0, rfl, fun i hi => ?_⟩
    have hi' : i < S.length := by rw [List.length_map] at hi; exact hi
    obtain ⟨g', cap', e', hc⟩ := h.read hi'
    injection e' with e1 _ _
    injection e1 with e1
    injection e1 with e1
    subst e1
    obtain ⟨ai, ci, hv, hr⟩ := rdP_own (h.each i hi')
    rw [hv] at hc
    have hm : (S.map (·.2))[i] = S[i].2 := by simp
    rw [hm, Nat.zero_add]
    exact ⟨ai, ci, hc, hr⟩
theorem RdP.drewN {w : World} {a : Option Addr} {c : Nat} {l : List KV} (h : RdP w a c l) (n : Nat) : RdP (w.drewN n) a c l := h.below (n := 0) ((tn_drewN (F := fun _ => False) w n).below (Nat.le_refl _) (fun _ e => e.elim))
set_option maxRecDepth 100000 in
set_option maxHeartbeats 1000000 in
theorem samekeys_quiet {w : World} {a b : Option Addr} {ca cb : Nat} {A B : List KV} (ha : RdP w a ca A) (hb : RdP w b cb B) (hA : A.length ≤ 100000) (hB : B.length ≤ 100000) :
    Calls Try.prog 9 #[.slice a A.length ca, .slice b B.length cb] w fun e w' => e = .returned (.bool (decide (A = B))) ∧ ∃ m, w' = w.drewN m := by
  obtain ⟨n, hn⟩ : ∃ n, n = A.length := ⟨_, rfl⟩
  obtain ⟨m, hm⟩ : ∃ m, m = B.length := ⟨_, rfl⟩
  have heq := eqkv
  rw [← hn] at hA ⊢
  rw [← hm] at hB ⊢
  have HA := Lib.hid ha
  have HB := Lib.hid hb
  have HN := Lib.hid (And.intro hn hm)
  clear ha hb hn hm
  by_cases hnm : n = m
  · subst hnm
    go_enter Try.func9, Try.ntmps9
    go_wp2
    go_loopw [5] (fun x wr => ∃ i : Nat, i ≤ n ∧ x = .int .i64 (i : Int) ∧ A.take i = B.take i ∧ ∃ m, wr = w.drewN m) (fun x _ => n - (intOf x).toNat)
    case atStart => exact ⟨0, by omega, rfl, by simp, 0, rfl⟩
    case round =>
      obtain ⟨i, hi, rfl, htk, d9, hwr⟩ := hrel
      have HWR := Lib.hid hwr
      have HTK := Lib.hid htk
      clear htk hwr
      by_cases hlt : i < n
      · have hia : i < A.length := by have := HN.out.1; omega
        have hib : i < B.length := by have := HN.out.2; omega
        obtain ⟨g, o1, rfl, hca⟩ := HA.out.2.2.resolve_left (fun e => by rw [e] at hia; simp at hia)
        obtain ⟨g2, o2, rfl, hcb⟩ := HB.out.2.2.resolve_left (fun e => by rw [e] at hib; simp at hib)
        have c1 : wr.cell? ⟨g, o1 + i * 2, none⟩ = some (.string A[i].1) := by rw [HWR.out]; exact (hca i hia).1
        have c2 : wr.cell? ⟨g, o1 + i * 2 + 1, none⟩ = some (.string A[i].2) := by rw [HWR.out]; exact (hca i hia).2
        have c3 : wr.cell? ⟨g2, o2 + i * 2, none⟩ = some (.string B[i].1) := by rw [HWR.out]; exact (hcb i hib).1
        have c4 : wr.cell? ⟨g2, o2 + i * 2 + 1, none⟩ = some (.string B[i].2) := by rw [HWR.out]; exact (hcb i hib).2
        obtain ⟨x, hx⟩ : ∃ x, A[i] = x := ⟨_, rfl⟩
        obtain ⟨y, hy⟩ : ∃ y, B[i] = y := ⟨_, rfl⟩
        rw [hx] at c1 c2
        rw [hy] at c3 c4
        obtain ⟨x1, x2⟩ := x
        obtain ⟨y1, y2⟩ := y
        have HXY := Lib.hid (And.intro hx hy)
        clear hca hcb hx hy
        have q1 : (i : Int) < (n : Int) := by omega
        have q2 : (0 : Int) ≤ (i : Int) := by omega
        by_cases hxy : x1 = y1 ∧ x2 = y2
        · obtain ⟨rfl, rfl⟩ := hxy
          have s1 := str_eq x1
          have s2 := str_eq x2
          go_wp2_with fail
          go_quiet (fail)
          go_wp2
          go_roundw
          case rel =>
            refine ⟨i + 1, by omega, by go_num, ?_, by first | exact ⟨_, HWR.out⟩ | exact ⟨_, by rw [HWR.out]; exact World.drewN_drewN _ _ _⟩⟩
            rw [List.take_succ_eq_append_getElem hia, List.take_succ_eq_append_getElem hib, HTK.out, HXY.out.1, HXY.out.2]
          case measure => simp [intOf]; omega
        · have hne : A ≠ B := fun e => by
            subst e
            have := HXY.out.1.symm.trans HXY.out.2
            injection this with e1 e2
            exact hxy ⟨e1, e2⟩
          have HNE := Lib.hid hne
          have hs : (x1.toList == y1.toList) = false ∨ (x1.toList == y1.toList) = true ∧ (x2.toList == y2.toList) = false := by
            by_cases e1 : x1 = y1
            · subst e1
              exact Or.inr ⟨str_eq _, str_ne (fun e => hxy ⟨rfl, e⟩)⟩
            · exact Or.inl (str_ne e1)
          clear hxy hne
          rcases hs with s1 | ⟨s1, s2⟩
          all_goals
            go_wp2_with fail
            go_quiet (fail)
            go_wp2
            go_ret
            exact ⟨ret_b' (by rw [decide_eq_false HNE.out]), by first | exact ⟨_, HWR.out⟩ | exact ⟨_, by rw [HWR.out]; exact World.drewN_drewN _ _ _⟩⟩
      · obtain rfl : i = n := by omega
        have he : A = B := by
          have := HTK.out
          rwa [List.take_of_length_le (by have := HN.out.1; omega), List.take_of_length_le (by have := HN.out.2; omega)] at this
        have HE := Lib.hid he
        clear he
        go_wp2
        go_ret
        exact ⟨ret_b' (by rw [decide_eq_true HE.out]), _, HWR.out⟩
  · have hne : A ≠ B := fun e => by subst e; exact hnm (HN.out.1.trans HN.out.2.symm)
    have HNE := Lib.hid hne
    have t1 : ((n : Int) != (m : Int)) = true := by simp; omega
    have t1n : (n != m) = true := by simpa using hnm
    clear hne
    go_enter Try.func9, Try.ntmps9
    go_wp2
    go_ret
    exact ⟨ret_b' (by rw [decide_eq_false HNE.out]), 0, rfl⟩

set_option maxRecDepth 100000 in
set_option maxHeartbeats 1000000 in
theorem samelists_quiet {w : World} {a b : Option Addr} {ca cb : Nat} {A B : List (List KV)} (ha : RdL w a A) (hb : RdL w b B) (hA : A.length ≤ 100000) (hB : B.length ≤ 100000) (hA2 : ∀ l ∈ A, l.length ≤ 100000) (hB2 : ∀ l ∈ B, l.length ≤ 100000) :
    Calls Try.prog 13 #[.slice a A.length ca, .slice b B.length cb] w fun e w' => e = .returned (.bool (decide (A = B))) ∧ ∃ m, w' = w.drewN m := by
  obtain ⟨n, hn⟩ : ∃ n, n = A.length := ⟨_, rfl⟩
  obtain ⟨m, hm⟩ : ∃ m, m = B.length := ⟨_, rfl⟩
  rw [← hn] at hA ⊢
  rw [← hm] at hB ⊢
  have HA := Lib.hid (And.intro ha hA2)
  have HB := Lib.hid (And.intro hb hB2)
  have HN := Lib.hid (And.intro hn hm)
  clear ha hb hn hm hA2 hB2
  by_cases hnm : n = m
  · subst hnm
    go_enter Try.func13, Try.ntmps13
    go_wp2_with fail
    go_loopw [5] (fun x wr => ∃ i : Nat, i ≤ n ∧ x = .int .i64 (i : Int) ∧ A.take i = B.take i ∧ ∃ m, wr = w.drewN m) (fun x _ => n - (intOf x).toNat)
    case atStart => exact ⟨0, by omega, rfl, by simp, 0, rfl⟩
    case round =>
      obtain ⟨i, hi, rfl, htk, d9, hwr⟩ := hrel
      have HWR := Lib.hid hwr
      have HTK := Lib.hid htk
      clear htk hwr
      by_cases hlt : i < n
      · have hia : i < A.length := by have := HN.out.1; omega
        have hib : i < B.length := by have := HN.out.2; omega
        obtain ⟨g, o1, rfl, hca⟩ := HA.out.1.resolve_left (fun e => by rw [e] at hia; simp at hia)
        obtain ⟨g2, o2, rfl, hcb⟩ := HB.out.1.resolve_left (fun e => by rw [e] at hib; simp at hib)
        obtain ⟨xa, xc, cx, rx⟩ := hca i hia
        obtain ⟨ya, yc, cy, ry⟩ := hcb i hib
        have hlx := HA.out.2 _ (List.getElem_mem hia)
        have hly := HB.out.2 _ (List.getElem_mem hib)
        obtain ⟨x, hx⟩ : ∃ x, A[i] = x := ⟨_, rfl⟩
        obtain ⟨y, hy⟩ : ∃ y, B[i] = y := ⟨_, rfl⟩
        rw [hx] at cx rx hlx
        rw [hy] at cy ry hly
        have hcall : ∀ d, Calls Try.prog 9 #[.slice xa x.length xc, .slice ya y.length yc] (wr.drewN d) fun e w' => e = .returned (.bool (decide (x = y))) ∧ ∃ m, w' = (wr.drewN d).drewN m := fun d => by
          have h1 : wr.drewN d = w.drewN (d9 + d) := by rw [HWR.out]; exact World.drewN_drewN _ _ _
          rw [h1]
          exact samekeys_quiet (rx.drewN _) (ry.drewN _) hlx hly
        obtain ⟨xn, hxn⟩ : ∃ z, x.length = z := ⟨_, rfl⟩
        obtain ⟨yn, hyn⟩ : ∃ z, y.length = z := ⟨_, rfl⟩
        rw [hxn] at cx hcall
        rw [hyn] at cy hcall
        have c1 : wr.cell? ⟨g, o1 + i, none⟩ = some (.slice xa xn xc) := by rw [HWR.out]; exact cx
        have c2 : wr.cell? ⟨g2, o2 + i, none⟩ = some (.slice ya yn yc) := by rw [HWR.out]; exact cy
        have HXY := Lib.hid (And.intro hx hy)
        clear hca hcb hx hy cx cy rx ry hlx hly hxn hyn
        have q1 : (i : Int) < (n : Int) := by omega
        have q2 : (0 : Int) ≤ (i : Int) := by omega
        by_cases hxy : x = y
        · have hd : decide (x = y) = true := decide_eq_true hxy
          rw [hd] at hcall
          have HXE := Lib.hid hxy
          clear hxy hd
          go_wp2_with fail
          go_quiet ((go_at_call 9; with_reducible exact Calls.quiet_of (hcall _)))
          clear hcall
          go_wp2_with fail
          go_roundw
          case rel =>
            refine ⟨i + 1, by omega, by go_num, ?_, ⟨_, by rw [HWR.out]; exact World.drewN_drewN _ _ _⟩⟩
            rw [List.take_succ_eq_append_getElem hia, List.take_succ_eq_append_getElem hib, HTK.out, HXY.out.1, HXY.out.2, HXE.out]
          case measure => simp [intOf]; omega
        · have hd : decide (x = y) = false := decide_eq_false hxy
          rw [hd] at hcall
          have hne : A ≠ B := fun e => by
            subst e
            exact hxy (HXY.out.1.symm.trans HXY.out.2)
          have HNE := Lib.hid hne
          clear hxy hd hne
          go_wp2_with fail
          go_quiet ((go_at_call 9; with_reducible exact Calls.quiet_of (hcall _)))
          clear hcall
          go_wp2_with fail
          go_ret
          exact ⟨ret_b' (by rw [decide_eq_false HNE.out]), ⟨_, by rw [HWR.out]; exact World.drewN_drewN _ _ _⟩⟩
      · obtain rfl : i = n := by omega
        have he : A = B := by
          have := HTK.out
          rwa [List.take_of_length_le (by have := HN.out.1; omega), List.take_of_length_le (by have := HN.out.2; omega)] at this
        have HE := Lib.hid he
        clear he
        go_wp2_with fail
        go_ret
        exact ⟨ret_b' (by rw [decide_eq_true HE.out]), _, HWR.out⟩
  · have hne : A ≠ B := fun e => by subst e; exact hnm (HN.out.1.trans HN.out.2.symm)
    have HNE := Lib.hid hne
    have t1 : ((n : Int) != (m : Int)) = true := by simp; omega
    have t1n : (n != m) = true := by simpa using hnm
    clear hne
    go_enter Try.func13, Try.ntmps13
    go_wp2_with fail
    go_ret
    exact ⟨ret_b' (by rw [decide_eq_false HNE.out]), 0, rfl⟩

/-- Each list but the last has a byte. -/
def EvenG (G : List (List KV)) : Prop := ∀ i (h : i + 1 < G.length), bytesL G[i] ≠ 0
noncomputable def evD (G : List (List KV)) : Bool := @decide (EvenG G) (Classical.propDecidable _)
theorem evD_true {G : List (List KV)} (h : EvenG G) : evD G = true := by unfold evD; exact @decide_eq_true _ (Classical.propDecidable _) h
theorem evD_false {G : List (List KV)} (h : ¬ EvenG G) : evD G = false := by unfold evD; exact @decide_eq_false _ (Classical.propDecidable _) h
theorem RdP.two {w : World} {a : Option Addr} {c : Nat} {l : List KV} (h : RdP w a c l) {i : Nat} (hi : i < l.length) : ∃ b off, a = some ⟨b, off, none⟩ ∧ w.cell? ⟨b, off + i * 2, none⟩ = some (.string l[i].1) ∧ w.cell? ⟨b, off + i * 2 + 1, none⟩ = some (.string l[i].2) := by
  obtain ⟨b, off, h1, h2⟩ := h.2.2.resolve_left (fun e => by rw [e] at hi; simp at hi)
  exact ⟨b, off, h1, h2 i hi⟩
theorem bytesL_mem {G : List (List KV)} {g : List KV} (h : g ∈ G) : bytesL g ≤ bytesL G.flatten := by
  induction G with
  | nil => simp at h
  | cons x G ih =>
    rw [List.flatten_cons, bytesL_app]
    rcases List.mem_cons.1 h with rfl | h
    · omega
    · have := ih h; omega
theorem grp_len (hd : ByteArray → ByteArray) (l : List KV) : (grp hd l).length ≤ l.length := by
  have h1 : (grp hd l).length ≤ (grp hd l).flatten.length := by
    rw [List.length_flatten]
    have : ∀ M : List (List KV), (∀ x ∈ M, 1 ≤ x.length) → M.length ≤ (M.map List.length).sum := by
      intro M
      induction M with
      | nil => intro _; simp
      | cons x M ih =>
        intro hM
        have h1 := hM x (List.mem_cons_self)
        have h2 := ih (fun y hy => hM y (List.mem_cons_of_mem _ hy))
        simp
        omega
    exact this _ (fun x hx => List.length_pos_iff.2 (grp_ne (hd := hd) l x hx))
  rw [grp_flat] at h1
  exact h1
set_option maxRecDepth 100000 in
set_option maxHeartbeats 2000000 in
theorem even_any {w : World} {a : Option Addr} {c : Nat} {l : List KV} (hd : ByteArray → ByteArray) (h : RdP w a c l) (hl : l.length ≤ 100000) (hby : bytesL l ≤ 1000000)
    (hh : ∀ p ∈ l, ∀ w', Below w.heap.size w w' → Calls Try.prog 12 #[.string p.1] w' fun e w'' => e = .returned (.string (hd p.1)) ∧ w'' = w') :
    Calls Try.prog 15 #[.slice a l.length c] w fun e w' => e = .returned (.bool (evD (grp hd l))) ∧ Below w.heap.size w w' := by
  have hgr := refgroup_any (c := c) hd h hl hh
  obtain ⟨n, hn⟩ : ∃ n, l.length = n := ⟨_, rfl⟩
  rw [hn] at hgr ⊢
  have H := Lib.hid (And.intro hgr (And.intro hl (And.intro hby hn)))
  clear hgr h hl hby hh hn
  go_enter Try.func15, Try.ntmps15
  go_wp2_with fail
  refine H.out.1.mono ?_
  rintro e w1 ⟨vg, SG, rfl, hSG, hG, hb1⟩
  obtain ⟨ga, gc, rfl, hrd⟩ := rdL_of_lst hSG
  rw [hG] at hrd ⊢
  have hfl := grp_flat (hd := hd) l
  have hgl := grp_len hd l
  obtain ⟨G, hGG⟩ : ∃ G, grp hd l = G := ⟨_, rfl⟩
  rw [hGG] at hrd hfl hgl ⊢
  obtain ⟨N, hN⟩ : ∃ N, G.length = N := ⟨_, rfl⟩
  rw [hN] at hgl ⊢
  have hNl : N ≤ 100000 := by have := H.out.2.1; omega
  have HG := Lib.hid (And.intro hrd (And.intro hfl (And.intro hb1 (And.intro hN hGG))))
  clear hSG hG hrd hfl hb1 hGG hN hgl
  go_wp2_with fail
  go_loopw [4] (fun y wr => ∃ i d : Nat, i ≤ N ∧ y = .int .i64 (i : Int) ∧ (∀ j (h : j < G.length), j < i → j + 1 < N → bytesL G[j] ≠ 0) ∧ wr = w1.drewN d) (fun y _ => N - (intOf y).toNat)
  case atStart => exact ⟨0, 0, by omega, rfl, fun j _ hj => by omega, rfl⟩
  case round =>
    obtain ⟨i, d, hi, rfl, hall, hwr⟩ := hrel
    have HW := Lib.hid (And.intro hwr hall)
    clear hwr hall
    by_cases hlt : i + 1 < N
    · have hiG : i < G.length := by rw [HG.out.2.2.2.1]; omega
      obtain ⟨gb, go, rfl, hc⟩ := HG.out.1.resolve_left (fun e => by rw [e] at hiG; simp at hiG)
      obtain ⟨xa, xc, c0, hrx⟩ := hc i hiG
      have hmem := List.getElem_mem hiG
      have hbx := bytesL_mem hmem
      have hlx := len_flat hmem
      rw [HG.out.2.1] at hbx hlx
      obtain ⟨x, hx⟩ : ∃ x, G[i] = x := ⟨_, rfl⟩
      rw [hx] at c0 hrx hbx hlx
      obtain ⟨xn, hxn⟩ : ∃ xn, x.length = xn := ⟨_, rfl⟩
      rw [hxn] at c0 hlx
      have hbx6 : bytesL x ≤ 1000000 := by have := H.out.2.2.1; omega
      have hxn5 : xn ≤ 100000 := by have := H.out.2.1; have := H.out.2.2.2; omega
      have HX := Lib.hid (And.intro hx (And.intro hxn (And.intro hrx c0)))
      clear hc hx hxn hrx c0 hmem hbx hlx
      have z0 : (i : Int) + 1 < (N : Int) := by omega
      have z1 : (i : Int) < (N : Int) := by omega
      have z2 : (0 : Int) ≤ (i : Int) := by omega
      obtain ⟨wp, hwp⟩ : ∃ wp, wp = wr := ⟨_, rfl⟩
      rw [← hwp]
      have HWP := Lib.hid (show ∃ d, wp = w1.drewN d from ⟨d, by rw [hwp]; exact HW.out.1⟩)
      clear hwp
      go_wp2_with fail
      go_loopw [5, 6] (fun s y wr => ∃ k d : Nat, k ≤ xn ∧ y = .int .i64 (k : Int) ∧ s = .int .i64 (bytesL (x.take k) : Int) ∧ wr = w1.drewN d) (fun _ y _ => xn - (intOf y).toNat)
      case atStart =>
        obtain ⟨d, hd⟩ := HWP.out
        exact ⟨0, d, by omega, rfl, rfl, hd⟩
      case round =>
        obtain ⟨k, d2, hk, rfl, rfl, hwr⟩ := hrel
        have v0 : wr.cell? ⟨gb, go + i, none⟩ = some (.slice xa xn xc) := by rw [hwr]; exact HX.out.2.2.2
        have hbt := bytesL_le x k
        have z4 : (0 : Int) ≤ (k : Int) := by omega
        by_cases hkx : k < xn
        · have hkl : k < x.length := by rw [HX.out.2.1]; exact hkx
          obtain ⟨xb, xo, rfl, x0, x1⟩ := HX.out.2.2.1.two hkl
          have y0 : wr.cell? ⟨xb, xo + k * 2, none⟩ = some (.string x[k].1) := by rw [hwr]; exact x0
          have y1 : wr.cell? ⟨xb, xo + k * 2 + 1, none⟩ = some (.string x[k].2) := by rw [hwr]; exact x1
          have hnx := bytesL_take x k hkl
          have hbt2 := bytesL_le x (k + 1)
          obtain ⟨kp, hkp⟩ : ∃ z, x[k].1 = z := ⟨_, rfl⟩
          obtain ⟨vp, hvp⟩ : ∃ z, x[k].2 = z := ⟨_, rfl⟩
          rw [hkp] at y0 hnx
          rw [hvp] at y1 hnx
          obtain ⟨nn, hnn⟩ : ∃ nn : Nat, bytesL (x.take k) = nn := ⟨_, rfl⟩
          rw [hnn] at hnx ⊢
          have hnn1 : nn ≤ 2000000 := by omega
          have hsz5 : kp.size + vp.size ≤ 1000000 := by omega
          have z5 : (k : Int) < (xn : Int) := by omega
          have HK := Lib.hid (And.intro hwr (And.intro hnx hnn))
          clear hwr hnx hnn hkp hvp x0 x1 hbt hbt2
          go_wp2_with fail
          go_quiet (fail)
          go_wp2_with fail
          go_roundw
          case rel => exact ⟨k + 1, _, by omega, by go_num, by rw [HK.out.2.1]; go_num, by rw [HK.out.1]; exact World.drewN_drewN _ _ _⟩
          case measure => simp [intOf]; omega
        · obtain rfl : k = xn := by omega
          have hft : x.take k = x := List.take_of_length_le (by rw [HX.out.2.1]; exact Nat.le_refl _)
          rw [hft] at hbt ⊢
          obtain ⟨nn, hnn⟩ : ∃ nn : Nat, bytesL x = nn := ⟨_, rfl⟩
          rw [hnn] at hbt ⊢
          have HK := Lib.hid (And.intro hwr hnn)
          clear hwr hnn hft
          by_cases h0 : nn = 0
          · subst h0
            have hne : ¬ EvenG G := fun hE => hE i (by rw [HG.out.2.2.2.1]; exact hlt) (by rw [HX.out.1]; exact HK.out.2)
            have HNE := Lib.hid hne
            clear hne
            go_wp2_with fail
            go_ret
            exact ⟨ret_b' (by rw [HG.out.2.2.2.2, evD_false HNE.out]), by rw [HK.out.1]; exact HG.out.2.2.1.trans ((tn_drewN (F := fun _ => False) w1 d2).below HG.out.2.2.1.size (fun _ e => e.elim))⟩
          · have t1 : ((nn : Int) == 0) = false := beq_eq_false_iff_ne.2 (by omega)
            have hall : ∀ j (h : j < G.length), j < i + 1 → j + 1 < N → bytesL G[j] ≠ 0 := fun j hj hji hjN => by
              by_cases hj2 : j < i
              · exact HW.out.2 j hj hj2 hjN
              · obtain rfl : j = i := by omega
                rw [HX.out.1, HK.out.2]
                exact h0
            have HALL := Lib.hid hall
            clear hall
            go_wp2_with fail
            go_roundw
            case rel => exact ⟨i + 1, d2, by omega, by go_num, HALL.out, HK.out.1⟩
            case measure => simp [intOf]; omega
    · have hE : EvenG G := fun j hj => HW.out.2 j (by omega) (by have := HG.out.2.2.2.1; omega) (by have := HG.out.2.2.2.1; omega)
      have HE := Lib.hid hE
      clear hE
      have z0 : ¬ (i : Int) + 1 < (N : Int) := by omega
      go_wp2_with fail
      go_ret
      exact ⟨ret_b' (by rw [HG.out.2.2.2.2, evD_true HE.out]), by rw [HW.out.1]; exact HG.out.2.2.1.trans ((tn_drewN (F := fun _ => False) w1 d).below HG.out.2.2.1.size (fun _ e => e.elim))⟩
end Go.Proofs.Ytalhobkhhgggeaa
