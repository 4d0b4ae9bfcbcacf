import Derived.Test.YtceamkcaokdgaaaGreatDoorDm11
set_option linter.unusedSimpArgs false
set_option linter.unusedVariables false
/-
  The document's disk: Append, Sync.
-/
namespace Go.Proofs.YtceamkcaokdgaaaGreatDoor
open Go.RowKit
variable {F G : Nat → Prop} {w w' w2 : World} {rb : Nat} {lv lv' : Value} {R R' : Dk}

theorem strNil {d : ByteArray} (h : d.size = 0) : d.toList.isEmpty = true := by
  rw [ByteArray.toList_eq, List.isEmpty_iff]
  exact List.eq_nil_of_length_eq_zero (by simpa using h)
theorem strSome {d : ByteArray} (h : d.size ≠ 0) : d.toList.isEmpty = false := by
  rw [Bool.eq_false_iff, ByteArray.toList_eq]
  intro e
  rw [List.isEmpty_iff] at e
  exact h (by have := congrArg List.length e; simpa using this)
/-- A file's cells. -/
theorem RfAt.cellsOf {g n cap i : Nat} {x : ByteArray × Fl} {m : Fm} (h : RfAt F w rb (.slice (some ⟨g, 0, none⟩) n cap) R) (hm : R.m = m) (hi : m[i]? = some x) : w.cell? ⟨rb, 0, none⟩ = some (.slice (some ⟨g, 0, none⟩) n cap) ∧ w.cell? ⟨g, i * 3, none⟩ = some (.string x.1) ∧ w.cell? ⟨g, i * 3 + 1, none⟩ = some (.string x.2.data) ∧ w.cell? ⟨g, i * 3 + 2, none⟩ = some (.int .i64 (x.2.syn : Int)) ∧ (∀ j, w.frozen? ⟨g, j, none⟩ = false) ∧ g < w.heap.size ∧ g ≠ rb := by
  subst hm
  obtain ⟨hil, hx⟩ := List.getElem?_eq_some_iff.1 hi
  obtain ⟨g', cap', e, _, hg, k0, k1, k2⟩ := rf_cells h.row hil
  injection e with e1 e2 e3
  injection e1 with e1
  injection e1 with e1
  subst e1 e3
  rw [hx] at k0 k1 k2
  have hr : w.ownsRow 0 121 3 (.slice (some ⟨g, 0, none⟩) n cap) n (R.m.flatMap cFl) := by
    have h9 : w.ownsRow 0 121 3 (.slice (some ⟨g, 0, none⟩) n cap) R.m.length (R.m.flatMap cFl) := h.row
    rwa [← e2] at h9
  exact ⟨h.c0, k0, k1, k2, fun j => World.ownsRow.frozenAt hr j, hg, fun e => h.ne (by rw [e]; rfl)⟩
theorem RfAt.fileOf (h : RfAt F w rb lv R) {s : ByteArray} (hi : atN R.m s < R.m.length) : ∃ (i g cap n : Nat) (fd : ByteArray) (fs : Nat), atI R.m s = (i : Int) ∧ R.m[i]? = some (s, (⟨fd, fs⟩ : Fl)) ∧ lv = .slice (some ⟨g, 0, none⟩) n cap ∧
    getL R.m s = some ⟨fd, fs⟩ ∧ (∀ v, setL R.m s v = R.m.set i (s, v)) ∧ fs ≤ fd.size ∧ fd.size ≤ 1048576 ∧ i < n ∧ n ≤ 20000 ∧ R.m.length = n := by
  obtain ⟨g, cap, hlv, _⟩ := rf_cells h.row hi
  have hnm := atN_at hi
  have hsyn := h.ok.syn _ (List.getElem_mem hi)
  have hgl := getL_at hi
  refine ⟨atN R.m s, g, cap, R.m.length, R.m[atN R.m s].2.data, R.m[atN R.m s].2.syn, (at_yes hi).2, ?_, hlv, hgl, fun v => setL_at h.nd hi v, hsyn.1, hsyn.2, hi, h.ok.few, rfl⟩
  rw [List.getElem?_eq_getElem hi]
  congr 1
  exact Prod.ext hnm rfl
theorem RfAt.filed {g n cap i j : Nat} {x x' : ByteArray × Fl} {u : Value} {m m' : Fm} (h : RfAt F w rb (.slice (some ⟨g, 0, none⟩) n cap) R) (hF : ∀ q, RFoot rb (.slice (some ⟨g, 0, none⟩) n cap) q → F q) (hm : R.m = m) (hi : m[i]? = some x) (hj : j < 3) (hx : (cFl x).set j u = cFl x') (hs : m.set i x' = m') (hok : ({ R with m := m' } : Dk).Ok ∧ keysN m') :
    RfAt F (w.setCell ⟨g, i * 3 + j, none⟩ u) rb (.slice (some ⟨g, 0, none⟩) n cap) { R with m := m' } ∧ Tn (RFoot rb (.slice (some ⟨g, 0, none⟩) n cap)) w (w.setCell ⟨g, i * 3 + j, none⟩ u) := by
  subst hm
  obtain ⟨hil, he⟩ := List.getElem?_eq_some_iff.1 hi
  exact h.file hF hil hj (by rw [he]; exact hx) hs hok.1 hok.2
theorem ok_set {m' : Fm} (hok : R'.Ok) (hm : R'.m = R.m) (h : R.Ok) (hnd : keysN R.m) {s : ByteArray} {v : Fl} (hi : atN R.m s < R.m.length) (hv : v.syn ≤ v.data.size ∧ v.data.size ≤ 1048576) (e : setL R.m s v = m') : ({ R' with m := m' } : Dk).Ok ∧ keysN m' := by
  subst e
  refine ⟨ok_with hok hm h (fun p hp => ?_) (fun p hp => ?_) ?_, keysN_set hnd _ _⟩
  · rcases setL_mem hp with rfl | hp
    · have h2 := h.nam _ (List.getElem_mem hi)
      rw [atN_at hi] at h2
      exact h2
    · exact h.nam p hp
  · rcases setL_mem hp with rfl | hp
    · exact hv
    · exact h.syn p hp
  · rw [setL_at hnd hi, List.length_set]
    exact h.few

set_option maxRecDepth 100000 in
set_option maxHeartbeats 4000000 in
theorem rappend_any (h : RfAt F w rb lv R) (hF : ∀ q, RFoot rb lv q → F q) (hk : R.acts < 1000000) (s : ByteArray) (hs : s.size ≤ 140737488351232) (data : ByteArray) (hds : data.size ≤ 140737488351232) :
    Calls Tryz.prog 23 #[.pointer (some ⟨rb, 0, none⟩), .string s, .string data] w fun e w' => e = .returned (.int .i64 (R.app s data).1) ∧ RStep F w w' rb lv (R.app s data).2 := by
  have HG := Lib.hid (rguard_any h s hs)
  have HAT := Lib.hid (rat_any h s)
  have HBU := Lib.hid (fun (d : Nat) => rburn_any (h.below (below_drewN (Below.refl _ w) d)) hF hk)
  have HUS := Lib.hid (rused_any h)
  have c2 := h.c2
  have H := Lib.hid (And.intro h hF)
  by_cases ha : R.asked [s] = 0
  · rw [ha] at HG
    by_cases hi : atN R.m s < R.m.length
    · obtain ⟨i, g, cap, n, fd, fs, hai, hget, hlv, hgl, hset, q1, q2, hin, hnl, hn⟩ := h.fileOf hi
      rw [hai] at HAT
      subst hlv
      obtain ⟨c0, k0, k1, k2, hfz, hg, hgr⟩ := h.cellsOf rfl hget
      simp only at k0 k1 k2
      have hq := h.ok.quota
      have HI := Lib.hid (And.intro hi (And.intro hget (And.intro hset (And.intro hn (And.intro q1 q2)))))
      by_cases hlong : 1048576 < fd.size + data.size
      · have hres : R.app s data = (2, R) := by unfold Dk.app; rw [ha, if_neg (by decide), hgl]; simp only; rw [if_pos hlong]
        rw [hres]
        have t0 : (1048576 : Int) < (fd.size : Int) + (data.size : Int) := by omega
        clear hres hi ha hai hgl hset hget hn hg hgr hfz hlong h hF
        go_enter Tryz.func23, Tryz.ntmps23
        go_wp2_with (first | (go_at_call 116; refine HAT.out.mono ?_; rintro e v2 ⟨rfl, rfl⟩) | (go_at_call 115; refine HG.out.mono ?_; rintro e v1 ⟨rfl, rfl⟩))
        go_ret
        exact ⟨rfl, RStep.same H.out.1⟩
      · have t0 : ¬ (1048576 : Int) < (fd.size : Int) + (data.size : Int) := by omega
        obtain ⟨qb, hqb⟩ : ∃ qb, decide (0 ≤ R.quota ∧ data.size ≠ 0 ∧ R.quota < (used R.m : Int) + data.size) = qb := ⟨_, rfl⟩
        have hul : used R.m ≤ 1048576 * n := by
          have h9 := rused_le R.m h.ok.syn R.m.length
          rw [List.take_length, hn] at h9
          exact h9
        have hres : R.app s data = if qb = true then (24, R) else if R.burn.1 = true then (20, R.burn.2) else (0, { R.burn.2 with m := setL R.m s ⟨fd ++ data, fs⟩ }) := by
          unfold Dk.app
          rw [ha, if_neg (by decide), hgl]
          simp only
          rw [if_neg hlong, ract_burn]
          by_cases hq2 : 0 ≤ R.quota ∧ data.size ≠ 0 ∧ R.quota < (used R.m : Int) + data.size
          · have e : qb = true := by rw [← hqb]; simpa using hq2
            rw [if_pos hq2, if_pos e]
          · have e : ¬ qb = true := by rw [← hqb]; simpa using hq2
            rw [if_neg hq2, if_neg e]
        rw [hres]
        obtain ⟨res, hre⟩ : ∃ res, (if qb = true then (24, R) else if R.burn.1 = true then (20, R.burn.2) else (0, { R.burn.2 with m := setL R.m s ⟨fd ++ data, fs⟩ }) : Int × Dk) = res := ⟨_, rfl⟩
        rw [hre]
        have HRE := Lib.hid hre
        clear hre
        have HQB := Lib.hid hqb
        have HL := Lib.hid hlong
        obtain ⟨us, hus⟩ : ∃ us, used R.m = us := ⟨_, rfl⟩
        rw [hus] at HUS HQB hul
        have hus2 := fun (d : Nat) => (rused_any (h.below (below_drewN (Below.refl _ w) d))).mono (R' := fun e w' => e = .returned (.int .i64 (used R.m : Int)) ∧ w' = w.drewN d) (fun _ _ h => ⟨h.1, h.2.symm⟩)
        rw [hus] at hus2
        obtain ⟨qq, hqq⟩ : ∃ qq, R.quota = qq := ⟨_, rfl⟩
        rw [hqq] at HQB c2 hq
        have hb1 : us ≤ 1048576 * 20000 := by omega
        have hb2 : data.size ≤ 1048576 := by omega
        clear hres hi ha hai hgl hset hget hn hg hgr hfz hlong h hF hqb hus hul hqq
        go_enter Tryz.func23, Tryz.ntmps23
        go_upto_region 9 with (first | (go_at_call 116; refine HAT.out.mono ?_; rintro e v2 ⟨rfl, rfl⟩) | (go_at_call 115; refine HG.out.mono ?_; rintro e v1 ⟨rfl, rfl⟩))
        go_cut [36] from 37 (fun t wx => t = .bool qb ∧ ∃ d, wx = w.drewN d)
        case first =>
          by_cases q0 : qq < 0
          · have hsf : qb = false := by rw [← HQB.out, decide_eq_false_iff_not]; rintro ⟨h9, _⟩; omega
            subst hsf
            have u1 : decide (0 ≤ qq) = false := by simp; omega
            go_wp2
            go_quiet ((go_at_call 42; with_reducible exact Calls.quiet_of_same (hus2 _)))
            go_wp2
            go_meet
            case rel => exact ⟨rfl, by first | exact ⟨_, rfl⟩ | exact ⟨_, World.drewN_drewN _ _ _⟩⟩
          · have u1 : decide (0 ≤ qq) = true := by simp; omega
            by_cases d0 : data.size = 0
            · have hsf : qb = false := by rw [← HQB.out, decide_eq_false_iff_not]; rintro ⟨_, h9, _⟩; exact h9 d0
              subst hsf
              have u2 := strNil d0
              have HD0 := Lib.hid d0
              clear d0
              go_wp2
              go_quiet ((go_at_call 42; with_reducible exact Calls.quiet_of_same (hus2 _)))
              go_wp2
              go_meet
              case rel => exact ⟨rfl, by first | exact ⟨_, rfl⟩ | exact ⟨_, World.drewN_drewN _ _ _⟩⟩
            · have u2 := strSome d0
              by_cases q1 : qq < (us : Int) + (data.size : Int)
              · have hsf : qb = true := by rw [← HQB.out, decide_eq_true_eq]; exact ⟨by omega, d0, q1⟩
                subst hsf
                have u3 : decide (qq < (us : Int) + (data.size : Int)) = true := by simpa using q1
                have HD0 := Lib.hid d0
                clear d0
                go_wp2
                go_quiet ((go_at_call 42; with_reducible exact Calls.quiet_of_same (hus2 _)))
                go_wp2
                go_meet
                case rel => exact ⟨rfl, by first | exact ⟨_, rfl⟩ | exact ⟨_, World.drewN_drewN _ _ _⟩⟩
              · have hsf : qb = false := by rw [← HQB.out, decide_eq_false_iff_not]; rintro ⟨_, _, h9⟩; exact q1 h9
                subst hsf
                have u3 : decide (qq < (us : Int) + (data.size : Int)) = false := by simpa using q1
                have HD0 := Lib.hid d0
                clear d0
                go_wp2
                go_quiet ((go_at_call 42; with_reducible exact Calls.quiet_of_same (hus2 _)))
                go_wp2
                go_meet
                case rel => exact ⟨rfl, by first | exact ⟨_, rfl⟩ | exact ⟨_, World.drewN_drewN _ _ _⟩⟩
        case rest =>
        obtain ⟨rfl, d, rfl⟩ := hcut
        clear hus2
        cases qb with
        | true =>
          go_wp2
          go_ret
          have hre := HRE.out
          first | rw [if_pos trivial] at hre | rw [if_pos rfl] at hre
          subst hre
          exact ⟨rfl, RStep.of (H.out.1.below (below_drewN (Below.refl _ w) d)) (Tn.ofBelow (below_drewN (Below.refl _ w) d))⟩
        | false =>
          cases hbn : R.burn.1 with
          | true =>
            simp only [hbn] at HBU
            have HBN := Lib.hid hbn
            clear hbn
            go_wp2_with fail
            refine (HBU.out d).mono ?_
            rintro e w1 ⟨rfl, hd1, ht1⟩
            have HD1 := Lib.hid (And.intro hd1 ht1)
            clear hd1 ht1
            go_wp2
            go_ret
            have hre := HRE.out; rw [if_neg (by decide), if_pos HBN.out] at hre; subst hre
            exact ⟨rfl, RStep.of HD1.out.1 ((Tn.ofBelow (below_drewN (Below.refl _ w) d)).trans HD1.out.2)⟩
          | false =>
            simp only [hbn] at HBU
            have HBN := Lib.hid hbn
            have hbm := burn_m hbn
            have HX := Lib.hid hbm
            clear hbn hbm
            go_wp2_with fail
            refine (HBU.out d).mono ?_
            rintro e w1 ⟨rfl, hd1, ht1⟩
            obtain ⟨d0, j0, j1, j2, hz1, _, _⟩ := hd1.cellsOf HX.out HI.out.2.1
            simp only at j0 j1 j2
            have f1 := hz1 (i * 3 + 1)
            have HD1 := Lib.hid (And.intro hd1 ht1)
            clear hd1 ht1 hz1 c0 k0 k1 k2
            have HC := Lib.hid (And.intro d0 (And.intro j1 j2))
            go_wp2
            have d0' : (w1.drewN 1).cell? ⟨rb, 0, none⟩ = some (.slice (some ⟨g, 0, none⟩) n cap) := d0
            have j1' : (w1.drewN 1).cell? ⟨g, i * 3 + 1, none⟩ = some (.string fd) := j1
            have j2' : (w1.drewN 1).cell? ⟨g, i * 3 + 2, none⟩ = some (.int .i64 (fs : Int)) := j2
            have hcc : ¬ 9223372036854775807 < fd.size + data.size := by have := HL.out; omega
            refine wp_region_K (fun w' => w' = w1.drewN 1 ∧ w'.cell? ⟨rb, 0, none⟩ = some (.slice (some ⟨g, 0, none⟩) n cap) ∧ w'.cell? ⟨g, i * 3 + 1, none⟩ = some (.string fd)) 17 18 (by kernel_rfl) (by kernel_rfl) ⟨rfl, d0', j1'⟩ (fun hH => ?_)
            refine wpAnyK_take (i := 0) [17] (v := ?v1) rfl (by kernel_rfl) (by kernel_rfl) (by kernel_rfl) (by kernel_rfl) (fun _ _ _ h => h) (Or.inl ⟨by rfl, ?hy1⟩) hH ?rest1
            case hy1 => (intro w hSw; (try dsimp only at hSw); go_simp; with_reducible rfl)
            try simp only [Act.put, List.setIfInBounds_toArray, List.set_cons_zero, List.set_cons_succ]
            refine wpAnyK_take (i := 1) [17] (v := ?v2) rfl (by kernel_rfl) (by kernel_rfl) (by kernel_rfl) (by kernel_rfl) (fun _ _ _ h => h) (Or.inl ⟨by rfl, ?hy2⟩) hH ?rest2
            case hy2 => (intro w hSw; (try dsimp only at hSw); go_simp; with_reducible rfl)
            try simp only [Act.put, List.setIfInBounds_toArray, List.set_cons_zero, List.set_cons_succ]
            refine wpAnyK_take (i := 2) [17] (v := ?v3) rfl (by kernel_rfl) (by kernel_rfl) (by kernel_rfl) (by kernel_rfl) (fun _ _ _ h => h) (Or.inl ⟨by rfl, ?hy3⟩) hH ?rest3
            case hy3 => (intro w hSw; (try dsimp only at hSw); go_simp; with_reducible rfl)
            try simp only [Act.put, List.setIfInBounds_toArray, List.set_cons_zero, List.set_cons_succ]
            refine wpAnyK_take (i := 3) [17] (v := ?v4) rfl (by kernel_rfl) (by kernel_rfl) (by kernel_rfl) (by kernel_rfl) (fun _ _ _ h => h) (Or.inl ⟨by rfl, ?hy4⟩) hH ?rest4
            case hy4 => (intro w hSw; (try dsimp only at hSw); go_simp; with_reducible rfl)
            try simp only [Act.put, List.setIfInBounds_toArray, List.set_cons_zero, List.set_cons_succ]
            refine wpAnyK_take (i := 4) [17] (v := ?v5) rfl (by kernel_rfl) (by kernel_rfl) (by kernel_rfl) (by kernel_rfl) (fun _ _ _ h => h) (Or.inl ⟨by rfl, ?hy5⟩) hH ?rest5
            case hy5 => (intro w hSw; (try dsimp only at hSw); go_simp; with_reducible rfl)
            try simp only [Act.put, List.setIfInBounds_toArray, List.set_cons_zero, List.set_cons_succ]
            refine wpAnyK_take (i := 5) [17] (v := ?v6) rfl (by kernel_rfl) (by kernel_rfl) (by kernel_rfl) (by kernel_rfl) (fun _ _ _ h => h) (Or.inl ⟨by rfl, ?hy6⟩) hH ?rest6
            case hy6 => (intro w hSw; (try dsimp only at hSw); go_simp; with_reducible rfl)
            try simp only [Act.put, List.setIfInBounds_toArray, List.set_cons_zero, List.set_cons_succ]
            refine wpAnyK_take (i := 6) [17] (v := ?v7) rfl (by kernel_rfl) (by kernel_rfl) (by kernel_rfl) (by kernel_rfl) (fun _ _ _ h => h) (Or.inl ⟨by rfl, ?hy7⟩) hH ?rest7
            case hy7 => (intro w hSw; (try dsimp only at hSw); go_simp; with_reducible rfl)
            try simp only [Act.put, List.setIfInBounds_toArray, List.set_cons_zero, List.set_cons_succ]
            refine wpAnyK_take (i := 7) [17] (v := ?v8) rfl (by kernel_rfl) (by kernel_rfl) (by kernel_rfl) (by kernel_rfl) (fun _ _ _ h => h) (Or.inl ⟨by rfl, ?hy8⟩) hH ?rest8
            case hy8 => (intro w hSw; (try dsimp only at hSw); go_simp; with_reducible rfl)
            try simp only [Act.put, List.setIfInBounds_toArray, List.set_cons_zero, List.set_cons_succ]
            refine wpAnyK_take (i := 8) [17] (v := ?v9) rfl (by kernel_rfl) (by kernel_rfl) (by kernel_rfl) (by kernel_rfl) (fun _ _ _ h => h) (Or.inl ⟨by rfl, ?hy9⟩) hH ?rest9
            case hy9 => (intro w hSw; (try dsimp only at hSw); go_simp; with_reducible rfl)
            try simp only [Act.put, List.setIfInBounds_toArray, List.set_cons_zero, List.set_cons_succ]
            refine wpAnyK_take (i := 9) [17] (v := ?v10) rfl (by kernel_rfl) (by kernel_rfl) (by kernel_rfl) (by kernel_rfl) (fun _ _ _ h => h) (Or.inl ⟨by rfl, ?hy10⟩) hH ?rest10
            case hy10 => (intro w hSw; (try dsimp only at hSw); go_simp; with_reducible rfl)
            try simp only [Act.put, List.setIfInBounds_toArray, List.set_cons_zero, List.set_cons_succ]
            refine wpAnyK_take (i := 10) [17] (v := ?v11) rfl (by kernel_rfl) (by kernel_rfl) (by kernel_rfl) (by kernel_rfl) (fun _ _ _ h => h) (Or.inl ⟨by rfl, ?hy11⟩) hH ?rest11
            case hy11 => (intro w hSw; (try dsimp only at hSw); go_simp; with_reducible rfl)
            try simp only [Act.put, List.setIfInBounds_toArray, List.set_cons_zero, List.set_cons_succ]
            refine wpAnyK_take (i := 11) [17] (v := ?v12) rfl (by kernel_rfl) (by kernel_rfl) (by kernel_rfl) (by kernel_rfl) (fun _ _ _ h => h) (Or.inl ⟨by rfl, ?hy12⟩) hH ?rest12
            case hy12 => (intro w hSw; (try dsimp only at hSw); go_simp; with_reducible rfl)
            try simp only [Act.put, List.setIfInBounds_toArray, List.set_cons_zero, List.set_cons_succ]
            refine wpAnyK_take (i := 12) [17] (v := ?v13) rfl (by kernel_rfl) (by kernel_rfl) (by kernel_rfl) (by kernel_rfl) (fun _ _ _ h => h) (Or.inl ⟨by rfl, ?hy13⟩) hH ?rest13
            case hy13 => (intro w hSw; (try dsimp only at hSw); go_simp; with_reducible rfl)
            try simp only [Act.put, List.setIfInBounds_toArray, List.set_cons_zero, List.set_cons_succ]
            refine wpAnyK_take (i := 13) [17] (v := ?v14) rfl (by kernel_rfl) (by kernel_rfl) (by kernel_rfl) (by kernel_rfl) (fun _ _ _ h => h) (Or.inl ⟨by rfl, ?hy14⟩) hH ?rest14
            case hy14 => (intro w hSw; (try dsimp only at hSw); go_simp; with_reducible rfl)
            try simp only [Act.put, List.setIfInBounds_toArray, List.set_cons_zero, List.set_cons_succ]
            refine wpAnyK_take (i := 14) [17] (v := ?v15) rfl (by kernel_rfl) (by kernel_rfl) (by kernel_rfl) (by kernel_rfl) (fun _ _ _ h => h) (Or.inl ⟨by rfl, ?hy15⟩) hH ?rest15
            case hy15 => (intro w hSw; (try dsimp only at hSw); go_simp; with_reducible rfl)
            try simp only [Act.put, List.setIfInBounds_toArray, List.set_cons_zero, List.set_cons_succ]
            refine wpAnyK_take (i := 15) [16, 17] (v := ?v16) rfl (by kernel_rfl) (by kernel_rfl) (by kernel_rfl) (by kernel_rfl) (fun _ _ _ h => h) (Or.inl ⟨by rfl, ?hy16⟩) hH ?rest16
            case hy16 => (intro w hSw; (try dsimp only at hSw); go_simp; with_reducible rfl)
            try simp only [Act.put, List.setIfInBounds_toArray, List.set_cons_zero, List.set_cons_succ]
            refine wpAnyK_take (i := 16) [17] (v := ?v17) rfl (by kernel_rfl) (by kernel_rfl) (by kernel_rfl) (by kernel_rfl) (fun _ _ _ h => h) (Or.inl ⟨by rfl, ?hy17⟩) hH ?rest17
            case hy17 => (intro w hSw; (try dsimp only at hSw); go_simp; with_reducible rfl)
            try simp only [Act.put, List.setIfInBounds_toArray, List.set_cons_zero, List.set_cons_succ]
            refine wpAnyK_last (by kernel_rfl) rfl (fun K hK => ?_) (by kernel_rfl)
            go_simp
            refine hK.out _ _ (wpAnyK_done (by kernel_rfl) ?_ _)
            clear hK K hH hcc
            go_wp2
            go_ret
            have hre := HRE.out; rw [if_neg (by decide), if_neg (by rw [HBN.out]; decide)] at hre; subst hre
            have hfile := (HD1.out.1.below (below_drewN (Below.refl _ w1) 1)).filed (m' := setL R.m s ⟨fd ++ data, fs⟩) H.out.2 HX.out HI.out.2.1 (j := 1) (by decide) (u := .string (fd ++ data)) (x' := (s, (⟨fd ++ data, fs⟩ : Fl))) rfl (HI.out.2.2.1 _).symm
              (ok_set HD1.out.1.ok HX.out H.out.1.ok H.out.1.nd HI.out.1 (v := ⟨fd ++ data, fs⟩) ⟨by show fs ≤ (fd ++ data).size; rw [ByteArray.size_append]; have := HI.out.2.2.2.2.1; omega, by show (fd ++ data).size ≤ _; rw [ByteArray.size_append]; have := HL.out; omega⟩ rfl)
            exact ⟨rfl, RStep.of hfile.1 ((Tn.ofBelow (below_drewN (Below.refl _ w) d)).trans (HD1.out.2.trans ((Tn.ofBelow (below_drewN (Below.refl _ w1) 1)).trans hfile.2)))⟩
    · have hy := at_no hi
      rw [hy.2] at HAT
      have hres : R.app s data = (22, R) := by unfold Dk.app; rw [ha, if_neg (by decide), hy.1]
      rw [hres]
      clear hres hy hi ha h hF
      go_enter Tryz.func23, Tryz.ntmps23
      go_wp2_with (first | (go_at_call 116; refine HAT.out.mono ?_; rintro e v2 ⟨rfl, rfl⟩) | (go_at_call 115; refine HG.out.mono ?_; rintro e v1 ⟨rfl, rfl⟩))
      go_ret
      exact ⟨rfl, RStep.same H.out.1⟩
  · have hres : R.app s data = (R.asked [s], R) := by unfold Dk.app; rw [if_pos ha]
    rw [hres]
    obtain ⟨av, hav⟩ : ∃ av, R.asked [s] = av := ⟨_, rfl⟩
    rw [hav] at HG ha ⊢
    have t0 : (av == 0) = false := by simpa using ha
    obtain ⟨iv, hiv⟩ : ∃ iv, atI R.m s = iv := ⟨_, rfl⟩
    rw [hiv] at HAT
    clear hres hav h hF hiv
    go_enter Tryz.func23, Tryz.ntmps23
    go_wp2_with (first | (go_at_call 116; refine HAT.out.mono ?_; rintro e v2 ⟨rfl, rfl⟩) | (go_at_call 115; refine HG.out.mono ?_; rintro e v1 ⟨rfl, rfl⟩))
    go_ret
    exact ⟨rfl, RStep.same H.out.1⟩

set_option maxRecDepth 100000 in
set_option maxHeartbeats 4000000 in
theorem rsync_any (h : RfAt F w rb lv R) (hF : ∀ q, RFoot rb lv q → F q) (hk : R.acts < 1000000) (s : ByteArray) (hs : s.size ≤ 140737488351232) :
    Calls Tryz.prog 25 #[.pointer (some ⟨rb, 0, none⟩), .string s] w fun e w' => e = .returned (.int .i64 (R.sync s).1) ∧ RStep F w w' rb lv (R.sync s).2 := by
  have HG := Lib.hid (rguard_any h s hs)
  have HAT := Lib.hid (rat_any h s)
  have HBU := Lib.hid (fun (d : Nat) => rburn_any (h.below (below_drewN (Below.refl _ w) d)) hF hk)
  have HUS := Lib.hid (rused_any h)
  have c2 := h.c2
  have H := Lib.hid (And.intro h hF)
  by_cases ha : R.asked [s] = 0
  · rw [ha] at HG
    by_cases hi : atN R.m s < R.m.length
    · obtain ⟨i, g, cap, n, fd, fs, hai, hget, hlv, hgl, hset, q1, q2, hin, hnl, hn⟩ := h.fileOf hi
      rw [hai] at HAT
      subst hlv
      obtain ⟨c0, k0, k1, k2, hfz, hg, hgr⟩ := h.cellsOf rfl hget
      simp only at k0 k1 k2
      have hq := h.ok.quota
      have HI := Lib.hid (And.intro hi (And.intro hget (And.intro hset (And.intro hn (And.intro q1 q2)))))
      have hres : R.sync s = if R.burn.1 = true then (20, R.burn.2) else (0, { R.burn.2 with m := setL R.m s ⟨fd, fd.size⟩ }) := by
        unfold Dk.sync
        rw [ha, if_neg (by decide), hgl]
        simp only
        rw [ract_burn]
      rw [hres]
      clear hres hi ha hai hgl hset hget hn hg hgr hfz h hF
      obtain ⟨d, hd0⟩ : ∃ d : Nat, d = 0 := ⟨_, rfl⟩
      cases hbn : R.burn.1 with
      | true =>
        simp only [hbn] at HBU
        have HBN := Lib.hid hbn
        rw [if_pos rfl]
        clear hbn
        go_enter Tryz.func25, Tryz.ntmps25
        go_wp2_with (first | (go_at_call 116; refine HAT.out.mono ?_; rintro e v2 ⟨rfl, rfl⟩) | (go_at_call 115; refine HG.out.mono ?_; rintro e v1 ⟨rfl, rfl⟩))
        refine (HBU.out 0).mono ?_
        rintro e w1 ⟨rfl, hd1, ht1⟩
        have HD1 := Lib.hid (And.intro hd1 ht1)
        clear hd1 ht1
        go_wp2
        go_ret
        exact ⟨rfl, RStep.of HD1.out.1 ((Tn.ofBelow (Below.refl w.heap.size w)).trans HD1.out.2)⟩
      | false =>
        simp only [hbn] at HBU
        have HBN := Lib.hid hbn
        rw [if_neg (by decide)]
        have hbm := burn_m hbn
        have HX := Lib.hid hbm
        clear hbn hbm
        go_enter Tryz.func25, Tryz.ntmps25
        go_wp2_with (first | (go_at_call 116; refine HAT.out.mono ?_; rintro e v2 ⟨rfl, rfl⟩) | (go_at_call 115; refine HG.out.mono ?_; rintro e v1 ⟨rfl, rfl⟩))
        refine (HBU.out 0).mono ?_
        rintro e w1 ⟨rfl, hd1, ht1⟩
        obtain ⟨d0, j0, j1, j2, hz1, _, _⟩ := hd1.cellsOf HX.out HI.out.2.1
        simp only at j0 j1 j2
        have f1 := hz1 (i * 3 + 2)
        have HD1 := Lib.hid (And.intro hd1 ht1)
        clear hd1 ht1 hz1 c0 k0 k1 k2
        have HC := Lib.hid (And.intro d0 (And.intro j1 j2))
        go_wp2
        have d0' : (w1.drewN 1).cell? ⟨rb, 0, none⟩ = some (.slice (some ⟨g, 0, none⟩) n cap) := d0
        have j1' : (w1.drewN 1).cell? ⟨g, i * 3 + 1, none⟩ = some (.string fd) := j1
        have j2' : (w1.drewN 1).cell? ⟨g, i * 3 + 2, none⟩ = some (.int .i64 (fs : Int)) := j2
        refine wp_region_K (fun w' => w' = w1.drewN 1 ∧ w'.cell? ⟨rb, 0, none⟩ = some (.slice (some ⟨g, 0, none⟩) n cap) ∧ w'.cell? ⟨g, i * 3 + 1, none⟩ = some (.string fd)) 16 17 (by kernel_rfl) (by kernel_rfl) ⟨rfl, d0', j1'⟩ (fun hH => ?_)
        refine wpAnyK_take (i := 0) [16] (v := ?v18) rfl (by kernel_rfl) (by kernel_rfl) (by kernel_rfl) (by kernel_rfl) (fun _ _ _ h => h) (Or.inl ⟨by rfl, ?hy18⟩) hH ?rest18
        case hy18 => (intro w hSw; (try dsimp only at hSw); go_simp; with_reducible rfl)
        try simp only [Act.put, List.setIfInBounds_toArray, List.set_cons_zero, List.set_cons_succ]
        refine wpAnyK_take (i := 1) [16] (v := ?v19) rfl (by kernel_rfl) (by kernel_rfl) (by kernel_rfl) (by kernel_rfl) (fun _ _ _ h => h) (Or.inl ⟨by rfl, ?hy19⟩) hH ?rest19
        case hy19 => (intro w hSw; (try dsimp only at hSw); go_simp; with_reducible rfl)
        try simp only [Act.put, List.setIfInBounds_toArray, List.set_cons_zero, List.set_cons_succ]
        refine wpAnyK_take (i := 2) [16] (v := ?v20) rfl (by kernel_rfl) (by kernel_rfl) (by kernel_rfl) (by kernel_rfl) (fun _ _ _ h => h) (Or.inl ⟨by rfl, ?hy20⟩) hH ?rest20
        case hy20 => (intro w hSw; (try dsimp only at hSw); go_simp; with_reducible rfl)
        try simp only [Act.put, List.setIfInBounds_toArray, List.set_cons_zero, List.set_cons_succ]
        refine wpAnyK_take (i := 3) [16] (v := ?v21) rfl (by kernel_rfl) (by kernel_rfl) (by kernel_rfl) (by kernel_rfl) (fun _ _ _ h => h) (Or.inl ⟨by rfl, ?hy21⟩) hH ?rest21
        case hy21 => (intro w hSw; (try dsimp only at hSw); go_simp; with_reducible rfl)
        try simp only [Act.put, List.setIfInBounds_toArray, List.set_cons_zero, List.set_cons_succ]
        refine wpAnyK_take (i := 4) [16] (v := ?v22) rfl (by kernel_rfl) (by kernel_rfl) (by kernel_rfl) (by kernel_rfl) (fun _ _ _ h => h) (Or.inl ⟨by rfl, ?hy22⟩) hH ?rest22
        case hy22 => (intro w hSw; (try dsimp only at hSw); go_simp; with_reducible rfl)
        try simp only [Act.put, List.setIfInBounds_toArray, List.set_cons_zero, List.set_cons_succ]
        refine wpAnyK_take (i := 5) [16] (v := ?v23) rfl (by kernel_rfl) (by kernel_rfl) (by kernel_rfl) (by kernel_rfl) (fun _ _ _ h => h) (Or.inl ⟨by rfl, ?hy23⟩) hH ?rest23
        case hy23 => (intro w hSw; (try dsimp only at hSw); go_simp; with_reducible rfl)
        try simp only [Act.put, List.setIfInBounds_toArray, List.set_cons_zero, List.set_cons_succ]
        refine wpAnyK_take (i := 6) [16] (v := ?v24) rfl (by kernel_rfl) (by kernel_rfl) (by kernel_rfl) (by kernel_rfl) (fun _ _ _ h => h) (Or.inl ⟨by rfl, ?hy24⟩) hH ?rest24
        case hy24 => (intro w hSw; (try dsimp only at hSw); go_simp; with_reducible rfl)
        try simp only [Act.put, List.setIfInBounds_toArray, List.set_cons_zero, List.set_cons_succ]
        refine wpAnyK_take (i := 7) [16] (v := ?v25) rfl (by kernel_rfl) (by kernel_rfl) (by kernel_rfl) (by kernel_rfl) (fun _ _ _ h => h) (Or.inl ⟨by rfl, ?hy25⟩) hH ?rest25
        case hy25 => (intro w hSw; (try dsimp only at hSw); go_simp; with_reducible rfl)
        try simp only [Act.put, List.setIfInBounds_toArray, List.set_cons_zero, List.set_cons_succ]
        refine wpAnyK_take (i := 8) [16] (v := ?v26) rfl (by kernel_rfl) (by kernel_rfl) (by kernel_rfl) (by kernel_rfl) (fun _ _ _ h => h) (Or.inl ⟨by rfl, ?hy26⟩) hH ?rest26
        case hy26 => (intro w hSw; (try dsimp only at hSw); go_simp; with_reducible rfl)
        try simp only [Act.put, List.setIfInBounds_toArray, List.set_cons_zero, List.set_cons_succ]
        refine wpAnyK_take (i := 9) [16] (v := ?v27) rfl (by kernel_rfl) (by kernel_rfl) (by kernel_rfl) (by kernel_rfl) (fun _ _ _ h => h) (Or.inl ⟨by rfl, ?hy27⟩) hH ?rest27
        case hy27 => (intro w hSw; (try dsimp only at hSw); go_simp; with_reducible rfl)
        try simp only [Act.put, List.setIfInBounds_toArray, List.set_cons_zero, List.set_cons_succ]
        refine wpAnyK_take (i := 10) [16] (v := ?v28) rfl (by kernel_rfl) (by kernel_rfl) (by kernel_rfl) (by kernel_rfl) (fun _ _ _ h => h) (Or.inl ⟨by rfl, ?hy28⟩) hH ?rest28
        case hy28 => (intro w hSw; (try dsimp only at hSw); go_simp; with_reducible rfl)
        try simp only [Act.put, List.setIfInBounds_toArray, List.set_cons_zero, List.set_cons_succ]
        refine wpAnyK_take (i := 11) [16] (v := ?v29) rfl (by kernel_rfl) (by kernel_rfl) (by kernel_rfl) (by kernel_rfl) (fun _ _ _ h => h) (Or.inl ⟨by rfl, ?hy29⟩) hH ?rest29
        case hy29 => (intro w hSw; (try dsimp only at hSw); go_simp; with_reducible rfl)
        try simp only [Act.put, List.setIfInBounds_toArray, List.set_cons_zero, List.set_cons_succ]
        refine wpAnyK_take (i := 12) [16] (v := ?v30) rfl (by kernel_rfl) (by kernel_rfl) (by kernel_rfl) (by kernel_rfl) (fun _ _ _ h => h) (Or.inl ⟨by rfl, ?hy30⟩) hH ?rest30
        case hy30 => (intro w hSw; (try dsimp only at hSw); go_simp; with_reducible rfl)
        try simp only [Act.put, List.setIfInBounds_toArray, List.set_cons_zero, List.set_cons_succ]
        refine wpAnyK_take (i := 13) [16] (v := ?v31) rfl (by kernel_rfl) (by kernel_rfl) (by kernel_rfl) (by kernel_rfl) (fun _ _ _ h => h) (Or.inl ⟨by rfl, ?hy31⟩) hH ?rest31
        case hy31 => (intro w hSw; (try dsimp only at hSw); go_simp; with_reducible rfl)
        try simp only [Act.put, List.setIfInBounds_toArray, List.set_cons_zero, List.set_cons_succ]
        refine wpAnyK_take (i := 14) [15, 16] (v := ?v32) rfl (by kernel_rfl) (by kernel_rfl) (by kernel_rfl) (by kernel_rfl) (fun _ _ _ h => h) (Or.inl ⟨by rfl, ?hy32⟩) hH ?rest32
        case hy32 => (intro w hSw; (try dsimp only at hSw); go_simp; with_reducible rfl)
        try simp only [Act.put, List.setIfInBounds_toArray, List.set_cons_zero, List.set_cons_succ]
        refine wpAnyK_take (i := 15) [16] (v := ?v33) rfl (by kernel_rfl) (by kernel_rfl) (by kernel_rfl) (by kernel_rfl) (fun _ _ _ h => h) (Or.inl ⟨by rfl, ?hy33⟩) hH ?rest33
        case hy33 => (intro w hSw; (try dsimp only at hSw); go_simp; with_reducible rfl)
        try simp only [Act.put, List.setIfInBounds_toArray, List.set_cons_zero, List.set_cons_succ]
        refine wpAnyK_last (by kernel_rfl) rfl (fun K hK => ?_) (by kernel_rfl)
        go_simp
        refine hK.out _ _ (wpAnyK_done (by kernel_rfl) ?_ _)
        clear hK K hH
        go_wp2
        go_ret
        have hfile := (HD1.out.1.below (below_drewN (Below.refl _ w1) 1)).filed (m' := setL R.m s ⟨fd, fd.size⟩) H.out.2 HX.out HI.out.2.1 (j := 2) (by decide) (u := .int .i64 (fd.size : Int)) (x' := (s, (⟨fd, fd.size⟩ : Fl))) rfl (HI.out.2.2.1 _).symm
          (ok_set HD1.out.1.ok HX.out H.out.1.ok H.out.1.nd HI.out.1 (v := ⟨fd, fd.size⟩) ⟨Nat.le_refl _, HI.out.2.2.2.2.2⟩ rfl)
        exact ⟨rfl, RStep.of hfile.1 ((Tn.ofBelow (Below.refl w.heap.size w)).trans (HD1.out.2.trans ((Tn.ofBelow (below_drewN (Below.refl _ w1) 1)).trans hfile.2)))⟩
    · have hy := at_no hi
      rw [hy.2] at HAT
      have hres : R.sync s = (22, R) := by unfold Dk.sync; rw [ha, if_neg (by decide), hy.1]
      rw [hres]
      clear hres hy hi ha h hF
      go_enter Tryz.func25, Tryz.ntmps25
      go_wp2_with (first | (go_at_call 116; refine HAT.out.mono ?_; rintro e v2 ⟨rfl, rfl⟩) | (go_at_call 115; refine HG.out.mono ?_; rintro e v1 ⟨rfl, rfl⟩))
      go_ret
      exact ⟨rfl, RStep.same H.out.1⟩
  · have hres : R.sync s = (R.asked [s], R) := by unfold Dk.sync; rw [if_pos ha]
    rw [hres]
    obtain ⟨av, hav⟩ : ∃ av, R.asked [s] = av := ⟨_, rfl⟩
    rw [hav] at HG ha ⊢
    have t0 : (av == 0) = false := by simpa using ha
    obtain ⟨iv, hiv⟩ : ∃ iv, atI R.m s = iv := ⟨_, rfl⟩
    rw [hiv] at HAT
    clear hres hav h hF hiv
    go_enter Tryz.func25, Tryz.ntmps25
    go_wp2_with (first | (go_at_call 116; refine HAT.out.mono ?_; rintro e v2 ⟨rfl, rfl⟩) | (go_at_call 115; refine HG.out.mono ?_; rintro e v1 ⟨rfl, rfl⟩))
    go_ret
    exact ⟨rfl, RStep.same H.out.1⟩

end Go.Proofs.YtceamkcaokdgaaaGreatDoor
/-
  The document's disk: take, Remove, Rename.
-/
namespace Go.Proofs.YtceamkcaokdgaaaGreatDoor
open Go.RowKit
variable {F G : Nat → Prop} {w w' w2 : World} {rb : Nat} {lv lv' : Value} {R R' : Dk}

theorem src_rows {g n cap i j c : Nat} {m : Fm} (h : Own eFl w 0 (.slice (some ⟨g, 0, none⟩) n cap) m) (hn : m.length = n) (hij : i ≤ j) (hj : j ≤ n) : Src eFl w (.slice (some ⟨g, i * 3, none⟩) (j - i) c) ((m.take j).drop i) := by
  subst hn
  have hl : ((m.take j).drop i).length = j - i := by rw [List.length_drop, List.length_take]; omega
  refine .inr ⟨⟨g, i * 3, none⟩, c, by rw [hl], fun k u hk => ?_⟩
  have hkl : k < ((m.take j).drop i).length * 3 := by
    have := (List.getElem?_eq_some_iff.1 hk).1
    rwa [eFl.lens] at this
  rw [hl] at hkl
  obtain ⟨p, r, hr, rfl⟩ : ∃ p r, r < 3 ∧ k = p * 3 + r := ⟨k / 3, k % 3, Nat.mod_lt _ (by decide), by omega⟩
  have hp : p < j - i := by omega
  rw [eFl.get _ p r (by rw [hl]; exact hp) hr] at hk
  have hpm : i + p < m.length := by omega
  have he : ((m.take j).drop i)[p]'(by rw [hl]; exact hp) = m[i + p] := by rw [List.getElem_drop, List.getElem_take]
  rw [he] at hk
  have h2 := h.cellAt ((i + p) * 3 + r) (by omega)
  have h3 := eFl.get m (i + p) r hpm hr
  rw [hk] at h3
  rw [h3] at h2
  rw [add_off, show i * 3 + (p * 3 + r) = (i + p) * 3 + r by omega]
  rw [← h2]
theorem len_take_drop {m : Fm} {n i : Nat} (hn : m.length = n) (hi : i < n) : (m.take i).length = i ∧ (m.drop (i + 1)).length = n - (i + 1) := by
  rw [List.length_take, List.length_drop]
  omega

set_option maxRecDepth 100000 in
set_option maxHeartbeats 4000000 in
theorem rtake_any (h : RfAt F w rb lv R) (hF : ∀ q, RFoot rb lv q → F q) (i : Nat) (hi : i < R.m.length) :
    Calls Tryz.prog 121 #[.pointer (some ⟨rb, 0, none⟩), .int .i64 (i : Int)] w fun e w' => e = .returned (.tuple #[]) ∧ RStep F w w' rb lv { R with m := R.m.take i ++ R.m.drop (i + 1) } := by
  obtain ⟨g, cap, hlv, hle, hcp⟩ : ∃ g cap, lv = .slice (some ⟨g, 0, none⟩) R.m.length cap ∧ R.m.length ≤ cap ∧ cap ≤ 9223372036854775807 := by
    obtain ⟨a, cap, e, h1, h2⟩ := rf_form h
    obtain ⟨g, cap', e2, _⟩ := rf_cells h.row hi
    rw [e] at e2
    injection e2 with e2 _ e3
    subst e2
    exact ⟨g, cap, e, h1, h2⟩
  obtain ⟨n, hn⟩ : ∃ n, R.m.length = n := ⟨_, rfl⟩
  rw [hn] at hlv hi hle
  subst hlv
  have hnl : n ≤ 20000 := by rw [← hn]; exact h.ok.few
  have c0 := h.c0
  have hfz := h.fz 0
  obtain ⟨l1, l2⟩ := len_take_drop hn hi
  have hok : ({ R with m := R.m.take i ++ R.m.drop (i + 1) } : Dk).Ok := ok_with h.ok rfl h.ok (fun p hp => h.ok.nam p ((List.mem_append.1 hp).elim List.mem_of_mem_take List.mem_of_mem_drop)) (fun p hp => h.ok.syn p ((List.mem_append.1 hp).elim List.mem_of_mem_take List.mem_of_mem_drop)) (by rw [List.length_append, l1, l2]; omega)
  have hnd : keysN (R.m.take i ++ R.m.drop (i + 1)) := by
    have hs : (R.m.take i ++ R.m.drop (i + 1)).Sublist R.m := by
      conv => rhs; rw [← List.take_append_drop i R.m]
      exact List.Sublist.append_left (by rw [List.drop_eq_getElem_cons (by omega : i < R.m.length)]; exact List.sublist_cons_self _ _) _
    exact List.Nodup.sublist (hs.map _) h.nd
  have hs1 := src_rows (c := cap) h.row hn (i := 0) (j := i) (by omega) (by omega)
  have hs2 := src_rows (c := cap - (i + 1)) h.row hn (i := i + 1) (j := n) (by omega) (by omega)
  rw [Nat.zero_mul, Nat.sub_zero, List.drop_zero] at hs1
  have htn : R.m.take n = R.m := List.take_of_length_le (by omega)
  rw [htn] at hs2
  obtain ⟨k2, hk2⟩ : ∃ k2, n - (i + 1) = k2 := ⟨_, rfl⟩
  obtain ⟨cc, hcc⟩ : ∃ cc, cap - (i + 1) = cc := ⟨_, rfl⟩
  rw [hk2, hcc] at hs2
  rw [hk2] at l2
  replace hs2 : Src eFl w (.slice (if cap = i + 1 then some ⟨g, 0, none⟩ else some ⟨g, (i + 1) * 3, none⟩) k2 cc) (R.m.drop (i + 1)) := by
    split
    · rename_i hce
      have h0 : k2 = 0 := by omega
      have hd0 : R.m.drop (i + 1) = [] := List.eq_nil_of_length_eq_zero (by omega)
      rw [hd0, h0]
      exact .inr ⟨_, cc, rfl, fun j u hj => by simp at hj⟩
    · exact hs2
  have H := Lib.hid (And.intro h (And.intro hF (And.intro hok (And.intro hnd (And.intro hs1 (And.intro hs2 (And.intro l1 l2)))))))
  have e1 : IntKind.i64.wrap ((i : Int) + 1) = (i : Int) + 1 := IntWalk.i64_in _ (by omega)
  have e2 : IntKind.i64.wrap (i : Int) = (i : Int) := IntWalk.i64_in _ (by omega)
  have b1 : i ≤ n := by omega
  have b2 : i ≤ cap := by omega
  have b3 : i + 1 ≤ n := by omega
  have b4 : i + 1 ≤ cap := by omega
  have b5 : (i : Int) ≤ (cap : Int) := by omega
  have b6 : ((i : Int) + 1) ≤ (n : Int) := by omega
  have b7 : 0 ≤ (i : Int) + 1 := by omega
  have b8 : ((i : Int) + 1).toNat = i + 1 := by omega
  have hl3 : ([] : Fm).length + (R.m.take i).length = i := by rw [l1]; simp
  have HL3 := Lib.hid hl3
  clear h hF hok hnd hs1 hs2 l1 l2 htn hl3 hn
  have c0' : (w.drewN 1).cell? ⟨rb, 0, none⟩ = some (.slice (some ⟨g, 0, none⟩) n cap) := c0
  go_enter Tryz.func121, Tryz.ntmps121
  go_wp2
  refine wp_region_K (fun w' => w'.cell? ⟨rb, 0, none⟩ = some (.slice (some ⟨g, 0, none⟩) n cap)) 18 19 (by kernel_rfl) (by kernel_rfl) c0' (fun hH => ?_)
  refine wpAnyK_take (i := 0) [18] (v := ?v34) rfl (by kernel_rfl) (by kernel_rfl) (by kernel_rfl) (by kernel_rfl) (fun _ _ _ h => h) (Or.inl ⟨by rfl, ?hy34⟩) hH ?rest34
  case hy34 => (intro w hSw; (try dsimp only at hSw); go_simp; with_reducible rfl)
  try simp only [Act.put, List.setIfInBounds_toArray, List.set_cons_zero, List.set_cons_succ]
  refine wpAnyK_take (i := 1) [18] (v := ?v35) rfl (by kernel_rfl) (by kernel_rfl) (by kernel_rfl) (by kernel_rfl) (fun _ _ _ h => h) (Or.inl ⟨by rfl, ?hy35⟩) hH ?rest35
  case hy35 => (intro w hSw; (try dsimp only at hSw); go_simp; with_reducible rfl)
  try simp only [Act.put, List.setIfInBounds_toArray, List.set_cons_zero, List.set_cons_succ]
  refine wpAnyK_take (i := 2) [18] (v := ?v36) rfl (by kernel_rfl) (by kernel_rfl) (by kernel_rfl) (by kernel_rfl) (fun _ _ _ h => h) (Or.inl ⟨by rfl, ?hy36⟩) hH ?rest36
  case hy36 => (intro w hSw; (try dsimp only at hSw); go_simp; with_reducible rfl)
  try simp only [Act.put, List.setIfInBounds_toArray, List.set_cons_zero, List.set_cons_succ]
  refine wpAnyK_take (i := 3) [18] (v := ?v37) rfl (by kernel_rfl) (by kernel_rfl) (by kernel_rfl) (by kernel_rfl) (fun _ _ _ h => h) (Or.inl ⟨by rfl, ?hy37⟩) hH ?rest37
  case hy37 => (intro w hSw; (try dsimp only at hSw); go_simp; with_reducible rfl)
  try simp only [Act.put, List.setIfInBounds_toArray, List.set_cons_zero, List.set_cons_succ]
  refine wpAnyK_take (i := 4) [18] (v := ?v38) rfl (by kernel_rfl) (by kernel_rfl) (by kernel_rfl) (by kernel_rfl) (fun _ _ _ h => h) (Or.inl ⟨by rfl, ?hy38⟩) hH ?rest38
  case hy38 => (intro w hSw; (try dsimp only at hSw); go_simp; with_reducible rfl)
  try simp only [Act.put, List.setIfInBounds_toArray, List.set_cons_zero, List.set_cons_succ]
  refine wpAnyK_take (i := 5) [18] (v := ?v39) rfl (by kernel_rfl) (by kernel_rfl) (by kernel_rfl) (by kernel_rfl) (fun _ _ _ h => h) (Or.inl ⟨by rfl, ?hy39⟩) hH ?rest39
  case hy39 => (intro w hSw; (try dsimp only at hSw); go_simp; with_reducible rfl)
  try simp only [Act.put, List.setIfInBounds_toArray, List.set_cons_zero, List.set_cons_succ]
  refine wpAnyK_take (i := 6) [18] (v := ?v40) rfl (by kernel_rfl) (by kernel_rfl) (by kernel_rfl) (by kernel_rfl) (fun _ _ _ h => h) (Or.inl ⟨by rfl, ?hy40⟩) hH ?rest40
  case hy40 => (intro w hSw; (try dsimp only at hSw); go_simp; with_reducible rfl)
  try simp only [Act.put, List.setIfInBounds_toArray, List.set_cons_zero, List.set_cons_succ]
  refine wpAnyK_take (i := 8) [18] (v := ?v41) rfl (by kernel_rfl) (by kernel_rfl) (by kernel_rfl) (by kernel_rfl) (fun _ _ _ h => h) (Or.inl ⟨by rfl, ?hy41⟩) hH ?rest41
  case hy41 => (intro w hSw; (try dsimp only at hSw); go_simp; with_reducible rfl)
  try simp only [Act.put, List.setIfInBounds_toArray, List.set_cons_zero, List.set_cons_succ]
  refine wpAnyK_take (i := 9) [18] (v := ?v42) rfl (by kernel_rfl) (by kernel_rfl) (by kernel_rfl) (by kernel_rfl) (fun _ _ _ h => h) (Or.inl ⟨by rfl, ?hy42⟩) hH ?rest42
  case hy42 => (intro w hSw; (try dsimp only at hSw); go_simp; with_reducible rfl)
  try simp only [Act.put, List.setIfInBounds_toArray, List.set_cons_zero, List.set_cons_succ]
  refine wpAnyK_take (i := 10) [18] (v := ?v43) rfl (by kernel_rfl) (by kernel_rfl) (by kernel_rfl) (by kernel_rfl) (fun _ _ _ h => h) (Or.inl ⟨by rfl, ?hy43⟩) hH ?rest43
  case hy43 => (intro w hSw; (try dsimp only at hSw); go_simp; with_reducible rfl)
  try simp only [Act.put, List.setIfInBounds_toArray, List.set_cons_zero, List.set_cons_succ]
  refine wpAnyK_take (i := 11) [18] (v := ?v44) rfl (by kernel_rfl) (by kernel_rfl) (by kernel_rfl) (by kernel_rfl) (fun _ _ _ h => h) (Or.inl ⟨by rfl, ?hy44⟩) hH ?rest44
  case hy44 => (intro w hSw; (try dsimp only at hSw); go_simp; with_reducible rfl)
  try simp only [Act.put, List.setIfInBounds_toArray, List.set_cons_zero, List.set_cons_succ]
  refine wpAnyK_take (i := 12) [18] (v := ?v45) rfl (by kernel_rfl) (by kernel_rfl) (by kernel_rfl) (by kernel_rfl) (fun _ _ _ h => h) (Or.inl ⟨by rfl, ?hy45⟩) hH ?rest45
  case hy45 => (intro w hSw; (try dsimp only at hSw); go_simp; with_reducible rfl)
  try simp only [Act.put, List.setIfInBounds_toArray, List.set_cons_zero, List.set_cons_succ]
  refine wpAnyK_take (i := 13) [18] (v := ?v46) rfl (by kernel_rfl) (by kernel_rfl) (by kernel_rfl) (by kernel_rfl) (fun _ _ _ h => h) (Or.inl ⟨by rfl, ?hy46⟩) hH ?rest46
  case hy46 => (intro w hSw; (try dsimp only at hSw); go_simp; with_reducible rfl)
  try simp only [Act.put, List.setIfInBounds_toArray, List.set_cons_zero, List.set_cons_succ]
  refine wpAnyK_take (i := 14) [18] (v := ?v47) rfl (by kernel_rfl) (by kernel_rfl) (by kernel_rfl) (by kernel_rfl) (fun _ _ _ h => h) (Or.inl ⟨by rfl, ?hy47⟩) hH ?rest47
  case hy47 => (intro w hSw; (try dsimp only at hSw); go_simp; with_reducible rfl)
  try simp only [Act.put, List.setIfInBounds_toArray, List.set_cons_zero, List.set_cons_succ]
  refine wpAnyK_one (i := 7) (by kernel_rfl) rfl (fun K hK => ?_) (by kernel_rfl)
  refine step_app eFl rfl _ _ rfl rfl rfl (v := .slice none 0 0) (l := []) (l2 := R.m.take i) (B := w.heap.size) (World.ownsRow_nil _ _ _ _) (by have h9 := H.out.2.2.2.2.1; rw [← H.out.2.2.2.2.2.2.1] at h9 ⊢; exact h9) (by rw [HL3.out]; omega) (Nat.le_refl _) ?_
  rw [HL3.out, List.nil_append]
  intro a3 cap3 w3 ho3 hb3 _ _
  have H3 := Lib.hid (And.intro ho3 hb3)
  have d3 : w3.cell? ⟨rb, 0, none⟩ = some (.slice (some ⟨g, 0, none⟩) n cap) := (hb3.cell (p := ⟨rb, 0, none⟩) H.out.1.ltb).trans c0'
  clear ho3 hb3
  refine hK.out _ _ d3 (fun hH => ?_)
  clear hK K
  try simp only [Act.put, List.setIfInBounds_toArray, List.set_cons_zero, List.set_cons_succ]
  refine wpAnyK_one (i := 15) (by kernel_rfl) rfl (fun K hK => ?_) (by kernel_rfl)
  refine step_app eFl rfl _ _ rfl rfl rfl (v := .slice a3 i cap3) (l := R.m.take i) (l2 := R.m.drop (i + 1)) (B := w.heap.size) (by have h9 := H3.out.1; exact h9) (by
    have h9 := H.out.2.2.2.2.2.1
    rw [← H.out.2.2.2.2.2.2.2] at h9 ⊢
    refine h9.imp id ?_
    rintro ⟨ad, c, e, hc⟩
    refine ⟨ad, c, e, fun j u hj => ?_⟩
    have h8 := hc j u hj
    exact (H3.out.2.cell (p := ad.add j) (World.block_lt_of_cell? _ _ h8)).trans h8) (by rw [H.out.2.2.2.2.2.2.1, H.out.2.2.2.2.2.2.2]; omega) H3.out.2.size ?_
  rw [H.out.2.2.2.2.2.2.1, H.out.2.2.2.2.2.2.2]
  intro a5 cap5 w5 ho5 hb5 _ _
  have H5 := Lib.hid (And.intro ho5 (H3.out.2.trans hb5))
  have d5 : w5.cell? ⟨rb, 0, none⟩ = some (.slice (some ⟨g, 0, none⟩) n cap) := (H5.out.2.cell (p := ⟨rb, 0, none⟩) H.out.1.ltb).trans c0
  have z5 : w5.frozen? ⟨rb, 0, none⟩ = false := (H5.out.2.frozen (p := ⟨rb, 0, none⟩) H.out.1.ltb).trans (H.out.1.fz 0)
  clear ho5 hb5
  refine hK.out _ _ d5 (fun hH => ?_)
  clear hK K
  try simp only [Act.put, List.setIfInBounds_toArray, List.set_cons_zero, List.set_cons_succ]
  refine wpAnyK_take (i := 16) [17, 18] (v := ?v48) rfl (by kernel_rfl) (by kernel_rfl) (by kernel_rfl) (by kernel_rfl) (fun _ _ _ h => h) (Or.inl ⟨by rfl, ?hy48⟩) hH ?rest48
  case hy48 => (intro w hSw; (try dsimp only at hSw); go_simp; with_reducible rfl)
  try simp only [Act.put, List.setIfInBounds_toArray, List.set_cons_zero, List.set_cons_succ]
  refine wpAnyK_take (i := 17) [18] (v := ?v49) rfl (by kernel_rfl) (by kernel_rfl) (by kernel_rfl) (by kernel_rfl) (fun _ _ _ h => h) (Or.inl ⟨by rfl, ?hy49⟩) hH ?rest49
  case hy49 => (intro w hSw; (try dsimp only at hSw); go_simp; with_reducible rfl)
  try simp only [Act.put, List.setIfInBounds_toArray, List.set_cons_zero, List.set_cons_succ]
  refine wpAnyK_last (by kernel_rfl) rfl (fun K hK => ?_) (by kernel_rfl)
  go_simp
  refine hK.out _ _ (wpAnyK_done (by kernel_rfl) ?_ _)
  clear hK K hH
  go_wp2
  all_goals
    go_end0
    have hfin := H.out.1.relist (m' := R.m.take i ++ R.m.drop (i + 1)) (H.out.2.1 rb (.inl rfl)) ((Below.refl w.heap.size w).drew.trans H5.out.2) (row_mono H5.out.1 (Nat.zero_le _)) (own_new H5.out.1) H.out.2.2.1 H.out.2.2.2.1
    exact ⟨rfl, _, hfin.1, hfin.2, fun q hq => .inr (own_new H5.out.1 q hq)⟩

set_option maxRecDepth 100000 in
set_option maxHeartbeats 4000000 in
theorem rremove_any (h : RfAt F w rb lv R) (hF : ∀ q, RFoot rb lv q → F q) (hk : R.acts < 1000000) (s : ByteArray) (hs : s.size ≤ 140737488351232) :
    Calls Tryz.prog 29 #[.pointer (some ⟨rb, 0, none⟩), .string s] w fun e w' => e = .returned (.int .i64 (R.remove s).1) ∧ RStep F w w' rb lv (R.remove s).2 := by
  have HG := Lib.hid (rguard_any h s hs)
  have HAT := Lib.hid (rat_any h s)
  have HBU := Lib.hid (rburn_any h hF hk)
  have H := Lib.hid (And.intro h hF)
  by_cases ha : R.asked [s] = 0
  · rw [ha] at HG
    by_cases hi : atN R.m s < R.m.length
    · have hy := at_yes hi
      rw [hy.2] at HAT
      have hgl := getL_at hi
      have hdel := delL_at h.nd hi
      have hres : R.remove s = if R.burn.1 = true then (20, R.burn.2) else (0, { R.burn.2 with m := delL R.m s }) := by
        unfold Dk.remove
        rw [ha, if_neg (by decide), hgl]
        simp only
        rw [ract_burn]
      obtain ⟨i, hie⟩ : ∃ i, atN R.m s = i := ⟨_, rfl⟩
      rw [hie] at HAT hdel
      have hir : i < R.m.length := by rw [← hie]; exact hi
      have hil : i < 20000 := by have := h.ok.few; omega
      rw [hres]
      cases hbn : R.burn.1 with
      | true =>
        rw [hbn] at HBU
        rw [if_pos rfl]
        clear hres hy hi ha hie hgl hdel hbn hir h hF
        go_enter Tryz.func29, Tryz.ntmps29
        go_wp2_with (first | (go_at_call 117; refine HBU.out.mono ?_; rintro e w1 ⟨rfl, hd1, ht1⟩; have HD1 := Lib.hid (And.intro hd1 ht1); clear hd1 ht1) | (go_at_call 116; refine HAT.out.mono ?_; rintro e v2 ⟨rfl, rfl⟩) | (go_at_call 115; refine HG.out.mono ?_; rintro e v1 ⟨rfl, rfl⟩))
        go_ret
        exact ⟨rfl, RStep.of HD1.out.1 HD1.out.2⟩
      | false =>
        rw [hbn] at HBU
        rw [if_neg (by decide)]
        have hbm := burn_m hbn
        rw [hdel]
        have HX := Lib.hid (And.intro hbm hir)
        clear hres hy hi ha hie hgl hdel hbn hir h hF hbm
        go_enter Tryz.func29, Tryz.ntmps29
        go_wp2_with (first
          | (go_at_call 121; refine (rtake_any HD1.out.1 H.out.2 i (by rw [HX.out.1]; exact HX.out.2)).mono ?_; rintro e w3 ⟨rfl, hst⟩; have HST := Lib.hid hst; clear hst)
          | (go_at_call 117; refine HBU.out.mono ?_; rintro e w1 ⟨rfl, hd1, ht1⟩; have HD1 := Lib.hid (And.intro hd1 ht1); clear hd1 ht1) | (go_at_call 116; refine HAT.out.mono ?_; rintro e v2 ⟨rfl, rfl⟩) | (go_at_call 115; refine HG.out.mono ?_; rintro e v1 ⟨rfl, rfl⟩))
        go_ret
        obtain ⟨lv', f1, f2, f3⟩ := HST.out
        rw [HX.out.1] at f1
        exact ⟨rfl, lv', f1, HD1.out.2.trans f2, fun q hq => (f3 q hq).imp id (fun e => Nat.le_trans HD1.out.2.size e)⟩
    · have hy := at_no hi
      rw [hy.2] at HAT
      have hres : R.remove s = (22, R) := by unfold Dk.remove; rw [ha, if_neg (by decide), hy.1]
      rw [hres]
      clear hres hy hi ha h hF
      go_enter Tryz.func29, Tryz.ntmps29
      go_wp2_with (first | (go_at_call 116; refine HAT.out.mono ?_; rintro e v2 ⟨rfl, rfl⟩) | (go_at_call 115; refine HG.out.mono ?_; rintro e v1 ⟨rfl, rfl⟩))
      go_ret
      exact ⟨rfl, RStep.same H.out.1⟩
  · have hres : R.remove s = (R.asked [s], R) := by unfold Dk.remove; rw [if_pos ha]
    rw [hres]
    obtain ⟨av, hav⟩ : ∃ av, R.asked [s] = av := ⟨_, rfl⟩
    rw [hav] at HG ha ⊢
    have t0 : (av == 0) = false := by simpa using ha
    obtain ⟨iv, hiv⟩ : ∃ iv, atI R.m s = iv := ⟨_, rfl⟩
    rw [hiv] at HAT
    clear hres hav h hF hiv
    go_enter Tryz.func29, Tryz.ntmps29
    go_wp2_with (first | (go_at_call 116; refine HAT.out.mono ?_; rintro e v2 ⟨rfl, rfl⟩) | (go_at_call 115; refine HG.out.mono ?_; rintro e v1 ⟨rfl, rfl⟩))
    go_ret
    exact ⟨rfl, RStep.same H.out.1⟩

end Go.Proofs.YtceamkcaokdgaaaGreatDoor
/-
  The document's disk: Rename.
-/
namespace Go.Proofs.YtceamkcaokdgaaaGreatDoor
open Go.RowKit
variable {F G : Nat → Prop} {w w' w2 : World} {rb : Nat} {lv lv' : Value} {R R' : Dk}

theorem RfAt.less {F' : Nat → Prop} (h : RfAt F' w rb lv R) (hF : ∀ q, F q → F' q) : RfAt F w rb lv R := by
  obtain ⟨a, n, c, h5, h5b⟩ := h.c5
  exact ⟨h.c0, h.c1, h.c2, h.c3, h.c4, ⟨a, n, c, h5, fun z hz => (h5b z hz).mono hF⟩, h.c6, h.fz, h.row, h.ne, h.ok, h.nd⟩
theorem name_ok {s t : ByteArray} {M0 : Fm} (hok : R'.Ok) (h : ({ R' with m := M0 } : Dk).Ok) (hnd : keysN M0) (hst : s = t ∨ getL M0 t = none) (ht : t.size ≤ 64) : ({ R' with m := nameL M0 s t } : Dk).Ok ∧ keysN (nameL M0 s t) := by
  refine ⟨⟨fun p hp => ?_, fun p hp => ?_, by show (nameL M0 s t).length ≤ _; unfold nameL; rw [List.length_map]; exact h.few, hok.acts, hok.quota, hok.fuse⟩, keysN_name hnd hst⟩
  · obtain ⟨q, hq, rfl⟩ := List.mem_map.1 hp
    split
    · exact ht
    · exact h.nam q hq
  · obtain ⟨q, hq, rfl⟩ := List.mem_map.1 hp
    split
    · exact h.syn q hq
    · exact h.syn q hq
theorem RfAt.okm (h : RfAt F w rb lv R) : ({ R with m := R.m } : Dk).Ok := h.ok

set_option maxRecDepth 100000 in
set_option maxHeartbeats 4000000 in
theorem rrename_big (h : RfAt F w rb lv R) (hF : ∀ q, RFoot rb lv q → F q) (hbig : ∀ q, w.heap.size ≤ q → F q) (hk : R.acts < 1000000) (s t : ByteArray) (hs : s.size ≤ 140737488351232) (ht : t.size ≤ 140737488351232) :
    Calls Tryz.prog 27 #[.pointer (some ⟨rb, 0, none⟩), .string s, .string t] w fun e w' => e = .returned (.int .i64 (R.renameD s t).1) ∧ RStep F w w' rb lv (R.renameD s t).2 := by
  have HG := Lib.hid (rguard_any h s hs)
  have HNM := Lib.hid (risname_any t ht w)
  have HAT := Lib.hid (rat_any h s)
  have HBU := Lib.hid (rburn_any h hF hk)
  have H := Lib.hid (And.intro h (And.intro hF hbig))
  by_cases ha : R.asked [s] = 0
  · have hon : R.on = true := by
      unfold Dk.asked at ha
      cases ho : R.on with
      | true => rfl
      | false => rw [ho] at ha; simp at ha
    have hns : nmB s = true := by
      unfold Dk.asked at ha
      rw [hon] at ha
      cases hb : nmB s with
      | true => rfl
      | false => simp [hb] at ha
    rw [ha] at HG
    cases hnt : nmB t with
    | false =>
      rw [hnt] at HNM
      have h2 : R.asked [s, t] = 21 := by unfold Dk.asked; rw [hon]; simp [hnt]
      have hres : R.renameD s t = (21, R) := by unfold Dk.renameD; rw [h2, if_pos (by decide)]
      rw [hres]
      clear hres h2 hnt hns hon ha h hF hbig
      go_enter Tryz.func27, Tryz.ntmps27
      go_wp2_with (first | (go_at_call 120; refine HNM.out.mono ?_; rintro e v4 ⟨rfl, rfl⟩) | (go_at_call 115; refine HG.out.mono ?_; rintro e v1 ⟨rfl, rfl⟩))
      go_ret
      exact ⟨rfl, RStep.same H.out.1⟩
    | true =>
      rw [hnt] at HNM
      have h2 : R.asked [s, t] = 0 := by unfold Dk.asked; rw [hon]; simp [hnt, hns]
      have hts : t.size ≤ 64 := by
        unfold nmB at hnt
        simp only [Bool.and_eq_true, decide_eq_true_eq] at hnt
        exact hnt.1.2
      have HTS := Lib.hid hts
      by_cases hi : atN R.m s < R.m.length
      · have hy := at_yes hi
        have hgl := getL_at hi
        have hres : R.renameD s t = if R.burn.1 = true then (20, R.burn.2) else (0, { R.burn.2 with m := renameR R.m s t }) := by
          unfold Dk.renameD
          rw [h2, if_neg (by decide), hgl]
          simp only
          rw [ract_burn]
        rw [hy.2] at HAT
        obtain ⟨i, hie⟩ : ∃ i, atN R.m s = i := ⟨_, rfl⟩
        rw [hie] at HAT
        rw [hres]
        cases hbn : R.burn.1 with
        | true =>
          rw [hbn] at HBU
          rw [if_pos rfl]
          clear hres h2 hnt hns hon ha h hF hbig hi hy hgl hie hbn hts
          go_enter Tryz.func27, Tryz.ntmps27
          go_wp2_with (first | (go_at_call 117; refine HBU.out.mono ?_; rintro e w1 ⟨rfl, hd1, ht1⟩; have HD1 := Lib.hid (And.intro hd1 ht1); clear hd1 ht1) | (go_at_call 116; refine HAT.out.mono ?_; rintro e v2 ⟨rfl, rfl⟩) | (go_at_call 120; refine HNM.out.mono ?_; rintro e v4 ⟨rfl, rfl⟩) | (go_at_call 115; refine HG.out.mono ?_; rintro e v1 ⟨rfl, rfl⟩))
          go_ret
          exact ⟨rfl, RStep.of HD1.out.1 HD1.out.2⟩
        | false =>
          rw [hbn] at HBU
          rw [if_neg (by decide)]
          have hbm := burn_m hbn
          have HX := Lib.hid (And.intro hbm hi)
          clear hres h2 hnt hns hon ha h hF hbig hy hgl hie hbn hts hbm
          by_cases hst : s = t
          · have u0 : (s.toList == t.toList) = true := by rw [hst]; exact strEq t
            have hren : renameR R.m s t = nameL R.m s t := by unfold renameR; rw [if_pos hst]
            rw [hren]
            have HST := Lib.hid hst
            clear hst hren hi
            go_enter Tryz.func27, Tryz.ntmps27
            go_wp2_with (first | (go_at_call 117; refine HBU.out.mono ?_; rintro e w1 ⟨rfl, hd1, ht1⟩; have HD1 := Lib.hid (And.intro hd1 ht1); clear hd1 ht1) | (go_at_call 116; refine HAT.out.mono ?_; rintro e v2 ⟨rfl, rfl⟩) | (go_at_call 120; refine HNM.out.mono ?_; rintro e v4 ⟨rfl, rfl⟩) | (go_at_call 115; refine HG.out.mono ?_; rintro e v1 ⟨rfl, rfl⟩))
            obtain ⟨R2, hR2⟩ : ∃ R2, R.burn.2 = R2 := ⟨_, rfl⟩
            have hR2m : R2.m = R.m := by rw [← hR2]; exact HX.out.1
            have HD2 : Hid (RfAt F w1 rb lv R2 ∧ Tn (RFoot rb lv) w w1 ∧ (∀ q, RFoot rb lv q → F q) ∧ (s = t ∨ getL R2.m t = none) ∧ (∀ q, lv.ownBlock = some q → lv.ownBlock = some q ∨ w.heap.size ≤ q)) := by
              unfold Hid
              rw [← hR2]
              exact ⟨HD1.out.1, HD1.out.2, H.out.2.1, .inl HST.out, fun _ e => .inl e⟩
            have HI2 : Hid (atN R2.m s < R2.m.length) := by unfold Hid; rw [hR2m]; exact HX.out.2
            have HR2 := Lib.hid (And.intro hR2 hR2m)
            clear hR2 hR2m
            have hi2 : atN R2.m s < R2.m.length := HI2.out
            obtain ⟨i2, g2, cap2, n2, fd, fs, hai2, hget2, hlv2, hgl2, hset2, q1, q2, hin2, hnl2, hn2⟩ := HD2.out.1.fileOf hi2
            have hname2 := nameL_at HD2.out.1.nd hi2 t
            have hi2e : atN R2.m s = i2 := by
              have h9 := (at_yes hi2).2
              rw [hai2] at h9
              omega
            have hx2 : (R2.m[i2]?).map (·.2) = some ⟨fd, fs⟩ := by rw [hget2]; rfl
            have hname3 : R2.m.set i2 (t, (⟨fd, fs⟩ : Fl)) = nameL R2.m s t := by
              rw [hname2]
              have h9 := getL_at hi2
              rw [hgl2] at h9
              have h8 : R2.m[atN R2.m s].2 = ⟨fd, fs⟩ := (Option.some.inj h9).symm
              rw [h8, hi2e]
            subst hlv2
            obtain ⟨d0, j0, j1, j2, hz2, _, hgr2⟩ := HD2.out.1.cellsOf rfl hget2
            simp only at j0
            have hat2 := fun (d : Nat) => rat_any (HD2.out.1.below (below_drewN (Below.refl _ w1) d)) s
            rw [hai2] at hat2
            have HAT2 := Lib.hid (hat2 1)
            have f2 := hz2 (i2 * 3)
            have HF2 := Lib.hid (And.intro hname3 (And.intro hget2 hz2))
            clear hat2 hai2 hset2 hgl2 hname2 hi2e hx2 hname3 hz2 hn2 hget2 hi2
            have d0' : (w1.drewN 1).cell? ⟨rb, 0, none⟩ = some (.slice (some ⟨g2, 0, none⟩) n2 cap2) := d0
            refine wp_region_K (fun w' => w' = w1.drewN 1 ∧ w'.cell? ⟨rb, 0, none⟩ = some (.slice (some ⟨g2, 0, none⟩) n2 cap2)) 10 11 (by kernel_rfl) (by kernel_rfl) ⟨rfl, d0'⟩ (fun hH => ?_)
            refine wpAnyK_take (i := 0) [10] (v := ?v50) rfl (by kernel_rfl) (by kernel_rfl) (by kernel_rfl) (by kernel_rfl) (fun _ _ _ h => h) (Or.inl ⟨by rfl, ?hy50⟩) hH ?rest50
            case hy50 => (intro w hSw; (try dsimp only at hSw); go_simp; with_reducible rfl)
            try simp only [Act.put, List.setIfInBounds_toArray, List.set_cons_zero, List.set_cons_succ]
            refine wpAnyK_take (i := 1) [10] (v := ?v51) rfl (by kernel_rfl) (by kernel_rfl) (by kernel_rfl) (by kernel_rfl) (fun _ _ _ h => h) (Or.inl ⟨by rfl, ?hy51⟩) hH ?rest51
            case hy51 => (intro w hSw; (try dsimp only at hSw); go_simp; with_reducible rfl)
            try simp only [Act.put, List.setIfInBounds_toArray, List.set_cons_zero, List.set_cons_succ]
            refine wpAnyK_take (i := 2) [10] (v := ?v52) rfl (by kernel_rfl) (by kernel_rfl) (by kernel_rfl) (by kernel_rfl) (fun _ _ _ h => h) (Or.inl ⟨by rfl, ?hy52⟩) hH ?rest52
            case hy52 => (intro w hSw; (try dsimp only at hSw); go_simp; with_reducible rfl)
            try simp only [Act.put, List.setIfInBounds_toArray, List.set_cons_zero, List.set_cons_succ]
            refine wpAnyK_take (i := 3) [10] (v := ?v53) rfl (by kernel_rfl) (by kernel_rfl) (by kernel_rfl) (by kernel_rfl) (fun _ _ _ h => h) (Or.inl ⟨by rfl, ?hy53⟩) hH ?rest53
            case hy53 => (intro w hSw; (try dsimp only at hSw); go_simp; with_reducible rfl)
            try simp only [Act.put, List.setIfInBounds_toArray, List.set_cons_zero, List.set_cons_succ]
            refine wpAnyK_take (i := 4) [10] (v := ?v54) rfl (by kernel_rfl) (by kernel_rfl) (by kernel_rfl) (by kernel_rfl) (fun _ _ _ h => h) (Or.inl ⟨by rfl, ?hy54⟩) hH ?rest54
            case hy54 => (intro w hSw; (try dsimp only at hSw); go_simp; with_reducible rfl)
            try simp only [Act.put, List.setIfInBounds_toArray, List.set_cons_zero, List.set_cons_succ]
            refine wpAnyK_take (i := 5) [10] (v := ?v55) rfl (by kernel_rfl) (by kernel_rfl) (by kernel_rfl) (by kernel_rfl) (fun _ _ _ h => h) (Or.inl ⟨by rfl, ?hy55⟩) hH ?rest55
            case hy55 => (intro w hSw; (try dsimp only at hSw); go_simp; with_reducible rfl)
            try simp only [Act.put, List.setIfInBounds_toArray, List.set_cons_zero, List.set_cons_succ]
            refine wpAnyK_take (i := 7) [10] (v := ?v56) rfl (by kernel_rfl) (by kernel_rfl) (by kernel_rfl) (by kernel_rfl) (fun _ _ _ h => h) (Or.inl ⟨by rfl, ?hy56⟩) hH ?rest56
            case hy56 => (intro w hSw; (try dsimp only at hSw); go_simp; with_reducible rfl)
            try simp only [Act.put, List.setIfInBounds_toArray, List.set_cons_zero, List.set_cons_succ]
            refine wpAnyK_one (i := 6) (by kernel_rfl) rfl (fun K hK => ?_) (by kernel_rfl)
            go_simp
            go_at_call 116
            refine HAT2.out.mono ?_
            rintro e v5 ⟨rfl, rfl⟩
            refine hK.out _ _ ⟨rfl, d0'⟩ (fun hH => ?_)
            clear hK K
            try simp only [Act.put, List.setIfInBounds_toArray, List.set_cons_zero, List.set_cons_succ]
            refine wpAnyK_take (i := 8) [9, 10] (v := ?v57) rfl (by kernel_rfl) (by kernel_rfl) (by kernel_rfl) (by kernel_rfl) (fun _ _ _ h => h) (Or.inl ⟨by rfl, ?hy57⟩) hH ?rest57
            case hy57 => (intro w hSw; (try dsimp only at hSw); go_simp; with_reducible rfl)
            try simp only [Act.put, List.setIfInBounds_toArray, List.set_cons_zero, List.set_cons_succ]
            refine wpAnyK_take (i := 9) [10] (v := ?v58) rfl (by kernel_rfl) (by kernel_rfl) (by kernel_rfl) (by kernel_rfl) (fun _ _ _ h => h) (Or.inl ⟨by rfl, ?hy58⟩) hH ?rest58
            case hy58 => (intro w hSw; (try dsimp only at hSw); go_simp; with_reducible rfl)
            try simp only [Act.put, List.setIfInBounds_toArray, List.set_cons_zero, List.set_cons_succ]
            refine wpAnyK_last (by kernel_rfl) rfl (fun K hK => ?_) (by kernel_rfl)
            go_simp
            refine hK.out _ _ (wpAnyK_done (by kernel_rfl) ?_ _)
            clear hK K hH
            go_wp2
            go_ret
            have hfile := (HD2.out.1.below (below_drewN (Below.refl _ w1) 1)).filed (m' := nameL R2.m s t) HD2.out.2.2.1 rfl HF2.out.2.1 (j := 0) (by decide) (u := .string t) (x' := (t, (⟨fd, fs⟩ : Fl))) rfl HF2.out.1
              (name_ok HD2.out.1.ok HD2.out.1.okm HD2.out.1.nd HD2.out.2.2.2.1 HTS.out)
            rw [HR2.out.1, ← HR2.out.2]
            exact ⟨rfl, RStep.of hfile.1 (HD2.out.2.1.trans ((Tn.ofBelow (below_drewN (Below.refl _ w1) 1)).trans hfile.2))⟩
          · have u0 : (s.toList == t.toList) = false := strNe hst
            by_cases hj : atN R.m t < R.m.length
            · have hyj := at_yes hj
              have hren : renameR R.m s t = nameL (delL R.m t) s t := by unfold renameR; rw [if_neg hst]
              rw [hren]
              have HST := Lib.hid (And.intro hst hj)
              have hdel := delL_at H.out.1.nd hj
              obtain ⟨jj, hjj⟩ : ∃ jj, atN R.m t = jj := ⟨_, rfl⟩
              rw [hjj] at hdel hyj
              have hjl : jj < R.m.length := by rw [← hjj]; exact hj
              have hjb : jj < 20000 := by have := H.out.1.ok.few; omega
              have HJ := Lib.hid (And.intro hdel (And.intro hyj.2 hjl))
              clear hst hren hj hi hyj hdel hjj hjl
              go_enter Tryz.func27, Tryz.ntmps27
              go_wp2_with (first
                | (go_at_call 121; refine (rtake_any HD1.out.1 H.out.2.1 jj (by rw [HX.out.1]; exact HJ.out.2.2)).mono ?_; rintro e w3 ⟨rfl, hst⟩; have HTK := Lib.hid hst; clear hst)
                | (go_at_call 116; refine (rat_any HD1.out.1 t).mono ?_; rw [HX.out.1, HJ.out.2.1]; rintro e v6 ⟨rfl, rfl⟩)
                | (go_at_call 117; refine HBU.out.mono ?_; rintro e w1 ⟨rfl, hd1, ht1⟩; have HD1 := Lib.hid (And.intro hd1 ht1); clear hd1 ht1) | (go_at_call 116; refine HAT.out.mono ?_; rintro e v2 ⟨rfl, rfl⟩) | (go_at_call 120; refine HNM.out.mono ?_; rintro e v4 ⟨rfl, rfl⟩) | (go_at_call 115; refine HG.out.mono ?_; rintro e v1 ⟨rfl, rfl⟩))
              obtain ⟨lv2, hk1, hk2, hk3⟩ := HTK.out
              rw [HX.out.1, ← HJ.out.1] at hk1
              obtain ⟨R2, hR2⟩ : ∃ R2, ({ R.burn.2 with m := delL R.m t } : Dk) = R2 := ⟨_, rfl⟩
              have hR2m : R2.m = delL R.m t := by rw [← hR2]
              rw [hR2] at hk1
              have HD2 : Hid (RfAt F w3 rb lv2 R2 ∧ Tn (RFoot rb lv) w w3 ∧ (∀ q, RFoot rb lv2 q → F q) ∧ (s = t ∨ getL R2.m t = none) ∧ (∀ q, lv2.ownBlock = some q → lv.ownBlock = some q ∨ w.heap.size ≤ q)) := by
                unfold Hid
                have hk3' : ∀ q, lv2.ownBlock = some q → lv.ownBlock = some q ∨ w.heap.size ≤ q := fun q hq => (hk3 q hq).imp id (fun e => Nat.le_trans HD1.out.2.size e)
                refine ⟨hk1, HD1.out.2.trans hk2, fun q hq => ?_, .inr (by rw [hR2m, get_del, if_pos rfl]), hk3'⟩
                rcases hq with hq | hq
                · exact H.out.2.1 q (.inl hq)
                · exact (hk3' q hq).elim (fun e => H.out.2.1 q (.inr e)) (fun e => H.out.2.2 q e)
              have HI2 : Hid (atN R2.m s < R2.m.length) := by unfold Hid; rw [hR2m]; exact atN_del HST.out.1 HX.out.2
              have HR2 := Lib.hid (And.intro hR2 hR2m)
              clear hR2 hR2m hk1 hk2 hk3 HTK
              have hi2 : atN R2.m s < R2.m.length := HI2.out
              obtain ⟨i2, g2, cap2, n2, fd, fs, hai2, hget2, hlv2, hgl2, hset2, q1, q2, hin2, hnl2, hn2⟩ := HD2.out.1.fileOf hi2
              have hname2 := nameL_at HD2.out.1.nd hi2 t
              have hi2e : atN R2.m s = i2 := by
                have h9 := (at_yes hi2).2
                rw [hai2] at h9
                omega
              have hx2 : (R2.m[i2]?).map (·.2) = some ⟨fd, fs⟩ := by rw [hget2]; rfl
              have hname3 : R2.m.set i2 (t, (⟨fd, fs⟩ : Fl)) = nameL R2.m s t := by
                rw [hname2]
                have h9 := getL_at hi2
                rw [hgl2] at h9
                have h8 : R2.m[atN R2.m s].2 = ⟨fd, fs⟩ := (Option.some.inj h9).symm
                rw [h8, hi2e]
              subst hlv2
              obtain ⟨d0, j0, j1, j2, hz2, _, hgr2⟩ := HD2.out.1.cellsOf rfl hget2
              simp only at j0
              have hat2 := fun (d : Nat) => rat_any (HD2.out.1.below (below_drewN (Below.refl _ w3) d)) s
              rw [hai2] at hat2
              have HAT2 := Lib.hid (hat2 1)
              have f2 := hz2 (i2 * 3)
              have HF2 := Lib.hid (And.intro hname3 (And.intro hget2 hz2))
              clear hat2 hai2 hset2 hgl2 hname2 hi2e hx2 hname3 hz2 hn2 hget2 hi2
              have d0' : (w3.drewN 1).cell? ⟨rb, 0, none⟩ = some (.slice (some ⟨g2, 0, none⟩) n2 cap2) := d0
              refine wp_region_K (fun w' => w' = w3.drewN 1 ∧ w'.cell? ⟨rb, 0, none⟩ = some (.slice (some ⟨g2, 0, none⟩) n2 cap2)) 10 11 (by kernel_rfl) (by kernel_rfl) ⟨rfl, d0'⟩ (fun hH => ?_)
              refine wpAnyK_take (i := 0) [10] (v := ?v59) rfl (by kernel_rfl) (by kernel_rfl) (by kernel_rfl) (by kernel_rfl) (fun _ _ _ h => h) (Or.inl ⟨by rfl, ?hy59⟩) hH ?rest59
              case hy59 => (intro w hSw; (try dsimp only at hSw); go_simp; with_reducible rfl)
              try simp only [Act.put, List.setIfInBounds_toArray, List.set_cons_zero, List.set_cons_succ]
              refine wpAnyK_take (i := 1) [10] (v := ?v60) rfl (by kernel_rfl) (by kernel_rfl) (by kernel_rfl) (by kernel_rfl) (fun _ _ _ h => h) (Or.inl ⟨by rfl, ?hy60⟩) hH ?rest60
              case hy60 => (intro w hSw; (try dsimp only at hSw); go_simp; with_reducible rfl)
              try simp only [Act.put, List.setIfInBounds_toArray, List.set_cons_zero, List.set_cons_succ]
              refine wpAnyK_take (i := 2) [10] (v := ?v61) rfl (by kernel_rfl) (by kernel_rfl) (by kernel_rfl) (by kernel_rfl) (fun _ _ _ h => h) (Or.inl ⟨by rfl, ?hy61⟩) hH ?rest61
              case hy61 => (intro w hSw; (try dsimp only at hSw); go_simp; with_reducible rfl)
              try simp only [Act.put, List.setIfInBounds_toArray, List.set_cons_zero, List.set_cons_succ]
              refine wpAnyK_take (i := 3) [10] (v := ?v62) rfl (by kernel_rfl) (by kernel_rfl) (by kernel_rfl) (by kernel_rfl) (fun _ _ _ h => h) (Or.inl ⟨by rfl, ?hy62⟩) hH ?rest62
              case hy62 => (intro w hSw; (try dsimp only at hSw); go_simp; with_reducible rfl)
              try simp only [Act.put, List.setIfInBounds_toArray, List.set_cons_zero, List.set_cons_succ]
              refine wpAnyK_take (i := 4) [10] (v := ?v63) rfl (by kernel_rfl) (by kernel_rfl) (by kernel_rfl) (by kernel_rfl) (fun _ _ _ h => h) (Or.inl ⟨by rfl, ?hy63⟩) hH ?rest63
              case hy63 => (intro w hSw; (try dsimp only at hSw); go_simp; with_reducible rfl)
              try simp only [Act.put, List.setIfInBounds_toArray, List.set_cons_zero, List.set_cons_succ]
              refine wpAnyK_take (i := 5) [10] (v := ?v64) rfl (by kernel_rfl) (by kernel_rfl) (by kernel_rfl) (by kernel_rfl) (fun _ _ _ h => h) (Or.inl ⟨by rfl, ?hy64⟩) hH ?rest64
              case hy64 => (intro w hSw; (try dsimp only at hSw); go_simp; with_reducible rfl)
              try simp only [Act.put, List.setIfInBounds_toArray, List.set_cons_zero, List.set_cons_succ]
              refine wpAnyK_take (i := 7) [10] (v := ?v65) rfl (by kernel_rfl) (by kernel_rfl) (by kernel_rfl) (by kernel_rfl) (fun _ _ _ h => h) (Or.inl ⟨by rfl, ?hy65⟩) hH ?rest65
              case hy65 => (intro w hSw; (try dsimp only at hSw); go_simp; with_reducible rfl)
              try simp only [Act.put, List.setIfInBounds_toArray, List.set_cons_zero, List.set_cons_succ]
              refine wpAnyK_one (i := 6) (by kernel_rfl) rfl (fun K hK => ?_) (by kernel_rfl)
              go_simp
              go_at_call 116
              refine HAT2.out.mono ?_
              rintro e v5 ⟨rfl, rfl⟩
              refine hK.out _ _ ⟨rfl, d0'⟩ (fun hH => ?_)
              clear hK K
              try simp only [Act.put, List.setIfInBounds_toArray, List.set_cons_zero, List.set_cons_succ]
              refine wpAnyK_take (i := 8) [9, 10] (v := ?v66) rfl (by kernel_rfl) (by kernel_rfl) (by kernel_rfl) (by kernel_rfl) (fun _ _ _ h => h) (Or.inl ⟨by rfl, ?hy66⟩) hH ?rest66
              case hy66 => (intro w hSw; (try dsimp only at hSw); go_simp; with_reducible rfl)
              try simp only [Act.put, List.setIfInBounds_toArray, List.set_cons_zero, List.set_cons_succ]
              refine wpAnyK_take (i := 9) [10] (v := ?v67) rfl (by kernel_rfl) (by kernel_rfl) (by kernel_rfl) (by kernel_rfl) (fun _ _ _ h => h) (Or.inl ⟨by rfl, ?hy67⟩) hH ?rest67
              case hy67 => (intro w hSw; (try dsimp only at hSw); go_simp; with_reducible rfl)
              try simp only [Act.put, List.setIfInBounds_toArray, List.set_cons_zero, List.set_cons_succ]
              refine wpAnyK_last (by kernel_rfl) rfl (fun K hK => ?_) (by kernel_rfl)
              go_simp
              refine hK.out _ _ (wpAnyK_done (by kernel_rfl) ?_ _)
              clear hK K hH
              go_wp2
              go_ret
              have hfile := (HD2.out.1.below (below_drewN (Below.refl _ w3) 1)).filed (m' := nameL R2.m s t) HD2.out.2.2.1 rfl HF2.out.2.1 (j := 0) (by decide) (u := .string t) (x' := (t, (⟨fd, fs⟩ : Fl))) rfl HF2.out.1
                (name_ok HD2.out.1.ok HD2.out.1.okm HD2.out.1.nd HD2.out.2.2.2.1 HTS.out)
              have hfl := hfile.1
              rw [HR2.out.2] at hfl
              have hfe : ({ R2 with m := nameL (delL R.m t) s t } : Dk) = { R.burn.2 with m := nameL (delL R.m t) s t } := by rw [← HR2.out.1]
              rw [hfe] at hfl
              refine ⟨rfl, _, hfl, HD2.out.2.1.andThen ((Tn.ofBelow (below_drewN (Below.refl _ w3) 1)).trans hfile.2) (fun q hq => ?_), HD2.out.2.2.2.2⟩
              rcases hq with hq | hq
              · exact .inl (.inl hq)
              · exact (HD2.out.2.2.2.2 q hq).imp .inr id
            · have hnj := at_no hj
              have hdn : delL R.m t = R.m := by
                unfold delL
                refine List.filter_eq_self.2 (fun p hp => ?_)
                have := getL_none hnj.1 p hp
                simpa using this
              have hren : renameR R.m s t = nameL R.m s t := by unfold renameR; rw [if_neg hst, hdn]
              rw [hren]
              have HJ := Lib.hid hnj
              clear hst hren hj hi hnj hdn
              go_enter Tryz.func27, Tryz.ntmps27
              go_wp2_with (first
                | (go_at_call 116; refine (rat_any HD1.out.1 t).mono ?_; rw [HX.out.1, HJ.out.2]; rintro e v6 ⟨rfl, rfl⟩)
                | (go_at_call 117; refine HBU.out.mono ?_; rintro e w1 ⟨rfl, hd1, ht1⟩; have HD1 := Lib.hid (And.intro hd1 ht1); clear hd1 ht1) | (go_at_call 116; refine HAT.out.mono ?_; rintro e v2 ⟨rfl, rfl⟩) | (go_at_call 120; refine HNM.out.mono ?_; rintro e v4 ⟨rfl, rfl⟩) | (go_at_call 115; refine HG.out.mono ?_; rintro e v1 ⟨rfl, rfl⟩))
              obtain ⟨R2, hR2⟩ : ∃ R2, R.burn.2 = R2 := ⟨_, rfl⟩
              have hR2m : R2.m = R.m := by rw [← hR2]; exact HX.out.1
              have HD2 : Hid (RfAt F w1 rb lv R2 ∧ Tn (RFoot rb lv) w w1 ∧ (∀ q, RFoot rb lv q → F q) ∧ (s = t ∨ getL R2.m t = none) ∧ (∀ q, lv.ownBlock = some q → lv.ownBlock = some q ∨ w.heap.size ≤ q)) := by
                unfold Hid
                rw [← hR2]
                exact ⟨HD1.out.1, HD1.out.2, H.out.2.1, .inr (by rw [HX.out.1]; exact HJ.out.1), fun _ e => .inl e⟩
              have HI2 : Hid (atN R2.m s < R2.m.length) := by unfold Hid; rw [hR2m]; exact HX.out.2
              have HR2 := Lib.hid (And.intro hR2 hR2m)
              clear hR2 hR2m
              have hi2 : atN R2.m s < R2.m.length := HI2.out
              obtain ⟨i2, g2, cap2, n2, fd, fs, hai2, hget2, hlv2, hgl2, hset2, q1, q2, hin2, hnl2, hn2⟩ := HD2.out.1.fileOf hi2
              have hname2 := nameL_at HD2.out.1.nd hi2 t
              have hi2e : atN R2.m s = i2 := by
                have h9 := (at_yes hi2).2
                rw [hai2] at h9
                omega
              have hx2 : (R2.m[i2]?).map (·.2) = some ⟨fd, fs⟩ := by rw [hget2]; rfl
              have hname3 : R2.m.set i2 (t, (⟨fd, fs⟩ : Fl)) = nameL R2.m s t := by
                rw [hname2]
                have h9 := getL_at hi2
                rw [hgl2] at h9
                have h8 : R2.m[atN R2.m s].2 = ⟨fd, fs⟩ := (Option.some.inj h9).symm
                rw [h8, hi2e]
              subst hlv2
              obtain ⟨d0, j0, j1, j2, hz2, _, hgr2⟩ := HD2.out.1.cellsOf rfl hget2
              simp only at j0
              have hat2 := fun (d : Nat) => rat_any (HD2.out.1.below (below_drewN (Below.refl _ w1) d)) s
              rw [hai2] at hat2
              have HAT2 := Lib.hid (hat2 1)
              have f2 := hz2 (i2 * 3)
              have HF2 := Lib.hid (And.intro hname3 (And.intro hget2 hz2))
              clear hat2 hai2 hset2 hgl2 hname2 hi2e hx2 hname3 hz2 hn2 hget2 hi2
              have d0' : (w1.drewN 1).cell? ⟨rb, 0, none⟩ = some (.slice (some ⟨g2, 0, none⟩) n2 cap2) := d0
              refine wp_region_K (fun w' => w' = w1.drewN 1 ∧ w'.cell? ⟨rb, 0, none⟩ = some (.slice (some ⟨g2, 0, none⟩) n2 cap2)) 10 11 (by kernel_rfl) (by kernel_rfl) ⟨rfl, d0'⟩ (fun hH => ?_)
              refine wpAnyK_take (i := 0) [10] (v := ?v68) rfl (by kernel_rfl) (by kernel_rfl) (by kernel_rfl) (by kernel_rfl) (fun _ _ _ h => h) (Or.inl ⟨by rfl, ?hy68⟩) hH ?rest68
              case hy68 => (intro w hSw; (try dsimp only at hSw); go_simp; with_reducible rfl)
              try simp only [Act.put, List.setIfInBounds_toArray, List.set_cons_zero, List.set_cons_succ]
              refine wpAnyK_take (i := 1) [10] (v := ?v69) rfl (by kernel_rfl) (by kernel_rfl) (by kernel_rfl) (by kernel_rfl) (fun _ _ _ h => h) (Or.inl ⟨by rfl, ?hy69⟩) hH ?rest69
              case hy69 => (intro w hSw; (try dsimp only at hSw); go_simp; with_reducible rfl)
              try simp only [Act.put, List.setIfInBounds_toArray, List.set_cons_zero, List.set_cons_succ]
              refine wpAnyK_take (i := 2) [10] (v := ?v70) rfl (by kernel_rfl) (by kernel_rfl) (by kernel_rfl) (by kernel_rfl) (fun _ _ _ h => h) (Or.inl ⟨by rfl, ?hy70⟩) hH ?rest70
              case hy70 => (intro w hSw; (try dsimp only at hSw); go_simp; with_reducible rfl)
              try simp only [Act.put, List.setIfInBounds_toArray, List.set_cons_zero, List.set_cons_succ]
              refine wpAnyK_take (i := 3) [10] (v := ?v71) rfl (by kernel_rfl) (by kernel_rfl) (by kernel_rfl) (by kernel_rfl) (fun _ _ _ h => h) (Or.inl ⟨by rfl, ?hy71⟩) hH ?rest71
              case hy71 => (intro w hSw; (try dsimp only at hSw); go_simp; with_reducible rfl)
              try simp only [Act.put, List.setIfInBounds_toArray, List.set_cons_zero, List.set_cons_succ]
              refine wpAnyK_take (i := 4) [10] (v := ?v72) rfl (by kernel_rfl) (by kernel_rfl) (by kernel_rfl) (by kernel_rfl) (fun _ _ _ h => h) (Or.inl ⟨by rfl, ?hy72⟩) hH ?rest72
              case hy72 => (intro w hSw; (try dsimp only at hSw); go_simp; with_reducible rfl)
              try simp only [Act.put, List.setIfInBounds_toArray, List.set_cons_zero, List.set_cons_succ]
              refine wpAnyK_take (i := 5) [10] (v := ?v73) rfl (by kernel_rfl) (by kernel_rfl) (by kernel_rfl) (by kernel_rfl) (fun _ _ _ h => h) (Or.inl ⟨by rfl, ?hy73⟩) hH ?rest73
              case hy73 => (intro w hSw; (try dsimp only at hSw); go_simp; with_reducible rfl)
              try simp only [Act.put, List.setIfInBounds_toArray, List.set_cons_zero, List.set_cons_succ]
              refine wpAnyK_take (i := 7) [10] (v := ?v74) rfl (by kernel_rfl) (by kernel_rfl) (by kernel_rfl) (by kernel_rfl) (fun _ _ _ h => h) (Or.inl ⟨by rfl, ?hy74⟩) hH ?rest74
              case hy74 => (intro w hSw; (try dsimp only at hSw); go_simp; with_reducible rfl)
              try simp only [Act.put, List.setIfInBounds_toArray, List.set_cons_zero, List.set_cons_succ]
              refine wpAnyK_one (i := 6) (by kernel_rfl) rfl (fun K hK => ?_) (by kernel_rfl)
              go_simp
              go_at_call 116
              refine HAT2.out.mono ?_
              rintro e v5 ⟨rfl, rfl⟩
              refine hK.out _ _ ⟨rfl, d0'⟩ (fun hH => ?_)
              clear hK K
              try simp only [Act.put, List.setIfInBounds_toArray, List.set_cons_zero, List.set_cons_succ]
              refine wpAnyK_take (i := 8) [9, 10] (v := ?v75) rfl (by kernel_rfl) (by kernel_rfl) (by kernel_rfl) (by kernel_rfl) (fun _ _ _ h => h) (Or.inl ⟨by rfl, ?hy75⟩) hH ?rest75
              case hy75 => (intro w hSw; (try dsimp only at hSw); go_simp; with_reducible rfl)
              try simp only [Act.put, List.setIfInBounds_toArray, List.set_cons_zero, List.set_cons_succ]
              refine wpAnyK_take (i := 9) [10] (v := ?v76) rfl (by kernel_rfl) (by kernel_rfl) (by kernel_rfl) (by kernel_rfl) (fun _ _ _ h => h) (Or.inl ⟨by rfl, ?hy76⟩) hH ?rest76
              case hy76 => (intro w hSw; (try dsimp only at hSw); go_simp; with_reducible rfl)
              try simp only [Act.put, List.setIfInBounds_toArray, List.set_cons_zero, List.set_cons_succ]
              refine wpAnyK_last (by kernel_rfl) rfl (fun K hK => ?_) (by kernel_rfl)
              go_simp
              refine hK.out _ _ (wpAnyK_done (by kernel_rfl) ?_ _)
              clear hK K hH
              go_wp2
              go_ret
              have hfile := (HD2.out.1.below (below_drewN (Below.refl _ w1) 1)).filed (m' := nameL R2.m s t) HD2.out.2.2.1 rfl HF2.out.2.1 (j := 0) (by decide) (u := .string t) (x' := (t, (⟨fd, fs⟩ : Fl))) rfl HF2.out.1
                (name_ok HD2.out.1.ok HD2.out.1.okm HD2.out.1.nd HD2.out.2.2.2.1 HTS.out)
              rw [HR2.out.1, ← HR2.out.2]
              exact ⟨rfl, RStep.of hfile.1 (HD2.out.2.1.trans ((Tn.ofBelow (below_drewN (Below.refl _ w1) 1)).trans hfile.2))⟩
      · have hy := at_no hi
        rw [hy.2] at HAT
        have hres : R.renameD s t = (22, R) := by unfold Dk.renameD; rw [h2, if_neg (by decide), hy.1]
        rw [hres]
        clear hres h2 hnt hns hon ha h hF hbig hi hy hts
        go_enter Tryz.func27, Tryz.ntmps27
        go_wp2_with (first | (go_at_call 116; refine HAT.out.mono ?_; rintro e v2 ⟨rfl, rfl⟩) | (go_at_call 120; refine HNM.out.mono ?_; rintro e v4 ⟨rfl, rfl⟩) | (go_at_call 115; refine HG.out.mono ?_; rintro e v1 ⟨rfl, rfl⟩))
        go_ret
        exact ⟨rfl, RStep.same H.out.1⟩
  · have hne : R.asked [s, t] = R.asked [s] ∧ R.asked [s] ≠ 0 := by
      refine ⟨?_, ha⟩
      unfold Dk.asked at ha ⊢
      cases ho : R.on with
      | false => rfl
      | true =>
        rw [ho] at ha
        cases hb : nmB s with
        | true => simp [hb] at ha
        | false => simp [hb]
    have hres : R.renameD s t = (R.asked [s], R) := by unfold Dk.renameD; rw [hne.1, if_pos hne.2]
    rw [hres]
    obtain ⟨av, hav⟩ : ∃ av, R.asked [s] = av := ⟨_, rfl⟩
    rw [hav] at HG ha ⊢
    have t0 : (av == 0) = false := by simpa using ha
    clear hres hav h hF hbig hne
    go_enter Tryz.func27, Tryz.ntmps27
    go_wp2_with (first | (go_at_call 115; refine HG.out.mono ?_; rintro e v1 ⟨rfl, rfl⟩))
    go_ret
    exact ⟨rfl, RStep.same H.out.1⟩
theorem rrename_any (h : RfAt F w rb lv R) (hF : ∀ q, RFoot rb lv q → F q) (hk : R.acts < 1000000) (s t : ByteArray) (hs : s.size ≤ 140737488351232) (ht : t.size ≤ 140737488351232) :
    Calls Tryz.prog 27 #[.pointer (some ⟨rb, 0, none⟩), .string s, .string t] w fun e w' => e = .returned (.int .i64 (R.renameD s t).1) ∧ RStep F w w' rb lv (R.renameD s t).2 := by
  refine (rrename_big (F := fun q => F q ∨ w.heap.size ≤ q) (h.more (fun q hq => hq)) (fun q hq => .inl (hF q hq)) (fun q hq => .inr hq) hk s t hs ht).mono ?_
  rintro e w' ⟨he, lv', h1, h2, h3⟩
  exact ⟨he, lv', h1.less (fun q hq => .inl hq), h2, h3⟩

end Go.Proofs.YtceamkcaokdgaaaGreatDoor
/-
  The document's disk: Read, List, Quota, Fuse, New, Twin.
-/
namespace Go.Proofs.YtceamkcaokdgaaaGreatDoor
open Go.RowKit
variable {F G : Nat → Prop} {w w' w2 : World} {rb : Nat} {lv lv' : Value} {R R' : Dk}

set_option maxRecDepth 100000 in
theorem rread_any (h : RfAt F w rb lv R) (s : ByteArray) (hs : s.size ≤ 140737488351232) :
    Calls Tryz.prog 30 #[.pointer (some ⟨rb, 0, none⟩), .string s] w fun e w' => e = .returned (.tuple #[.string (R.read s).1, .int .i64 (R.read s).2]) ∧ w = w' := by
  have HG := Lib.hid (rguard_any h s hs)
  have HAT := Lib.hid (rat_any h s)
  have H := Lib.hid h
  by_cases ha : R.asked [s] = 0
  · rw [ha] at HG
    by_cases hi : atN R.m s < R.m.length
    · obtain ⟨i, g, cap, n, fd, fs, hai, hget, hlv, hgl, hset, q1, q2, hin, hnl, hn⟩ := h.fileOf hi
      rw [hai] at HAT
      subst hlv
      obtain ⟨c0, k0, k1, k2, hfz, hg, hgr⟩ := h.cellsOf rfl hget
      simp only at k0 k1 k2
      have hres : R.read s = (fd, 0) := by unfold Dk.read; rw [ha, if_neg (by decide), hgl]
      rw [hres]
      clear hres hi ha hai hgl hset hget hn hg hgr hfz h
      go_enter Tryz.func30, Tryz.ntmps30
      go_wp2_with (first | (go_at_call 116; refine HAT.out.mono ?_; rintro e v2 ⟨rfl, rfl⟩) | (go_at_call 115; refine HG.out.mono ?_; rintro e v1 ⟨rfl, rfl⟩))
      go_ret2
      exact ⟨rfl, rfl⟩
    · have hy := at_no hi
      rw [hy.2] at HAT
      have hres : R.read s = (ByteArray.empty, 22) := by unfold Dk.read; rw [ha, if_neg (by decide), hy.1]
      rw [hres]
      clear hres hy hi ha h
      go_enter Tryz.func30, Tryz.ntmps30
      go_wp2_with (first | (go_at_call 116; refine HAT.out.mono ?_; rintro e v2 ⟨rfl, rfl⟩) | (go_at_call 115; refine HG.out.mono ?_; rintro e v1 ⟨rfl, rfl⟩))
      go_ret2
      exact ⟨rfl, rfl⟩
  · have hres : R.read s = (ByteArray.empty, R.asked [s]) := by unfold Dk.read; rw [if_pos ha]
    rw [hres]
    obtain ⟨av, hav⟩ : ∃ av, R.asked [s] = av := ⟨_, rfl⟩
    rw [hav] at HG ha ⊢
    have t0 : (av == 0) = false := by simpa using ha
    clear hres hav h
    go_enter Tryz.func30, Tryz.ntmps30
    go_wp2_with (go_at_call 115; refine HG.out.mono ?_; rintro e v1 ⟨rfl, rfl⟩)
    go_ret2
    exact ⟨rfl, rfl⟩

theorem rlist_any (h : RfAt F w rb lv R) (p : ByteArray) : Calls Tryz.prog 33 #[.pointer (some ⟨rb, 0, none⟩), .string p] w fun e w' =>
    ∃ a c, e = .returned (.slice a (R.list p).length c) ∧ Own kTexts w' w.heap.size (.slice a (R.list p).length c) (R.list p) ∧ Below w.heap.size w w' := by
  have c1 := h.c1
  cases hon : R.on with
  | false =>
    have hl : R.list p = [] := by unfold Dk.list; rw [hon]; rfl
    rw [hl]
    rw [hon] at c1
    clear h hon hl
    go_enter Tryz.func33, Tryz.ntmps33
    go_wp2
    go_ret
    exact ⟨none, 0, rfl, World.ownsRow_nil _ _ _ _, Below.refl _ _⟩
  | true =>
    have hl : R.list p = sortB (preN p R.m) := by
      rw [preN_sort]
      unfold Dk.list
      rw [if_pos hon]
      rfl
    have hn := rnames_any h p
    rw [← hl] at hn
    rw [hon] at c1
    obtain ⟨L, hL⟩ : ∃ L, R.list p = L := ⟨_, rfl⟩
    rw [hL] at hn ⊢
    obtain ⟨n, hnn⟩ : ∃ n, L.length = n := ⟨_, rfl⟩
    rw [hnn] at hn ⊢
    have HN := Lib.hid hn
    clear h hon hl hn hL hnn
    go_enter Tryz.func33, Tryz.ntmps33
    go_wp2_with (go_at_call 124; refine HN.out.mono ?_; rintro e w2 ⟨a2, c2, rfl, ho2, hb2⟩; have H2 := Lib.hid (And.intro ho2 hb2); clear ho2 hb2)
    go_ret
    exact ⟨a2, c2, rfl, H2.out.1, H2.out.2⟩

set_option maxRecDepth 100000 in
theorem rquota_any (h : RfAt F w rb lv R) (hF : F rb) (n : Int) (hn : n ≤ 9223372036854775807) : Calls Tryz.prog 38 #[.pointer (some ⟨rb, 0, none⟩), .int .i64 n] w fun e w' => e = .returned (.tuple #[]) ∧ RfAt F w' rb lv (R.setQuota n) ∧ Tn (RFoot rb lv) w w' := by
  have c2 := h.c2
  have f2 := h.fz 2
  have hrb := h.ltb
  by_cases h0 : n < 0
  · have he : R.setQuota n = { R with quota := -1 } := by unfold Dk.setQuota; rw [show max n (-1) = -1 by omega]
    rw [he]
    have h1 : RfAt F ((w.setCell ⟨rb, 2, none⟩ (.int .i64 n)).setCell ⟨rb, 2, none⟩ (.int .i64 (-1))) rb lv { R with quota := -1 } := by
      obtain ⟨x, h4, h4b⟩ := h.c4
      obtain ⟨a, m, c, h5, h5b⟩ := h.c5
      have ht : Tn (fun q => q = rb) w ((w.setCell ⟨rb, 2, none⟩ (.int .i64 n)).setCell ⟨rb, 2, none⟩ (.int .i64 (-1))) := (Tn.setCell (F := fun q => q = rb) w ⟨rb, 2, none⟩ _ rfl).trans (Tn.setCell (F := fun q => q = rb) _ ⟨rb, 2, none⟩ _ rfl)
      refine h.store ht (by rw [other_cell _ (by decide), other_cell _ (by decide)]; exact h.c0) (by rw [other_cell _ (by decide), other_cell _ (by decide)]; exact h.c1) (World.cell?_setCell_same _ _ _ (World.cell?_setCell_same _ _ _ h.c2)) (by rw [other_cell _ (by decide), other_cell _ (by decide)]; exact h.c3) ⟨x, by rw [other_cell _ (by decide), other_cell _ (by decide)]; exact h4, h4b⟩
        ⟨a, m, c, by rw [other_cell _ (by decide), other_cell _ (by decide)]; exact h5, fun z hz => (h5b z hz).tn ht (fun q _ e => by rw [e]; exact hF)⟩ (by rw [other_cell _ (by decide), other_cell _ (by decide)]; exact h.c6) (fun j => (World.frozen?_setCell _ _ _ _).trans (World.frozen?_setCell _ _ _ _)) rfl ⟨h.ok.nam, h.ok.syn, h.ok.few, h.ok.acts, ⟨by show (-1 : Int) ≤ -1; decide, by show (-1 : Int) ≤ _; decide⟩, h.ok.fuse⟩
    have H := Lib.hid h1
    clear h he h1
    go_enter Tryz.func38, Tryz.ntmps38
    go_wp2
    go_end0
    exact ⟨rfl, H.out, (Tn.setCell _ _ _ (.inl rfl)).trans (Tn.setCell _ _ _ (.inl rfl))⟩
  · have he : R.setQuota n = { R with quota := n } := by unfold Dk.setQuota; rw [show max n (-1) = n by omega]
    rw [he]
    have t0 : ¬ n < 0 := h0
    have H := Lib.hid (h.set2 hF n (by omega))
    clear h he
    go_enter Tryz.func38, Tryz.ntmps38
    go_wp2
    go_end0
    exact ⟨rfl, H.out, Tn.setCell _ _ _ (.inl rfl)⟩

theorem eI_info : (Tryz.prog.info? 3).map (fun i => (i.zero, i.size, i.bytes)) = some (some (.int .i64 0), 1, 8) := by kernel_rfl
theorem eI : Elm Tryz.prog 49 3 1 8 (fun k : Int => [.int .i64 k]) where
  und := Tryz.underlying49
  info := by
    obtain ⟨i0, hi0, hz0, hs0, hy0⟩ := info_parts eI_info
    exact ⟨i0, _, hi0, hz0, hs0, hy0, rfl⟩
  pos := by decide
  few := by decide
  len _ := rfl
  one := by
    intro x u hu
    rw [List.mem_singleton] at hu
    subst hu
    rfl
theorem rdC_of {B : Nat} {v : Value} {l : List Int} (h : Own eI w B v l) (hF : ∀ q, F q → q < B) : RdC F w v l := by
  have h0 := h
  obtain ⟨h1, h2⟩ := h
  rcases h2 with ⟨rfl, h3⟩ | ⟨g, cap', cur, rfl, hg, hh, hn', hc, hcl, htk⟩
  · obtain rfl := List.eq_nil_of_length_eq_zero h3
    exact ⟨none, 0, rfl, .inl rfl⟩
  · refine ⟨_, cap', rfl, .inr ⟨g, 0, rfl, fun e => by have := hF g e; omega, (Array.getElem?_eq_some_iff.1 hh).1, fun i hi => ?_⟩⟩
    have := h0.cellAt i (by omega)
    rw [Nat.zero_add, this]
    have h4 := eI.get l i 0 hi (by omega)
    rw [Nat.mul_one, Nat.add_zero] at h4
    rw [h4]
    rfl
set_option maxRecDepth 100000 in
set_option maxHeartbeats 1000000 in
theorem rfuse_any (h : RfAt F w rb lv R) (hF : F rb) (hlt : ∀ q, F q → q < w.heap.size) (n : Int) (hn : n ≤ 9223372036854775807) {a : Option Addr} {c : Nat} {cuts : List Int} (hsrc : Src eI w (.slice a cuts.length c) cuts) (hl : cuts.length ≤ 1000000) (flip : Int) :
    Calls Tryz.prog 40 #[.pointer (some ⟨rb, 0, none⟩), .int .i64 n, .slice a cuts.length c, .int .i64 flip] w fun e w' => e = .returned (.tuple #[]) ∧ RfAt F w' rb lv (R.setFuse n cuts flip) ∧ Tn (RFoot rb lv) w w' := by
  obtain ⟨x4, g4, _⟩ := h.c4
  obtain ⟨a5, n5, c5, g5, _⟩ := h.c5
  have g3 := h.c3
  have f3 := h.fz 3
  have f4 := h.fz 4
  have f5 := h.fz 5
  have hrb := h.ltb
  obtain ⟨vl, hvl⟩ : ∃ vl, cuts.length = vl := ⟨_, rfl⟩
  rw [hvl] at hsrc hl ⊢
  have HV : Hid (([] : List Int).length + cuts.length = vl) := by unfold Hid; rw [hvl]; simp
  have HVL := Lib.hid hvl
  have HS := Lib.hid hsrc
  have H := Lib.hid (And.intro h (And.intro hF hlt))
  clear h hF hsrc hvl hlt
  by_cases h0 : n < 0
  all_goals
    go_enter Tryz.func40, Tryz.ntmps40
    go_wp2_with (at_builtin; refine wpl_app eI rfl _ _ rfl rfl rfl (v := .slice none 0 0) (l := []) (l2 := cuts) (B := w.heap.size) (World.ownsRow_nil _ _ _ _) HS.out (by rw [HV.out]; omega) (Nat.le_refl _) ?_; rw [HV.out, List.nil_append]; intro a3 cap3 w3 ho3 hb3 _ _; have H3 := Lib.hid (And.intro ho3 hb3); have k3 := (hb3.cell (p := ⟨rb, 3, none⟩) hrb).trans g3; have k4 := (hb3.cell (p := ⟨rb, 4, none⟩) hrb).trans g4; have k5 := (hb3.cell (p := ⟨rb, 5, none⟩) hrb).trans g5; have z3 := (hb3.frozen (p := ⟨rb, 3, none⟩) hrb).trans f3; have z4 := (hb3.frozen (p := ⟨rb, 4, none⟩) hrb).trans f4; have z5 := (hb3.frozen (p := ⟨rb, 5, none⟩) hrb).trans f5; clear ho3 hb3)
    go_end0
  · have he : R.setFuse n cuts flip = { R with fuse := none } := by unfold Dk.setFuse; rw [if_neg (by omega)]
    rw [he]
    have h3 := H.out.1.below H3.out.2
    have ht : Tn (fun q => q = rb) w3 ((((w3.setCell ⟨rb, 3, none⟩ (.int .i64 n)).setCell ⟨rb, 5, none⟩ (.slice a3 vl cap3)).setCell ⟨rb, 4, none⟩ (.int .i64 flip)).setCell ⟨rb, 3, none⟩ (.int .i64 (-1))) :=
      (((Tn.setCell (F := fun q => q = rb) w3 ⟨rb, 3, none⟩ _ rfl).trans (Tn.setCell (F := fun q => q = rb) _ ⟨rb, 5, none⟩ _ rfl)).trans (Tn.setCell (F := fun q => q = rb) _ ⟨rb, 4, none⟩ _ rfl)).trans (Tn.setCell (F := fun q => q = rb) _ ⟨rb, 3, none⟩ _ rfl)
    have oc : ∀ k, k ≠ 3 → k ≠ 5 → k ≠ 4 → ((((w3.setCell ⟨rb, 3, none⟩ (.int .i64 n)).setCell ⟨rb, 5, none⟩ (.slice a3 vl cap3)).setCell ⟨rb, 4, none⟩ (.int .i64 flip)).setCell ⟨rb, 3, none⟩ (.int .i64 (-1))).cell? ⟨rb, k, none⟩ = w3.cell? ⟨rb, k, none⟩ := fun k a b c => by
      rw [other_cell _ (fun e => a e.symm), other_cell _ (fun e => c e.symm), other_cell _ (fun e => b e.symm), other_cell _ (fun e => a e.symm)]
    refine ⟨rfl, h3.store ht (by rw [oc 0 (by decide) (by decide) (by decide)]; exact h3.c0) (by rw [oc 1 (by decide) (by decide) (by decide)]; exact h3.c1) (by rw [oc 2 (by decide) (by decide) (by decide)]; exact h3.c2) (World.cell?_setCell_same _ _ _ (by rw [other_cell _ (by decide), other_cell _ (by decide)]; exact World.cell?_setCell_same _ _ _ k3)) ⟨flip, ?_, fun z e => by cases e⟩ ⟨a3, vl, cap3, ?_, fun z e => by cases e⟩ (by rw [oc 6 (by decide) (by decide) (by decide)]; exact h3.c6) (fun j => by simp only [World.frozen?_setCell]) rfl ⟨h3.ok.nam, h3.ok.syn, h3.ok.few, h3.ok.acts, h3.ok.quota, fun z e => by cases e⟩, (Tn.ofBelow H3.out.2).trans (ht.mono (fun q e => .inl e))⟩
    · rw [other_cell _ (by decide)]
      exact World.cell?_setCell_same _ _ _ (by rw [other_cell _ (by decide), other_cell _ (by decide)]; exact k4)
    · rw [other_cell _ (by decide), other_cell _ (by decide)]
      exact World.cell?_setCell_same _ _ _ (by rw [other_cell _ (by decide)]; exact k5)
  · have he : R.setFuse n cuts flip = { R with fuse := some ⟨n.toNat, cuts, flip⟩ } := by unfold Dk.setFuse; rw [if_pos (by omega)]
    rw [he]
    have h3 := H.out.1.below H3.out.2
    have ht : Tn (fun q => q = rb) w3 (((w3.setCell ⟨rb, 3, none⟩ (.int .i64 n)).setCell ⟨rb, 5, none⟩ (.slice a3 vl cap3)).setCell ⟨rb, 4, none⟩ (.int .i64 flip)) :=
      ((Tn.setCell (F := fun q => q = rb) w3 ⟨rb, 3, none⟩ _ rfl).trans (Tn.setCell (F := fun q => q = rb) _ ⟨rb, 5, none⟩ _ rfl)).trans (Tn.setCell (F := fun q => q = rb) _ ⟨rb, 4, none⟩ _ rfl)
    have oc : ∀ k, k ≠ 3 → k ≠ 5 → k ≠ 4 → (((w3.setCell ⟨rb, 3, none⟩ (.int .i64 n)).setCell ⟨rb, 5, none⟩ (.slice a3 vl cap3)).setCell ⟨rb, 4, none⟩ (.int .i64 flip)).cell? ⟨rb, k, none⟩ = w3.cell? ⟨rb, k, none⟩ := fun k a b c => by
      rw [other_cell _ (fun e => c e.symm), other_cell _ (fun e => b e.symm), other_cell _ (fun e => a e.symm)]
    have hfz : fzN (some ⟨n.toNat, cuts, flip⟩) = n := by show ((n.toNat : Nat) : Int) = n; omega
    have ho3 : Own eI w3 w.heap.size (.slice a3 vl cap3) cuts := H3.out.1
    have hrd := (rdC_of ho3 H.out.2.2).tn (G := fun q => q = rb) ht (fun q _ e => by rw [e]; exact H.out.2.1)
    refine ⟨rfl, h3.store ht (by rw [oc 0 (by decide) (by decide) (by decide)]; exact h3.c0) (by rw [oc 1 (by decide) (by decide) (by decide)]; exact h3.c1) (by rw [oc 2 (by decide) (by decide) (by decide)]; exact h3.c2) (by rw [hfz, other_cell _ (by decide), other_cell _ (by decide)]; exact World.cell?_setCell_same _ _ _ k3) ⟨flip, ?_, fun z e => by injection e with e; subst e; rfl⟩ ⟨a3, vl, cap3, ?_, fun z e => by injection e with e; subst e; exact hrd⟩ (by rw [oc 6 (by decide) (by decide) (by decide)]; exact h3.c6) (fun j => by simp only [World.frozen?_setCell]) rfl ⟨h3.ok.nam, h3.ok.syn, h3.ok.few, h3.ok.acts, h3.ok.quota, fun z e => by injection e with e; subst e; exact ⟨by show n.toNat ≤ _; omega, by show cuts.length ≤ _; rw [HVL.out]; exact hl⟩⟩, (Tn.ofBelow H3.out.2).trans (ht.mono (fun q e => .inl e))⟩
    · exact World.cell?_setCell_same _ _ _ (by rw [other_cell _ (by decide), other_cell _ (by decide)]; exact k4)
    · rw [other_cell _ (by decide)]
      exact World.cell?_setCell_same _ _ _ (by rw [other_cell _ (by decide)]; exact k5)

/-- The disk of New. -/
theorem rnew_any (w : World) : Calls Tryz.prog 8 #[] w fun e w' => e = .returned (.pointer (some ⟨w.heap.size, 0, none⟩)) ∧ (∀ F : Nat → Prop, RfAt F w' w.heap.size (.slice none 0 0) Dk.fresh) ∧ Below w.heap.size w w' ∧ w'.heap.size = w.heap.size + 1 := by
  go_enter Tryz.func8, Tryz.ntmps8
  go_wp2
  go_ret
  refine ⟨rfl, fun F => ⟨by simp [go_sem], by simp [go_sem, Dk.fresh], by simp [go_sem, Dk.fresh], by simp [go_sem, Dk.fresh, fzN], ⟨0, by simp [go_sem], fun z e => by cases e⟩, ⟨none, 0, 0, by simp [go_sem], fun z e => by cases e⟩, by simp [go_sem, Dk.fresh], fun j => by simp [go_sem], World.ownsRow_nil _ _ _ _, by simp [Value.ownBlock], Dk.fresh_ok, List.Pairwise.nil⟩, (Below.refl _ _).alloc (Nat.le_refl _) _, by simp⟩
/-- A twin, and the disk it is one of. -/
theorem rtwin_any (h : RfAt F w rb lv R) : Calls Tryz.prog 10 #[.pointer (some ⟨rb, 0, none⟩)] w fun e w' => e = .returned (.pointer (some ⟨w.heap.size, 0, none⟩)) ∧ (∃ lv', (∀ q, lv'.ownBlock = some q → w.heap.size < q) ∧ RfAt F w' w.heap.size lv' R) ∧ Below w.heap.size w w' ∧ w.heap.size < w'.heap.size := by
  obtain ⟨a0, cap0, hlv, _, _⟩ := rf_form h
  obtain ⟨n, hn⟩ : ∃ n, R.m.length = n := ⟨_, rfl⟩
  rw [hn] at hlv
  have hnl : n ≤ 20000 := by rw [← hn]; exact h.ok.few
  subst hlv
  obtain ⟨x4, g4, h4b⟩ := h.c4
  obtain ⟨a5, n5, c5, g5, h5b⟩ := h.c5
  have g0 := h.c0
  have g1 := h.c1
  have g2 := h.c2
  have g3 := h.c3
  have g6 := h.c6
  have hrb := h.ltb
  have H := Lib.hid (And.intro h (And.intro h4b h5b))
  have HN : Hid (([] : Fm).length + R.m.length = n) := by unfold Hid; rw [hn]; simp
  clear h h4b h5b hn
  go_enter Tryz.func10, Tryz.ntmps10
  have hsrc : Hid (∀ W, Below w.heap.size w W → Src eFl W (.slice a0 n cap0) R.m) := fun W hW => Own.src (H.out.1.below hW).row
  obtain ⟨W1, hW1⟩ : ∃ W1, w.alloc (.cells #[.slice a0 n cap0, .bool (!R.on), .int .i64 R.quota, .int .i64 (fzN R.fuse), .int .i64 x4, .slice a5 n5 c5, .int .i64 (R.acts : Int)] 68) = W1 := ⟨_, rfl⟩
  have b1 : Below w.heap.size w W1 := by rw [← hW1]; exact (Below.refl _ _).alloc (Nat.le_refl _) _
  have z1 : W1.heap.size = w.heap.size + 1 := by rw [← hW1]; simp
  have m0 : W1.cell? ⟨w.heap.size, 0, none⟩ = some (.slice a0 n cap0) := by rw [← hW1]; simp [go_sem]
  have m1 : W1.cell? ⟨w.heap.size, 1, none⟩ = some (.bool (!R.on)) := by rw [← hW1]; simp [go_sem]
  have m2 : W1.cell? ⟨w.heap.size, 2, none⟩ = some (.int .i64 R.quota) := by rw [← hW1]; simp [go_sem]
  have m3 : W1.cell? ⟨w.heap.size, 3, none⟩ = some (.int .i64 (fzN R.fuse)) := by rw [← hW1]; simp [go_sem]
  have m4 : W1.cell? ⟨w.heap.size, 4, none⟩ = some (.int .i64 x4) := by rw [← hW1]; simp [go_sem]
  have m5 : W1.cell? ⟨w.heap.size, 5, none⟩ = some (.slice a5 n5 c5) := by rw [← hW1]; simp [go_sem]
  have m6 : W1.cell? ⟨w.heap.size, 6, none⟩ = some (.int .i64 (R.acts : Int)) := by rw [← hW1]; simp [go_sem]
  have mf : ∀ j, W1.frozen? ⟨w.heap.size, j, none⟩ = false := fun j => by rw [← hW1]; simp [go_sem]
  have mg0 := (b1.cell (p := ⟨rb, 0, none⟩) hrb).trans g0
  have HM := Lib.hid (And.intro b1 (And.intro z1 (And.intro m0 (And.intro m1 (And.intro m2 (And.intro m3 (And.intro m4 (And.intro m5 (And.intro m6 mf)))))))))
  clear b1 z1 m1 m2 m3 m4 m5 m6 mf
  go_wp2_with (at_builtin; refine wpl_app eFl rfl _ _ rfl rfl rfl (v := .slice none 0 0) (l := []) (l2 := R.m) (B := W1.heap.size) (World.ownsRow_nil _ _ _ _) (hsrc.out _ HM.out.1) (by rw [HN.out]; omega) (Nat.le_refl _) ?_; rw [HN.out, List.nil_append]; intro a3 cap3 w3 ho3 hb3 _ _; have H3 := Lib.hid (And.intro ho3 hb3); have d0 := (hb3.cell (p := ⟨w.heap.size, 0, none⟩) (by rw [HM.out.2.1]; exact Nat.lt_succ_self _)).trans m0; have df := (hb3.frozen (p := ⟨w.heap.size, 0, none⟩) (by rw [HM.out.2.1]; exact Nat.lt_succ_self _)).trans (HM.out.2.2.2.2.2.2.2.2.2 0); clear ho3 hb3)
  go_ret
  obtain ⟨b1, z1, m0', m1, m2, m3, m4, m5, m6, mf⟩ := HM.out
  have hlt1 : w.heap.size < W1.heap.size := by omega
  have cc : ∀ j v, W1.cell? ⟨w.heap.size, j, none⟩ = some v → w3.cell? ⟨w.heap.size, j, none⟩ = some v := fun j v hj => (H3.out.2.cell (p := ⟨w.heap.size, j, none⟩) hlt1).trans hj
  have hnew : ∀ q, (Value.slice a3 n cap3).ownBlock = some q → w.heap.size < q := fun q hq => by have := (H3.out.1.lt q hq).1; omega
  have hb3 : Below w.heap.size w w3 := b1.trans (H3.out.2.mono (by omega))
  refine ⟨rfl, ⟨.slice a3 n cap3, hnew, ⟨World.cell?_setCell_same _ _ _ (cc 0 _ m0'), ?_, ?_, ?_, ⟨x4, ?_, H.out.2.1⟩, ⟨a5, n5, c5, ?_, fun z hz => ?_⟩, ?_, fun j => ?_, ?_, fun e => ?_, H.out.1.ok, H.out.1.nd⟩⟩, ?_, ?_⟩
  · rw [other_cell _ (by decide)]; exact cc 1 _ m1
  · rw [other_cell _ (by decide)]; exact cc 2 _ m2
  · rw [other_cell _ (by decide)]; exact cc 3 _ m3
  · rw [other_cell _ (by decide)]; exact cc 4 _ m4
  · rw [other_cell _ (by decide)]; exact cc 5 _ m5
  · refine RdC.tn (G := fun q => w.heap.size ≤ q) (H.out.2.2 z hz) ((Tn.ofBelow hb3).trans (Tn.setCell _ _ _ (Nat.le_refl _))) (fun q hq e => ?_)
    omega
  · rw [other_cell _ (by decide)]; exact cc 6 _ m6
  · exact (World.frozen?_setCell _ _ _ _).trans ((H3.out.2.frozen (p := ⟨w.heap.size, j, none⟩) hlt1).trans (mf j))
  · exact (Tn.setCell (F := fun q => q = w.heap.size) w3 ⟨w.heap.size, 0, none⟩ _ rfl).row (row_mono H3.out.1 (Nat.zero_le _)) (fun q hq e => by have := hnew q hq; omega)
  · have := hnew _ e; omega
  · exact hb3.setCell (Nat.le_refl _) _
  · have := H3.out.2.size
    simp
    omega
end Go.Proofs.YtceamkcaokdgaaaGreatDoor
