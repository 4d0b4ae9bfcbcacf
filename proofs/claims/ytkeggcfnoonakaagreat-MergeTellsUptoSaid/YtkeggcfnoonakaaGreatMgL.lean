
/-
  Merge: the walk of the reference's Group.
-/
import Derived.Test.YtkeggcfnoonakaaGreatMgK
import Derived.Laws.Pointers
set_option linter.unusedSimpArgs false
set_option linter.unusedVariables false
namespace Go.Proofs.YtkeggcfnoonakaaGreat
open Go.RowKit

set_option maxRecDepth 100000 in
set_option maxHeartbeats 4000000 in
theorem refgroup_any {w : World} {a : Option Addr} {c : Nat} {l : List KV} (hd : ByteArray → ByteArray) (h : RdP w a c l) (hl : l.length ≤ 100000)
    (hh : ∀ p ∈ l, ∀ w', Below w.heap.size w w' → Calls Tryz.prog 25 #[.string p.1] w' fun e w'' => e = .returned (.string (hd p.1)) ∧ w'' = w') :
    Calls Tryz.prog 15 #[.slice a l.length c] w fun e w' => ∃ vo S, e = .returned vo ∧ Lst eKV eSl w' w.heap.size vo S ∧ S.map (·.2) = grp hd l ∧ Below w.heap.size w w' := by
  obtain ⟨n, hn⟩ : ∃ n, l.length = n := ⟨_, rfl⟩
  rw [hn] at hl ⊢
  have H := Lib.hid (And.intro h (And.intro hh hn))
  clear h hh hn
  go_enter Tryz.func15, Tryz.ntmps15
  go_wp2
  go_loopw [3, 4] (fun vo y wr => ∃ (i : Nat) (S : List (Sl × List KV)), i ≤ n ∧ y = .int .i64 (i : Int) ∧ Lst eKV eSl wr w.heap.size vo S ∧ S.map (·.2) = grp hd (l.take i) ∧ S.length ≤ i ∧ Below w.heap.size w wr) (fun _ y _ => n - (intOf y).toNat)
  case atStart => exact ⟨0, [], by omega, rfl, Lst.nil _ _, rfl, by simp, Below.refl _ _⟩
  case round =>
    obtain ⟨i, S, hi, rfl, hS, hg, hsl, hbel⟩ := hrel
    have hwz := hbel.size
    by_cases hlt : i < n
    · have hil : i < l.length := by rw [H.out.2.2]; exact hlt
      obtain ⟨b, off, rfl, hc⟩ := H.out.1.2.2.resolve_left (fun e => by rw [e] at hil; simp at hil)
      obtain ⟨c0, c1⟩ := hc i hil
      have d0 := (hbel.cell (p := ⟨b, off + i * 2, none⟩) (World.block_lt_of_cell? _ _ c0)).trans c0
      have d1 := (hbel.cell (p := ⟨b, off + i * 2 + 1, none⟩) (World.block_lt_of_cell? _ _ c1)).trans c1
      have hbw : b < wr.heap.size := World.block_lt_of_cell? _ _ d0
      have htk : l.take (i + 1) = l.take i ++ [l[i]] := List.take_succ_eq_append_getElem hil
      have hhd := H.out.2.1 _ (List.getElem_mem hil)
      obtain ⟨p, hp⟩ : ∃ p, l[i] = p := ⟨_, rfl⟩
      rw [hp] at d0 d1 htk hhd
      obtain ⟨kp, vp⟩ := p
      simp only at d0 d1 hhd
      obtain ⟨w4, hw4⟩ : ∃ w4, w4 = wr := ⟨_, rfl⟩
      have p0 : w4.cell? ⟨b, off + i * 2, none⟩ = some (.string kp) := by rw [hw4]; exact d0
      have p1 : w4.cell? ⟨b, off + i * 2 + 1, none⟩ = some (.string vp) := by rw [hw4]; exact d1
      have hb4 : Below wr.heap.size wr w4 := by rw [hw4]; exact Below.refl _ _
      have hz4 : w4.heap.size = wr.heap.size := by rw [hw4]
      have hbW : b < w.heap.size := World.block_lt_of_cell? _ _ c0
      have HP := Lib.hid (And.intro hp (And.intro htk (And.intro hhd (And.intro hc (And.intro hb4 (And.intro hz4 hbW))))))
      have HS := Lib.hid (And.intro hS (And.intro hg (And.intro hsl hbel)))
      clear hp htk hhd c0 c1 hc hb4 hz4 hS hg hbel hbW
      have z0 : (i : Int) < (n : Int) := by omega
      go_wp2_with fail
      rw [← hw4]
      clear hw4 d0 d1
      by_cases h0 : i = 0
      · have z1 : ¬ (0 < i) := by omega
        have hadd : grp hd (l.take (i + 1)) = grp hd (l.take i) ++ [[(kp, vp)]] := by
          rw [HP.out.2.1, grp_snoc]
          subst h0; rfl
        have HADD := Lib.hid hadd
        clear hadd h0
        go_quiet (fail)
        obtain ⟨va, vc, rfl⟩ := HS.out.1.form
        have HLE : Hid ((S.map (·.1)).length + ([(⟨some ⟨w4.heap.size, 0, none⟩, 1, 1⟩ : Sl)]).length ≤ 100000000) := by unfold Hid; simp; omega
        have hz5 := HP.out.2.2.2.2.2.1
        have hzw := HS.out.2.2.2.size
        obtain ⟨w5, hw5⟩ : ∃ w5, w5 = ((w4.drewN nq).alloc (.cells #[.string kp, .string vp] 54)).alloc (.cells #[.slice (some ⟨w4.heap.size, 0, none⟩) 1 1] 23) := ⟨_, rfl⟩
        have hb5 : Below wr.heap.size wr w5 := by
          rw [hw5]
          exact ((HP.out.2.2.2.2.1.trans ((tn_drewN (F := fun _ => False) w4 nq).below (by omega) (fun _ e => e.elim))).alloc (by simp; omega) _).alloc (by simp; omega) _
        have hs5 : Lst eKV eSl w5 w.heap.size (.slice va S.length vc) S := HS.out.1.below hb5
        have ho5 : Own eKV w5 w.heap.size (Sl.val ⟨some ⟨w4.heap.size, 0, none⟩, 1, 1⟩) [(kp, vp)] := by
          rw [hw5]
          exact (own_new eKV (w4.drewN nq) (kp, vp) #[.string kp, .string vp] rfl (by simp; omega)).alloc _
        have hsrc5 : Src eSl w5 (.slice (some ⟨w4.heap.size + 1, 0, none⟩) 1 1) [(⟨some ⟨w4.heap.size, 0, none⟩, 1, 1⟩ : Sl)] := by
          rw [hw5]
          have := src_one (e := eSl) ((w4.drewN nq).alloc (.cells #[.string kp, .string vp] 54)) (⟨some ⟨w4.heap.size, 0, none⟩, 1, 1⟩ : Sl) #[.slice (some ⟨w4.heap.size, 0, none⟩) 1 1] 23 rfl 1
          simpa using this
        have hz6 : w.heap.size ≤ w5.heap.size := Nat.le_trans hzw hb5.size
        have H5 := Lib.hid (And.intro hs5 (And.intro ho5 (And.intro hsrc5 (And.intro hb5 hw5))))
        clear hb5 hs5 ho5 hsrc5 hz5 hzw
        go_wp2_with (at_builtin; rw [← hw5]; clear hw5; go_loud (refine wpl_app2 eSl rfl (.tmp 46) (.tmp 52) rfl rfl rfl (v := .slice va S.length vc) (l := S.map (·.1)) (l2 := [(⟨some ⟨w4.heap.size, 0, none⟩, 1, 1⟩ : Sl)]) H5.out.1.outer H5.out.2.2.1 HLE.out hz6 ?_); rw [List.length_map]; intro a6 cap6 w6 ha6; have H6 := Lib.hid ha6; clear ha6)
        go_roundw
        case rel =>
          have hls := H5.out.1.add H5.out.2.1 (fun q hq hf => by
            have h1 := HS.out.1.lt hf
            have h2 : some w4.heap.size = some q := hq
            injection h2 with h2
            have := HP.out.2.2.2.2.2.1
            omega) H6.out
          have htn := H6.out.tn
          refine ⟨i + 1, S ++ [(⟨some ⟨w4.heap.size, 0, none⟩, 1, 1⟩, [(kp, vp)])], by omega, by go_num, hls, ?_, by simp; omega, ?_⟩
          · rw [HADD.out, List.map_append, HS.out.2.1]
            rfl
          · exact (HS.out.2.2.2.trans (H5.out.2.2.2.1.mono hwz)).trans (htn.below hz6 (fun q hq => (H5.out.1.outer.lt q hq).1))
        case measure => simp [intOf]; omega
      · obtain ⟨j, rfl⟩ : ∃ j, i = j + 1 := ⟨i - 1, by omega⟩
        have hjl : j < l.length := by omega
        have e0 := (HP.out.2.2.2.1 j hjl).1
        have q0 := (HS.out.2.2.2.cell (p := ⟨b, off + j * 2, none⟩) (World.block_lt_of_cell? _ _ e0)).trans e0
        have q4 := (HP.out.2.2.2.2.1.cell (p := ⟨b, off + j * 2, none⟩) hbw).trans q0
        have hhq := H.out.2.1 _ (List.getElem_mem hjl)
        obtain ⟨q, hq⟩ : ∃ q, l[j] = q := ⟨_, rfl⟩
        rw [hq] at q4 hhq
        obtain ⟨kq, vq⟩ := q
        simp only at q4 hhq
        have hbw4 := HS.out.2.2.2.trans (HP.out.2.2.2.2.1.mono hwz)
        have hc1 : ∀ d, Calls Tryz.prog 25 #[.string kq] (w4.drewN d) fun e w'' => e = .returned (.string (hd kq)) ∧ w'' = w4.drewN d := fun d => hhq _ (hbw4.trans ((tn_drewN (F := fun _ => False) w4 d).below (by have := HP.out.2.2.2.2.2.1; omega) (fun _ e => e.elim)))
        have hc2 : ∀ d, Calls Tryz.prog 25 #[.string kp] (w4.drewN d) fun e w'' => e = .returned (.string (hd kp)) ∧ w'' = w4.drewN d := fun d => HP.out.2.2.1 _ (hbw4.trans ((tn_drewN (F := fun _ => False) w4 d).below (by have := HP.out.2.2.2.2.2.1; omega) (fun _ e => e.elim)))
        obtain ⟨uq, huq⟩ : ∃ u, hd kq = u := ⟨_, rfl⟩
        obtain ⟨up, hup⟩ : ∃ u, hd kp = u := ⟨_, rfl⟩
        rw [huq] at hc1
        rw [hup] at hc2
        have HU := Lib.hid (And.intro huq (And.intro hup hq))
        have z1 : (0 : Int) < (j : Int) + 1 := by omega
        have z2 : (j : Int) < (n : Int) := by omega
        have z3 : IntKind.i64.wrap (j : Int) = (j : Int) := IntWalk.i64_in _ (by omega)
        have z4 : (j : Int) + 1 < (n : Int) := by omega
        have z5 : (0 : Int) ≤ (j : Int) + 1 := by omega
        have z6 : ((j : Int) + 1).toNat = j + 1 := by omega
        clear e0 q0 hhq hq huq hup hbw4 h0
        by_cases hu : uq = up
        · subst hu
          have se := str_eq uq
          go_quiet ((go_at_call 25; first | (with_reducible exact Calls.quiet_of_same (hc1 _)) | (with_reducible exact Calls.quiet_of_same (hc2 _))))
          clear z3 hc1 hc2 se
          go_wp2_with fail
          obtain ⟨G, gg, hgg⟩ := grp_last (hd := hd) (l.take j) (kq, vq)
          have htj : l.take (j + 1) = l.take j ++ [(kq, vq)] := by rw [List.take_succ_eq_append_getElem hjl, HU.out.2.2]
          have hmap := HS.out.2.1
          rw [htj, hgg] at hmap
          obtain ⟨S', sl, rfl⟩ : ∃ S' sl, S = S' ++ [sl] := by
            rcases List.eq_nil_or_concat S with h | ⟨x, y, h⟩
            · rw [h] at hmap; simp at hmap
            · exact ⟨x, y, by rw [h, List.concat_eq_append]⟩
          obtain ⟨⟨sa, sn, sc⟩, gl⟩ := sl
          rw [List.map_append] at hmap
          obtain ⟨hm1, hm2⟩ := List.append_inj' hmap rfl
          simp only [List.map_cons, List.map_nil, List.cons.injEq, and_true] at hm2
          subst hm2
          have hadd : grp hd (l.take (j + 1 + 1)) = G ++ [gg ++ [(kq, vq)] ++ [(kp, vp)]] := by
            rw [HP.out.2.1, grp_snoc, htj, hgg, addG_last, if_pos (by rw [HU.out.1, HU.out.2.1])]
          obtain ⟨og, ocap, hvo, hcell⟩ := HS.out.1.read (i := S'.length) (by simp)
          have hlastS : (S' ++ [((⟨sa, sn, sc⟩ : Sl), gg ++ [(kq, vq)])])[S'.length]'(by simp) = (⟨sa, sn, sc⟩, gg ++ [(kq, vq)]) := by simp
          rw [hlastS] at hcell
          have hSl : (S' ++ [((⟨sa, sn, sc⟩ : Sl), gg ++ [(kq, vq)])]).length = S'.length + 1 := by simp
          rw [hSl] at hvo
          subst hvo
          have hsn : sn = (gg ++ [(kq, vq)]).length := by
            have := HS.out.1.sl (i := S'.length) (by simp)
            rw [hlastS] at this
            exact this
          have hgB := (HS.out.1.outer.lt og rfl).2
          have hfz : wr.frozen? ⟨og, S'.length, none⟩ = false := by
            have h1 := HS.out.1.outer
            obtain ⟨_, h2⟩ := h1
            rcases h2 with ⟨h2, _⟩ | ⟨g', cap', cur, h2, _, hh, _⟩
            · simp at h2
            · simp only [Value.slice.injEq, Option.some.injEq, Addr.mk.injEq, and_true] at h2
              obtain ⟨rfl, _⟩ := h2
              simp [World.frozen?, hh]
          obtain ⟨w5, hw5⟩ : ∃ w5, w5 = w4.drewN nq := ⟨_, rfl⟩
          rw [← hw5]
          have hb5 : Below wr.heap.size wr w5 := by rw [hw5]; exact HP.out.2.2.2.2.1.trans ((tn_drewN (F := fun _ => False) w4 nq).below (by have := HP.out.2.2.2.2.2.1; omega) (fun _ e => e.elim))
          have hz5 : w5.heap.size = wr.heap.size := by rw [hw5]; exact HP.out.2.2.2.2.2.1
          have u0 : w5.cell? ⟨og, S'.length, none⟩ = some (.slice sa sn sc) := (hb5.cell (p := ⟨og, S'.length, none⟩) hgB).trans hcell
          have uf : w5.frozen? ⟨og, S'.length, none⟩ = false := (hb5.frozen (p := ⟨og, S'.length, none⟩) hgB).trans hfz
          have u1 : w5.cell? ⟨b, off + (j + 1) * 2, none⟩ = some (.string kp) := by rw [hw5]; exact p0
          have u2 : w5.cell? ⟨b, off + (j + 1) * 2 + 1, none⟩ = some (.string vp) := by rw [hw5]; exact p1
          obtain ⟨m, hm⟩ : ∃ m, S'.length = m := ⟨_, rfl⟩
          rw [hSl, hm] at hsl
          have HB := Lib.hid (And.intro hadd (And.intro hm1 (And.intro hsn (And.intro hb5 (And.intro hz5 hm)))))
          rw [hm] at u0 uf
          have hm5 : m ≤ 100000 := by omega
          have y0 : (0 : Int) ≤ (m : Int) := by omega
          have y3 : IntKind.i64.wrap (m : Int) = (m : Int) := IntWalk.i64_in _ (by omega)
          have y4 : (m : Int) < (m : Int) + 1 := by omega
          have hS5 := HS.out.1.below hb5
          have HS5 := Lib.hid hS5
          have hwz5 : w.heap.size ≤ w5.heap.size := by omega
          rw [hm]
          clear hw5 p0 p1 hb5 hz5 hsn hadd hm1 hmap hcell hlastS hSl hgg htj hfz hS5 hm q4 hm5
          refine wp_region_K (fun w' => w'.cell? ⟨og, m, none⟩ = some (.slice sa sn sc) ∧ w'.cell? ⟨b, off + (j + 1) * 2, none⟩ = some (.string kp) ∧ w'.cell? ⟨b, off + (j + 1) * 2 + 1, none⟩ = some (.string vp)) 17 18 (by kernel_rfl) (by kernel_rfl) ⟨u0, u1, u2⟩ (fun hH => ?_)
          refine wpAnyK_take (i := 0) [17] (v := ?v1) rfl (by kernel_rfl) (by kernel_rfl) (by kernel_rfl) (by kernel_rfl) (fun _ _ _ h => h) (Or.inl ⟨by rfl, ?hy1⟩) hH ?rest1
          case hy1 => (intro w hSw; (try dsimp only at hSw); go_simp; with_reducible rfl)
          try simp only [Act.put, List.setIfInBounds_toArray, List.set_cons_zero, List.set_cons_succ]
          refine wpAnyK_take (i := 1) [17] (v := ?v2) rfl (by kernel_rfl) (by kernel_rfl) (by kernel_rfl) (by kernel_rfl) (fun _ _ _ h => h) (Or.inl ⟨by rfl, ?hy2⟩) hH ?rest2
          case hy2 => (intro w hSw; (try dsimp only at hSw); go_simp; with_reducible rfl)
          try simp only [Act.put, List.setIfInBounds_toArray, List.set_cons_zero, List.set_cons_succ]
          refine wpAnyK_take (i := 2) [17] (v := ?v3) rfl (by kernel_rfl) (by kernel_rfl) (by kernel_rfl) (by kernel_rfl) (fun _ _ _ h => h) (Or.inl ⟨by rfl, ?hy3⟩) hH ?rest3
          case hy3 => (intro w hSw; (try dsimp only at hSw); go_simp; with_reducible rfl)
          try simp only [Act.put, List.setIfInBounds_toArray, List.set_cons_zero, List.set_cons_succ]
          refine wpAnyK_take (i := 3) [17] (v := ?v4) rfl (by kernel_rfl) (by kernel_rfl) (by kernel_rfl) (by kernel_rfl) (fun _ _ _ h => h) (Or.inl ⟨by rfl, ?hy4⟩) hH ?rest4
          case hy4 => (intro w hSw; (try dsimp only at hSw); go_simp; with_reducible rfl)
          try simp only [Act.put, List.setIfInBounds_toArray, List.set_cons_zero, List.set_cons_succ]
          refine wpAnyK_take (i := 4) [17] (v := ?v5) rfl (by kernel_rfl) (by kernel_rfl) (by kernel_rfl) (by kernel_rfl) (fun _ _ _ h => h) (Or.inl ⟨by rfl, ?hy5⟩) hH ?rest5
          case hy5 => (intro w hSw; (try dsimp only at hSw); go_simp; with_reducible rfl)
          try simp only [Act.put, List.setIfInBounds_toArray, List.set_cons_zero, List.set_cons_succ]
          refine wpAnyK_take (i := 5) [17] (v := ?v6) rfl (by kernel_rfl) (by kernel_rfl) (by kernel_rfl) (by kernel_rfl) (fun _ _ _ h => h) (Or.inl ⟨by rfl, ?hy6⟩) hH ?rest6
          case hy6 => (intro w hSw; (try dsimp only at hSw); go_simp; with_reducible rfl)
          try simp only [Act.put, List.setIfInBounds_toArray, List.set_cons_zero, List.set_cons_succ]
          refine wpAnyK_take (i := 6) [17] (v := ?v7) rfl (by kernel_rfl) (by kernel_rfl) (by kernel_rfl) (by kernel_rfl) (fun _ _ _ h => h) (Or.inl ⟨by rfl, ?hy7⟩) hH ?rest7
          case hy7 => (intro w hSw; (try dsimp only at hSw); go_simp; with_reducible rfl)
          try simp only [Act.put, List.setIfInBounds_toArray, List.set_cons_zero, List.set_cons_succ]
          refine wpAnyK_take (i := 7) [17] (v := ?v8) rfl (by kernel_rfl) (by kernel_rfl) (by kernel_rfl) (by kernel_rfl) (fun _ _ _ h => h) (Or.inl ⟨by rfl, ?hy8⟩) hH ?rest8
          case hy8 => (intro w hSw; (try dsimp only at hSw); go_simp; with_reducible rfl)
          try simp only [Act.put, List.setIfInBounds_toArray, List.set_cons_zero, List.set_cons_succ]
          refine wpAnyK_take (i := 8) [17] (v := ?v9) rfl (by kernel_rfl) (by kernel_rfl) (by kernel_rfl) (by kernel_rfl) (fun _ _ _ h => h) (Or.inl ⟨by rfl, ?hy9⟩) hH ?rest9
          case hy9 => (intro w hSw; (try dsimp only at hSw); go_simp; with_reducible rfl)
          try simp only [Act.put, List.setIfInBounds_toArray, List.set_cons_zero, List.set_cons_succ]
          refine wpAnyK_take (i := 9) [17] (v := ?v10) rfl (by kernel_rfl) (by kernel_rfl) (by kernel_rfl) (by kernel_rfl) (fun _ _ _ h => h) (Or.inl ⟨by rfl, ?hy10⟩) hH ?rest10
          case hy10 => (intro w hSw; (try dsimp only at hSw); go_simp; with_reducible rfl)
          try simp only [Act.put, List.setIfInBounds_toArray, List.set_cons_zero, List.set_cons_succ]
          refine wpAnyK_take (i := 10) [17] (v := ?v11) rfl (by kernel_rfl) (by kernel_rfl) (by kernel_rfl) (by kernel_rfl) (fun _ _ _ h => h) (Or.inl ⟨by rfl, ?hy11⟩) hH ?rest11
          case hy11 => (intro w hSw; (try dsimp only at hSw); go_simp; with_reducible rfl)
          try simp only [Act.put, List.setIfInBounds_toArray, List.set_cons_zero, List.set_cons_succ]
          refine wpAnyK_take (i := 11) [17] (v := ?v12) rfl (by kernel_rfl) (by kernel_rfl) (by kernel_rfl) (by kernel_rfl) (fun _ _ _ h => h) (Or.inl ⟨by rfl, ?hy12⟩) hH ?rest12
          case hy12 => (intro w hSw; (try dsimp only at hSw); go_simp; with_reducible rfl)
          try simp only [Act.put, List.setIfInBounds_toArray, List.set_cons_zero, List.set_cons_succ]
          refine wpAnyK_take (i := 12) [17] (v := ?v13) rfl (by kernel_rfl) (by kernel_rfl) (by kernel_rfl) (by kernel_rfl) (fun _ _ _ h => h) (Or.inl ⟨by rfl, ?hy13⟩) hH ?rest13
          case hy13 => (intro w hSw; (try dsimp only at hSw); go_simp; with_reducible rfl)
          try simp only [Act.put, List.setIfInBounds_toArray, List.set_cons_zero, List.set_cons_succ]
          refine wpAnyK_take (i := 13) [17] (v := ?v14) rfl (by kernel_rfl) (by kernel_rfl) (by kernel_rfl) (by kernel_rfl) (fun _ _ _ h => h) (Or.inl ⟨by rfl, ?hy14⟩) hH ?rest14
          case hy14 => (intro w hSw; (try dsimp only at hSw); go_simp; with_reducible rfl)
          try simp only [Act.put, List.setIfInBounds_toArray, List.set_cons_zero, List.set_cons_succ]
          refine wpAnyK_one (i := 14) (by kernel_rfl) rfl (fun K hK => ?_) (by kernel_rfl)
          go_simp
          obtain ⟨w6, hw6⟩ : ∃ w6, w6 = (w5.alloc (.cells #[.string kp, .string vp] 54)).drew := ⟨_, rfl⟩
          rw [← hw6]
          have hb6 : Below w5.heap.size w5 w6 := by rw [hw6]; exact ((Below.refl _ _).alloc (Nat.le_refl _) _).drew
          have hsrc6 : Src eKV w6 (.slice (some ⟨w5.heap.size, 0, none⟩) 1 1) [(kp, vp)] := by rw [hw6]; exact src_one (e := eKV) w5 (kp, vp) #[.string kp, .string vp] 54 rfl 1
          have x0 := (hb6.cell (p := ⟨og, m, none⟩) (World.block_lt_of_cell? _ _ u0)).trans u0
          have xf := (hb6.frozen (p := ⟨og, m, none⟩) (World.block_lt_of_cell? _ _ u0)).trans uf
          have x1 := (hb6.cell (p := ⟨b, off + (j + 1) * 2, none⟩) (World.block_lt_of_cell? _ _ u1)).trans u1
          have x2 := (hb6.cell (p := ⟨b, off + (j + 1) * 2 + 1, none⟩) (World.block_lt_of_cell? _ _ u2)).trans u2
          have hl6 := HS5.out.below hb6
          have hlastS : (S' ++ [((⟨sa, sn, sc⟩ : Sl), gg ++ [(kq, vq)])])[S'.length]'(by simp) = (⟨sa, sn, sc⟩, gg ++ [(kq, vq)]) := by simp
          have hown6 := hl6.each S'.length (by simp)
          rw [hlastS] at hown6
          have hsg : (Sl.val ⟨sa, sn, sc⟩).ownBlock ≠ some og := by
            have := hl6.sepO S'.length (by simp) og rfl
            rw [hlastS] at this
            exact this
          have hsp : (Sl.val ⟨sa, sn, sc⟩).ownBlock ≠ some b := fun e => by
            have h1 := HS.out.1.each S'.length (by simp)
            rw [hlastS] at h1
            have := (h1.lt _ e).1
            have := HP.out.2.2.2.2.2.2
            omega
          have hz6 := hb6.size
          have H6 := Lib.hid (And.intro hl6 (And.intro hown6 (And.intro hsg (And.intro hsp (And.intro hsrc6 hb6)))))
          have hln : Hid ((gg ++ [(kq, vq)]).length + ([(kp, vp)] : List KV).length ≤ 100000000) := by
            unfold Hid
            have h1 := len_flat (g := gg ++ [(kq, vq)]) (G := grp hd (l.take (j + 1))) (by rw [← HS.out.2.1]; simp)
            rw [grp_flat, List.length_take] at h1
            have h2 : ([(kp, vp)] : List KV).length = 1 := rfl
            omega
          clear hw6 hb6 hsrc6 hl6 hlastS hown6 hsg hsp u0 u1 u2 uf
          refine hK.out _ _ ⟨x0, x1, x2⟩ (fun hH => ?_)
          clear hK K
          try simp only [Act.put, List.setIfInBounds_toArray, List.set_cons_zero, List.set_cons_succ]
          refine wpAnyK_one (i := 15) (by kernel_rfl) rfl (fun K hK => ?_) (by kernel_rfl)
          refine step_app2 eKV rfl (.tmp 38) (.tmp 43) rfl (v := Sl.val ⟨sa, sn, sc⟩) (l := gg ++ [(kq, vq)]) (l2 := [(kp, vp)]) rfl rfl H6.out.2.1 H6.out.2.2.2.2.1 hln.out (by omega) ?_
          intro a7 cap7 w7 ha7
          have q0 := ha7.tn.cell x0 H6.out.2.2.1
          have qf := (ha7.tn.frozen (p := ⟨og, m, none⟩) (World.block_lt_of_cell? _ _ x0) H6.out.2.2.1).trans xf
          have q1 := ha7.tn.cell x1 H6.out.2.2.2.1
          have q2 := ha7.tn.cell x2 H6.out.2.2.2.1
          have H7 := Lib.hid ha7
          clear ha7
          refine hK.out _ _ ⟨q0, q1, q2⟩ (fun hH => ?_)
          clear hK K x0 x1 x2 xf
          try simp only [Act.put, List.setIfInBounds_toArray, List.set_cons_zero, List.set_cons_succ]
          refine wpAnyK_take (i := 16) [17] (v := ?v15) rfl (by kernel_rfl) (by kernel_rfl) (by kernel_rfl) (by kernel_rfl) (fun _ _ _ h => h) (Or.inl ⟨by rfl, ?hy15⟩) hH ?rest15
          case hy15 => (intro w hSw; (try dsimp only at hSw); go_simp; with_reducible rfl)
          try simp only [Act.put, List.setIfInBounds_toArray, List.set_cons_zero, List.set_cons_succ]
          refine wpAnyK_last (by kernel_rfl) rfl (fun K hK => ?_) (by kernel_rfl)
          go_simp
          refine hK.out _ _ (wpAnyK_done (by kernel_rfl) ?_ _)
          clear hK K hH y3
          go_wp2_with fail
          go_roundw
          case rel =>
            have hlen : (gg ++ [(kq, vq)]).length + ([(kp, vp)] : List KV).length = gg.length + 1 + 1 := by simp
            have hap := H7.out
            rw [hlen] at hap
            have hrg := Lst.regrow (s' := ⟨a7, gg.length + 1 + 1, cap7⟩) H6.out.1 hap
            rw [HB.out.2.2.2.2.2] at hrg
            refine ⟨j + 1 + 1, S' ++ [((⟨a7, gg.length + 1 + 1, cap7⟩ : Sl), gg ++ [(kq, vq)] ++ [(kp, vp)])], by omega, by go_num, hrg, ?_, by simp; have := HB.out.2.2.2.2.2; omega, ?_⟩
            · rw [HB.out.1, List.map_append, HB.out.2.1]
              rfl
            · have t1 : Below w.heap.size w6 w7 := hap.tn.below (by omega) (fun q hq => (H6.out.2.1.lt q hq).1)
              have t2 : Below w.heap.size w w6 := (HS.out.2.2.2.trans (HB.out.2.2.2.1.mono hwz)).trans (H6.out.2.2.2.2.2.mono hwz5)
              exact (t2.trans t1).setCell (by show w.heap.size ≤ og; exact (H6.out.1.outer.lt og rfl).1) _
          case measure => simp [intOf]; omega
        · have se := str_ne hu
          go_quiet ((go_at_call 25; first | (with_reducible exact Calls.quiet_of_same (hc1 _)) | (with_reducible exact Calls.quiet_of_same (hc2 _))))
          clear z3 se hc1 hc2
          have hadd : grp hd (l.take ((j + 1) + 1)) = grp hd (l.take (j + 1)) ++ [[(kp, vp)]] := by
            rw [HP.out.2.1, grp_snoc]
            obtain ⟨G, gg, hgg⟩ := grp_last (hd := hd) (l.take j) (kq, vq)
            have htj : l.take (j + 1) = l.take j ++ [(kq, vq)] := by rw [List.take_succ_eq_append_getElem hjl, HU.out.2.2]
            rw [htj, hgg, addG_last, if_neg (by rw [HU.out.1, HU.out.2.1]; exact hu)]
          have HADD := Lib.hid hadd
          clear hadd
          obtain ⟨va, vc, rfl⟩ := HS.out.1.form
          have HLE : Hid ((S.map (·.1)).length + ([(⟨some ⟨w4.heap.size, 0, none⟩, 1, 1⟩ : Sl)]).length ≤ 100000000) := by unfold Hid; simp; omega
          have hz5 := HP.out.2.2.2.2.2.1
          have hzw := HS.out.2.2.2.size
          obtain ⟨w5, hw5⟩ : ∃ w5, w5 = ((w4.drewN nq).alloc (.cells #[.string kp, .string vp] 54)).alloc (.cells #[.slice (some ⟨w4.heap.size, 0, none⟩) 1 1] 23) := ⟨_, rfl⟩
          have hb5 : Below wr.heap.size wr w5 := by
            rw [hw5]
            exact ((HP.out.2.2.2.2.1.trans ((tn_drewN (F := fun _ => False) w4 nq).below (by omega) (fun _ e => e.elim))).alloc (by simp; omega) _).alloc (by simp; omega) _
          have hs5 : Lst eKV eSl w5 w.heap.size (.slice va S.length vc) S := HS.out.1.below hb5
          have ho5 : Own eKV w5 w.heap.size (Sl.val ⟨some ⟨w4.heap.size, 0, none⟩, 1, 1⟩) [(kp, vp)] := by
            rw [hw5]
            exact (own_new eKV (w4.drewN nq) (kp, vp) #[.string kp, .string vp] rfl (by simp; omega)).alloc _
          have hsrc5 : Src eSl w5 (.slice (some ⟨w4.heap.size + 1, 0, none⟩) 1 1) [(⟨some ⟨w4.heap.size, 0, none⟩, 1, 1⟩ : Sl)] := by
            rw [hw5]
            have := src_one (e := eSl) ((w4.drewN nq).alloc (.cells #[.string kp, .string vp] 54)) (⟨some ⟨w4.heap.size, 0, none⟩, 1, 1⟩ : Sl) #[.slice (some ⟨w4.heap.size, 0, none⟩) 1 1] 23 rfl 1
            simpa using this
          have hz6 : w.heap.size ≤ w5.heap.size := Nat.le_trans hzw hb5.size
          have H5 := Lib.hid (And.intro hs5 (And.intro ho5 (And.intro hsrc5 (And.intro hb5 hw5))))
          clear hb5 hs5 ho5 hsrc5 hz5 hzw
          go_wp2_with (at_builtin; rw [← hw5]; clear hw5; go_loud (refine wpl_app2 eSl rfl (.tmp 46) (.tmp 52) rfl rfl rfl (v := .slice va S.length vc) (l := S.map (·.1)) (l2 := [(⟨some ⟨w4.heap.size, 0, none⟩, 1, 1⟩ : Sl)]) H5.out.1.outer H5.out.2.2.1 HLE.out hz6 ?_); rw [List.length_map]; intro a6 cap6 w6 ha6; have H6 := Lib.hid ha6; clear ha6)
          go_roundw
          case rel =>
            have hls := H5.out.1.add H5.out.2.1 (fun q hq hf => by
              have h1 := HS.out.1.lt hf
              have h2 : some w4.heap.size = some q := hq
              injection h2 with h2
              have := HP.out.2.2.2.2.2.1
              omega) H6.out
            have htn := H6.out.tn
            refine ⟨(j + 1) + 1, S ++ [(⟨some ⟨w4.heap.size, 0, none⟩, 1, 1⟩, [(kp, vp)])], by omega, by go_num, hls, ?_, by simp; omega, ?_⟩
            · rw [HADD.out, List.map_append, HS.out.2.1]
              rfl
            · exact (HS.out.2.2.2.trans (H5.out.2.2.2.1.mono hwz)).trans (htn.below hz6 (fun q hq => (H5.out.1.outer.lt q hq).1))
          case measure => simp [intOf]; omega
    · obtain rfl : i = n := by omega
      have hfull : l.take i = l := by rw [← H.out.2.2]; exact List.take_length
      rw [hfull] at hg
      have HS := Lib.hid (And.intro hS (And.intro hg hbel))
      clear hS hg hbel hfull
      go_wp2_with fail
      go_ret
      exact ⟨_, S, rfl, HS.out.1, HS.out.2.1, HS.out.2.2⟩
end Go.Proofs.YtkeggcfnoonakaaGreat
