import Derived.Test.YtceamkcaokdgaaaGreatDoorDm4
import Derived.Test.YtceamkcaokdgaaaGreatDoorGen
import Derived.Test.YtceamkcaokdgaaaGreatDoorShelf
import Derived.WalkSpells
set_option linter.unusedSimpArgs false
set_option linter.unusedVariables false
/-
  Disk: what acts do to the files: Append, Sync, Rename, Remove.
-/
namespace Go.Proofs.YtceamkcaokdgaaaGreatDoor
open Go.RowKit
variable {F G : Nat → Prop} {w w' : World} {db mb : Nat} {D D' : Dk}

theorem set_ok (h : D.Ok) {s : ByteArray} {f : Fl} (hg : (getL D.m s).isSome = true) (hs : s.size ≤ 64) (hf : f.syn ≤ f.data.size ∧ f.data.size ≤ 1048576) : ({ D with m := setL D.m s f } : Dk).Ok :=
  h.set hs hf (Nat.le_trans (Nat.le_of_eq (setL_length.2 hg)) h.few)
/-- Fewer blocks are spoken of. -/
theorem DkAt.less (h : DkAt G w db mb D) (hF : ∀ q, F q → G q) (hd : F db) (hm : F mb) : DkAt F w db mb D := by
  obtain ⟨p, hp, hz⟩ := h.c3
  refine ⟨h.c0, h.c1, h.c2, ⟨p, hp, ?_⟩, h.c4, h.m, h.fz, h.ok, h.ne, hd, hm, fun q hq => h.lt q (hF q hq)⟩
  cases hzz : D.fuse with
  | none => rw [hzz] at hz; exact hz
  | some z =>
    rw [hzz] at hz
    obtain ⟨fb, v, e, hf, hlt, c0, c1, c2, a, c, hx, hr⟩ := hz
    refine ⟨fb, v, e, fun hg => hf (hF _ hg), hlt, c0, c1, c2, a, c, hx, hr.imp id ?_⟩
    rintro ⟨b, off, ha, hbf, hbl, hc⟩
    exact ⟨b, off, ha, fun hg => hbf (hF _ hg), hbl, hc⟩

set_option maxRecDepth 100000 in
set_option maxHeartbeats 1000000 in
theorem append1_does {bF bA bD bN : Nat} {s : ByteArray} {fd : ByteArray} {fs : Nat} {data : ByteArray} (hD : w.cell? ⟨bD, 0, none⟩ = some (.pointer (some ⟨db, 0, none⟩))) (hN : w.cell? ⟨bN, 0, none⟩ = some (.string s))
    (hF0 : w.cell? ⟨bF, 0, none⟩ = some (.string fd)) (hF1 : w.cell? ⟨bF, 1, none⟩ = some (.int .i64 (fs : Int))) (hFz : ∀ j, w.frozen? ⟨bF, j, none⟩ = false) (hA : w.cell? ⟨bA, 0, none⟩ = some (.string data))
    (nD : ¬ two db mb bD) (nN : ¬ two db mb bN) (nF : ¬ two db mb bF) (nA : ¬ two db mb bA) (d1 : bD ≠ bF) (d2 : bN ≠ bF) (hnF : F bF) (hs : s.size ≤ 64) (hg : (getL D.m s).isSome = true) (hfok : fs ≤ (fd ++ data).size ∧ (fd ++ data).size ≤ 1048576) :
    Does F (fun q => q = bF) 105 #[.pointer (some ⟨bF, 0, none⟩), .pointer (some ⟨bA, 0, none⟩), .pointer (some ⟨bD, 0, none⟩), .pointer (some ⟨bN, 0, none⟩)] w db mb D (fun m => setL m s ⟨fd ++ data, fs⟩) := by
  intro w1 D1 h1 ht1 hm1
  have k1 := ht1.cell hD nD
  have k2 := ht1.cell hN nN
  have k3 := h1.c0
  have k4 := ht1.cell hF0 nF
  have k5 := ht1.cell hF1 nF
  have k6 := (ht1.frozen (p := ⟨bF, 0, none⟩) (World.block_lt_of_cell? _ _ hF0) nF).trans (hFz 0)
  have k7 := (ht1.frozen (p := ⟨bF, 1, none⟩) (World.block_lt_of_cell? _ _ hF1) nF).trans (hFz 1)
  have k8 := ht1.cell hA nA
  have d4 : db ≠ bF := fun e => nF (.inl e.symm)
  have d5 : mb ≠ bF := fun e => nF (.inr e.symm)
  have hsum : fd.size + data.size ≤ 1048576 := by have := hfok.2; rw [ByteArray.size_append] at this; exact this
  have H := Lib.hid (And.intro h1 (And.intro hm1 (And.intro hs (And.intro hg (And.intro hnF hfok)))))
  clear hD hN hF0 hF1 hFz hA ht1 h1 hm1 hs hg nD nN nF nA hnF hfok
  go_enter Tryz.func105, Tryz.ntmps105
  go_wp2_with fail
  obtain ⟨w2, hw2⟩ : ∃ w2, w1.setCell ⟨bF, 0, none⟩ (.string (fd ++ data)) = w2 := ⟨_, rfl⟩
  rw [hw2]
  have ht2 : Tn (fun q => q = bF) w1 w2 := by rw [← hw2]; exact Tn.setCell _ _ _ rfl
  have e4 : w2.cell? ⟨bF, 0, none⟩ = some (.string (fd ++ data)) := by rw [← hw2]; exact World.cell?_setCell_same _ _ _ k4
  have e5 : w2.cell? ⟨bF, 1, none⟩ = some (.int .i64 (fs : Int)) := by rw [← hw2]; exact cell_set k5 (by omega)
  have e1 := ht2.cell k1 d1
  have e2 := ht2.cell k2 d2
  have e3 := ht2.cell k3 d4
  clear hw2 k1 k2 k3 k4 k5 k6 k7 k8
  have kd1 : w2.drew.cell? ⟨bD, 0, none⟩ = some (.pointer (some ⟨db, 0, none⟩)) := e1
  have kd2 : w2.drew.cell? ⟨bN, 0, none⟩ = some (.string s) := e2
  have kd3 : w2.drew.cell? ⟨db, 0, none⟩ = some (.map (some mb)) := e3
  have kd4 : w2.drew.cell? ⟨bF, 0, none⟩ = some (.string (fd ++ data)) := e4
  have kd5 : w2.drew.cell? ⟨bF, 1, none⟩ = some (.int .i64 (fs : Int)) := e5
  refine wp_region_K (fun w' => w'.cell? ⟨bD, 0, none⟩ = some (.pointer (some ⟨db, 0, none⟩)) ∧ w'.cell? ⟨bN, 0, none⟩ = some (.string s) ∧ w'.cell? ⟨db, 0, none⟩ = some (.map (some mb)) ∧ w'.cell? ⟨bF, 0, none⟩ = some (.string (fd ++ data)) ∧ w'.cell? ⟨bF, 1, none⟩ = some (.int .i64 (fs : Int))) 6 7 (by kernel_rfl) (by kernel_rfl) ⟨kd1, kd2, kd3, kd4, kd5⟩ (fun hH => ?_)
  refine wpAnyK_take (i := 0) [6] (v := ?v1) rfl (by kernel_rfl) (by kernel_rfl) (by kernel_rfl) (by kernel_rfl) (fun _ _ _ h => h) (Or.inl ⟨by rfl, ?hy1⟩) hH ?rest1
  case hy1 => (intro w hSw; (try dsimp only at hSw); go_simp; with_reducible rfl)
  try simp only [Act.put, List.setIfInBounds_toArray, List.set_cons_zero, List.set_cons_succ]
  refine wpAnyK_take (i := 1) [6] (v := ?v2) rfl (by kernel_rfl) (by kernel_rfl) (by kernel_rfl) (by kernel_rfl) (fun _ _ _ h => h) (Or.inl ⟨by rfl, ?hy2⟩) hH ?rest2
  case hy2 => (intro w hSw; (try dsimp only at hSw); go_simp; with_reducible rfl)
  try simp only [Act.put, List.setIfInBounds_toArray, List.set_cons_zero, List.set_cons_succ]
  refine wpAnyK_take (i := 2) [6] (v := ?v3) rfl (by kernel_rfl) (by kernel_rfl) (by kernel_rfl) (by kernel_rfl) (fun _ _ _ h => h) (Or.inl ⟨by rfl, ?hy3⟩) hH ?rest3
  case hy3 => (intro w hSw; (try dsimp only at hSw); go_simp; with_reducible rfl)
  try simp only [Act.put, List.setIfInBounds_toArray, List.set_cons_zero, List.set_cons_succ]
  refine wpAnyK_take (i := 3) [6] (v := ?v4) rfl (by kernel_rfl) (by kernel_rfl) (by kernel_rfl) (by kernel_rfl) (fun _ _ _ h => h) (Or.inl ⟨by rfl, ?hy4⟩) hH ?rest4
  case hy4 => (intro w hSw; (try dsimp only at hSw); go_simp; with_reducible rfl)
  try simp only [Act.put, List.setIfInBounds_toArray, List.set_cons_zero, List.set_cons_succ]
  refine wpAnyK_take (i := 4) [6] (v := ?v5) rfl (by kernel_rfl) (by kernel_rfl) (by kernel_rfl) (by kernel_rfl) (fun _ _ _ h => h) (Or.inl ⟨by rfl, ?hy5⟩) hH ?rest5
  case hy5 => (intro w hSw; (try dsimp only at hSw); go_simp; with_reducible rfl)
  try simp only [Act.put, List.setIfInBounds_toArray, List.set_cons_zero, List.set_cons_succ]
  refine wpAnyK_take (i := 5) [6] (v := ?v6) rfl (by kernel_rfl) (by kernel_rfl) (by kernel_rfl) (by kernel_rfl) (fun _ _ _ h => h) (Or.inl ⟨by rfl, ?hy6⟩) hH ?rest6
  case hy6 => (intro w hSw; (try dsimp only at hSw); go_simp; with_reducible rfl)
  try simp only [Act.put, List.setIfInBounds_toArray, List.set_cons_zero, List.set_cons_succ]
  refine wpAnyK_last (by kernel_rfl) rfl (fun K hK => ?_) (by kernel_rfl)
  have hb2 : Tn (fun q => q = bF) w1 w2.drew := ht2.trans (Tn.drew _)
  have hd2 : DkAt F w2.drew db mb D1 := H.out.1.frame hb2 (fun q _ hq => by subst hq; exact ⟨H.out.2.2.2.2.1, d4.symm, d5.symm⟩)
  refine step_put rfl _ _ _ rfl keyN und_map rfl hd2.m s rfl ⟨fd ++ data, fs⟩ rfl ?_
  intro w3 hm3 ht3 hz3
  refine hK.out _ _ (wpAnyK_done (by kernel_rfl) ?_ _)
  clear hK K hH
  have hfin := hd2.setM ht3 hm3 (set_ok hd2.ok (by rw [H.out.2.1]; exact H.out.2.2.2.1) H.out.2.2.1 H.out.2.2.2.2.2)
  have htt : Tn (fun q => two db mb q ∨ q = bF) w1 w3 := (hb2.mono (fun q hq => Or.inr hq)).trans (ht3.mono (fun q hq => Or.inl (Or.inr hq)))
  have HF := Lib.hid (And.intro hfin htt)
  clear hfin htt hm3 ht3 hz3 hd2 hb2 e1 e2 e3 e4 e5 kd1 kd2 kd3 kd4 kd5 ht2
  go_wp2_with fail
  go_end0
  exact ⟨rfl, HF.out.1, HF.out.2⟩

set_option maxRecDepth 100000 in
set_option maxHeartbeats 1000000 in
theorem sync1_does {bF bD bN : Nat} {s : ByteArray} {fd : ByteArray} {fs : Nat} (hD : w.cell? ⟨bD, 0, none⟩ = some (.pointer (some ⟨db, 0, none⟩))) (hN : w.cell? ⟨bN, 0, none⟩ = some (.string s))
    (hF0 : w.cell? ⟨bF, 0, none⟩ = some (.string fd)) (hF1 : w.cell? ⟨bF, 1, none⟩ = some (.int .i64 (fs : Int))) (hFz : ∀ j, w.frozen? ⟨bF, j, none⟩ = false)
    (nD : ¬ two db mb bD) (nN : ¬ two db mb bN) (nF : ¬ two db mb bF) (d1 : bD ≠ bF) (d2 : bN ≠ bF) (hnF : F bF) (hs : s.size ≤ 64) (hg : (getL D.m s).isSome = true) (hfok : fd.size ≤ fd.size ∧ fd.size ≤ 1048576) :
    Does F (fun q => q = bF) 118 #[.pointer (some ⟨bF, 0, none⟩), .pointer (some ⟨bD, 0, none⟩), .pointer (some ⟨bN, 0, none⟩)] w db mb D (fun m => setL m s ⟨fd, fd.size⟩) := by
  intro w1 D1 h1 ht1 hm1
  have k1 := ht1.cell hD nD
  have k2 := ht1.cell hN nN
  have k3 := h1.c0
  have k4 := ht1.cell hF0 nF
  have k5 := ht1.cell hF1 nF
  have k6 := (ht1.frozen (p := ⟨bF, 0, none⟩) (World.block_lt_of_cell? _ _ hF0) nF).trans (hFz 0)
  have k7 := (ht1.frozen (p := ⟨bF, 1, none⟩) (World.block_lt_of_cell? _ _ hF1) nF).trans (hFz 1)
  have d4 : db ≠ bF := fun e => nF (.inl e.symm)
  have d5 : mb ≠ bF := fun e => nF (.inr e.symm)
  have H := Lib.hid (And.intro h1 (And.intro hm1 (And.intro hs (And.intro hg (And.intro hnF hfok)))))
  clear hD hN hF0 hF1 hFz ht1 h1 hm1 hs hg nD nN nF hnF hfok
  go_enter Tryz.func118, Tryz.ntmps118
  go_wp2_with fail
  obtain ⟨w2, hw2⟩ : ∃ w2, w1.setCell ⟨bF, 1, none⟩ (.int .i64 (fd.size : Int)) = w2 := ⟨_, rfl⟩
  rw [hw2]
  have ht2 : Tn (fun q => q = bF) w1 w2 := by rw [← hw2]; exact Tn.setCell _ _ _ rfl
  have e4 : w2.cell? ⟨bF, 0, none⟩ = some (.string fd) := by rw [← hw2]; exact cell_set k4 (by omega)
  have e5 : w2.cell? ⟨bF, 1, none⟩ = some (.int .i64 (fd.size : Int)) := by rw [← hw2]; exact World.cell?_setCell_same _ _ _ k5
  have e1 := ht2.cell k1 d1
  have e2 := ht2.cell k2 d2
  have e3 := ht2.cell k3 d4
  clear hw2 k1 k2 k3 k4 k5 k6 k7
  have kd1 : w2.drew.cell? ⟨bD, 0, none⟩ = some (.pointer (some ⟨db, 0, none⟩)) := e1
  have kd2 : w2.drew.cell? ⟨bN, 0, none⟩ = some (.string s) := e2
  have kd3 : w2.drew.cell? ⟨db, 0, none⟩ = some (.map (some mb)) := e3
  have kd4 : w2.drew.cell? ⟨bF, 0, none⟩ = some (.string fd) := e4
  have kd5 : w2.drew.cell? ⟨bF, 1, none⟩ = some (.int .i64 (fd.size : Int)) := e5
  refine wp_region_K (fun w' => w'.cell? ⟨bD, 0, none⟩ = some (.pointer (some ⟨db, 0, none⟩)) ∧ w'.cell? ⟨bN, 0, none⟩ = some (.string s) ∧ w'.cell? ⟨db, 0, none⟩ = some (.map (some mb)) ∧ w'.cell? ⟨bF, 0, none⟩ = some (.string fd) ∧ w'.cell? ⟨bF, 1, none⟩ = some (.int .i64 (fd.size : Int))) 6 7 (by kernel_rfl) (by kernel_rfl) ⟨kd1, kd2, kd3, kd4, kd5⟩ (fun hH => ?_)
  refine wpAnyK_take (i := 0) [6] (v := ?v7) rfl (by kernel_rfl) (by kernel_rfl) (by kernel_rfl) (by kernel_rfl) (fun _ _ _ h => h) (Or.inl ⟨by rfl, ?hy7⟩) hH ?rest7
  case hy7 => (intro w hSw; (try dsimp only at hSw); go_simp; with_reducible rfl)
  try simp only [Act.put, List.setIfInBounds_toArray, List.set_cons_zero, List.set_cons_succ]
  refine wpAnyK_take (i := 1) [6] (v := ?v8) rfl (by kernel_rfl) (by kernel_rfl) (by kernel_rfl) (by kernel_rfl) (fun _ _ _ h => h) (Or.inl ⟨by rfl, ?hy8⟩) hH ?rest8
  case hy8 => (intro w hSw; (try dsimp only at hSw); go_simp; with_reducible rfl)
  try simp only [Act.put, List.setIfInBounds_toArray, List.set_cons_zero, List.set_cons_succ]
  refine wpAnyK_take (i := 2) [6] (v := ?v9) rfl (by kernel_rfl) (by kernel_rfl) (by kernel_rfl) (by kernel_rfl) (fun _ _ _ h => h) (Or.inl ⟨by rfl, ?hy9⟩) hH ?rest9
  case hy9 => (intro w hSw; (try dsimp only at hSw); go_simp; with_reducible rfl)
  try simp only [Act.put, List.setIfInBounds_toArray, List.set_cons_zero, List.set_cons_succ]
  refine wpAnyK_take (i := 3) [6] (v := ?v10) rfl (by kernel_rfl) (by kernel_rfl) (by kernel_rfl) (by kernel_rfl) (fun _ _ _ h => h) (Or.inl ⟨by rfl, ?hy10⟩) hH ?rest10
  case hy10 => (intro w hSw; (try dsimp only at hSw); go_simp; with_reducible rfl)
  try simp only [Act.put, List.setIfInBounds_toArray, List.set_cons_zero, List.set_cons_succ]
  refine wpAnyK_take (i := 4) [6] (v := ?v11) rfl (by kernel_rfl) (by kernel_rfl) (by kernel_rfl) (by kernel_rfl) (fun _ _ _ h => h) (Or.inl ⟨by rfl, ?hy11⟩) hH ?rest11
  case hy11 => (intro w hSw; (try dsimp only at hSw); go_simp; with_reducible rfl)
  try simp only [Act.put, List.setIfInBounds_toArray, List.set_cons_zero, List.set_cons_succ]
  refine wpAnyK_take (i := 5) [6] (v := ?v12) rfl (by kernel_rfl) (by kernel_rfl) (by kernel_rfl) (by kernel_rfl) (fun _ _ _ h => h) (Or.inl ⟨by rfl, ?hy12⟩) hH ?rest12
  case hy12 => (intro w hSw; (try dsimp only at hSw); go_simp; with_reducible rfl)
  try simp only [Act.put, List.setIfInBounds_toArray, List.set_cons_zero, List.set_cons_succ]
  refine wpAnyK_last (by kernel_rfl) rfl (fun K hK => ?_) (by kernel_rfl)
  have hb2 : Tn (fun q => q = bF) w1 w2.drew := ht2.trans (Tn.drew _)
  have hd2 : DkAt F w2.drew db mb D1 := H.out.1.frame hb2 (fun q _ hq => by subst hq; exact ⟨H.out.2.2.2.2.1, d4.symm, d5.symm⟩)
  refine step_put rfl _ _ _ rfl keyN und_map rfl hd2.m s rfl ⟨fd, fd.size⟩ rfl ?_
  intro w3 hm3 ht3 hz3
  refine hK.out _ _ (wpAnyK_done (by kernel_rfl) ?_ _)
  clear hK K hH
  have hfin := hd2.setM ht3 hm3 (set_ok hd2.ok (by rw [H.out.2.1]; exact H.out.2.2.2.1) H.out.2.2.1 H.out.2.2.2.2.2)
  have htt : Tn (fun q => two db mb q ∨ q = bF) w1 w3 := (hb2.mono (fun q hq => Or.inr hq)).trans (ht3.mono (fun q hq => Or.inl (Or.inr hq)))
  have HF := Lib.hid (And.intro hfin htt)
  clear hfin htt hm3 ht3 hz3 hd2 hb2 e1 e2 e3 e4 e5 kd1 kd2 kd3 kd4 kd5 ht2
  go_wp2_with fail
  go_end0
  exact ⟨rfl, HF.out.1, HF.out.2⟩

set_option maxRecDepth 100000 in
set_option maxHeartbeats 1000000 in
theorem remove1_does {bD bN : Nat} {s : ByteArray} (hD : w.cell? ⟨bD, 0, none⟩ = some (.pointer (some ⟨db, 0, none⟩))) (hN : w.cell? ⟨bN, 0, none⟩ = some (.string s)) (nD : ¬ two db mb bD) (nN : ¬ two db mb bN) :
    Does F (fun _ => False) 122 #[.pointer (some ⟨bD, 0, none⟩), .pointer (some ⟨bN, 0, none⟩)] w db mb D (fun m => delL m s) := by
  intro w1 D1 h1 ht1 hm1
  have k1 := ht1.cell hD nD
  have k2 := ht1.cell hN nN
  have k3 := h1.c0
  have H := Lib.hid (And.intro h1 hm1)
  clear hD hN ht1 h1 hm1 nD nN
  go_enter Tryz.func122, Tryz.ntmps122
  go_wp2_with fail
  have kd1 : w1.drew.cell? ⟨bD, 0, none⟩ = some (.pointer (some ⟨db, 0, none⟩)) := k1
  have kd2 : w1.drew.cell? ⟨bN, 0, none⟩ = some (.string s) := k2
  have kd3 : w1.drew.cell? ⟨db, 0, none⟩ = some (.map (some mb)) := k3
  refine wp_region_K (fun w' => w'.cell? ⟨bD, 0, none⟩ = some (.pointer (some ⟨db, 0, none⟩)) ∧ w'.cell? ⟨bN, 0, none⟩ = some (.string s) ∧ w'.cell? ⟨db, 0, none⟩ = some (.map (some mb))) 5 6 (by kernel_rfl) (by kernel_rfl) ⟨kd1, kd2, kd3⟩ (fun hH => ?_)
  refine wpAnyK_take (i := 0) [1, 2, 3, 5] (v := ?v13) rfl (by kernel_rfl) (by kernel_rfl) (by kernel_rfl) (by kernel_rfl) (fun _ _ _ h => h) (Or.inl ⟨by rfl, ?hy13⟩) hH ?rest13
  case hy13 => (intro w hSw; (try dsimp only at hSw); go_simp; with_reducible rfl)
  try simp only [Act.put, List.setIfInBounds_toArray, List.set_cons_zero, List.set_cons_succ]
  refine wpAnyK_take (i := 1) [2, 3, 5] (v := ?v14) rfl (by kernel_rfl) (by kernel_rfl) (by kernel_rfl) (by kernel_rfl) (fun _ _ _ h => h) (Or.inl ⟨by rfl, ?hy14⟩) hH ?rest14
  case hy14 => (intro w hSw; (try dsimp only at hSw); go_simp; with_reducible rfl)
  try simp only [Act.put, List.setIfInBounds_toArray, List.set_cons_zero, List.set_cons_succ]
  refine wpAnyK_take (i := 2) [3, 5] (v := ?v15) rfl (by kernel_rfl) (by kernel_rfl) (by kernel_rfl) (by kernel_rfl) (fun _ _ _ h => h) (Or.inl ⟨by rfl, ?hy15⟩) hH ?rest15
  case hy15 => (intro w hSw; (try dsimp only at hSw); go_simp; with_reducible rfl)
  try simp only [Act.put, List.setIfInBounds_toArray, List.set_cons_zero, List.set_cons_succ]
  refine wpAnyK_take (i := 3) [5] (v := ?v16) rfl (by kernel_rfl) (by kernel_rfl) (by kernel_rfl) (by kernel_rfl) (fun _ _ _ h => h) (Or.inl ⟨by rfl, ?hy16⟩) hH ?rest16
  case hy16 => (intro w hSw; (try dsimp only at hSw); go_simp; with_reducible rfl)
  try simp only [Act.put, List.setIfInBounds_toArray, List.set_cons_zero, List.set_cons_succ]
  refine wpAnyK_take (i := 4) [5] (v := ?v17) rfl (by kernel_rfl) (by kernel_rfl) (by kernel_rfl) (by kernel_rfl) (fun _ _ _ h => h) (Or.inl ⟨by rfl, ?hy17⟩) hH ?rest17
  case hy17 => (intro w hSw; (try dsimp only at hSw); go_simp; with_reducible rfl)
  try simp only [Act.put, List.setIfInBounds_toArray, List.set_cons_zero, List.set_cons_succ]
  refine wpAnyK_last (by kernel_rfl) rfl (fun K hK => ?_) (by kernel_rfl)
  have hb2 : Below w1.heap.size w1 w1.drew := (Below.refl _ _).drew
  have hd2 : DkAt F w1.drew db mb D1 := H.out.1.below hb2
  refine step_del rfl _ _ rfl keyN und_map (ob := some mb) rfl hd2.m s rfl ?_
  intro w3 hm3 ht3 hz3
  refine hK.out _ _ (wpAnyK_done (by kernel_rfl) ?_ _)
  clear hK K hH
  have ht3' : Tn (fun q => q = mb) w1.drew w3 := ht3.mono (fun q hq => (Option.some.inj hq).symm)
  have hfin := hd2.setM ht3' hm3 hd2.ok.del
  have HF := Lib.hid (And.intro hfin ((Tn.ofBelow (F := fun q => two db mb q ∨ False) hb2).trans (ht3'.mono (fun q hq => .inl (.inr hq)))))
  clear hfin hm3 ht3 ht3' hz3 hd2 hb2 kd1 kd2 kd3 k1 k2 k3
  go_wp2_with fail
  go_end0
  exact ⟨rfl, HF.out.1, by simpa using HF.out.2⟩

set_option maxRecDepth 100000 in
set_option maxHeartbeats 1000000 in
theorem rename1_does {bD bN bF bT : Nat} {s t : ByteArray} {fd : ByteArray} {fs : Nat} (hD : w.cell? ⟨bD, 0, none⟩ = some (.pointer (some ⟨db, 0, none⟩))) (hN : w.cell? ⟨bN, 0, none⟩ = some (.string s)) (hT : w.cell? ⟨bT, 0, none⟩ = some (.string t))
    (hF0 : w.cell? ⟨bF, 0, none⟩ = some (.string fd)) (hF1 : w.cell? ⟨bF, 1, none⟩ = some (.int .i64 (fs : Int))) (nD : ¬ two db mb bD) (nN : ¬ two db mb bN) (nF : ¬ two db mb bF) (nT : ¬ two db mb bT) (hs : t.size ≤ 64) (hg : getL D.m s = some ⟨fd, fs⟩) :
    Does F (fun _ => False) 119 #[.pointer (some ⟨bD, 0, none⟩), .pointer (some ⟨bN, 0, none⟩), .pointer (some ⟨bF, 0, none⟩), .pointer (some ⟨bT, 0, none⟩)] w db mb D (fun m => setL (delL m s) t ⟨fd, fs⟩) := by
  intro w1 D1 h1 ht1 hm1
  have k1 := ht1.cell hD nD
  have k2 := ht1.cell hN nN
  have k3 := h1.c0
  have k4 := ht1.cell hF0 nF
  have k5 := ht1.cell hF1 nF
  have k6 := ht1.cell hT nT
  have hs9 : t.size ≤ 140737488351232 := by omega
  have H := Lib.hid (And.intro h1 (And.intro hm1 (And.intro hs (And.intro hg (And.intro nD (And.intro nF nT))))))
  have hdm : db ≠ mb := h1.ne
  have n1 : bD ≠ mb := fun e => nD (.inr e)
  have n4 : bF ≠ mb := fun e => nF (.inr e)
  have n6 : bT ≠ mb := fun e => nT (.inr e)
  clear hD hN hF0 hF1 hT ht1 h1 hm1 nD nN nF nT hg hs
  go_enter Tryz.func119, Tryz.ntmps119
  go_wp2_with fail
  have kd1 : w1.drew.cell? ⟨bD, 0, none⟩ = some (.pointer (some ⟨db, 0, none⟩)) := k1
  have kd2 : w1.drew.cell? ⟨bN, 0, none⟩ = some (.string s) := k2
  have kd3 : w1.drew.cell? ⟨db, 0, none⟩ = some (.map (some mb)) := k3
  refine wp_region_K (fun w' => w'.cell? ⟨bD, 0, none⟩ = some (.pointer (some ⟨db, 0, none⟩)) ∧ w'.cell? ⟨bN, 0, none⟩ = some (.string s) ∧ w'.cell? ⟨db, 0, none⟩ = some (.map (some mb))) 5 6 (by kernel_rfl) (by kernel_rfl) ⟨kd1, kd2, kd3⟩ (fun hH => ?_)
  refine wpAnyK_take (i := 0) [1, 2, 3, 5] (v := ?v18) rfl (by kernel_rfl) (by kernel_rfl) (by kernel_rfl) (by kernel_rfl) (fun _ _ _ h => h) (Or.inl ⟨by rfl, ?hy18⟩) hH ?rest18
  case hy18 => (intro w hSw; (try dsimp only at hSw); go_simp; with_reducible rfl)
  try simp only [Act.put, List.setIfInBounds_toArray, List.set_cons_zero, List.set_cons_succ]
  refine wpAnyK_take (i := 1) [2, 3, 5] (v := ?v19) rfl (by kernel_rfl) (by kernel_rfl) (by kernel_rfl) (by kernel_rfl) (fun _ _ _ h => h) (Or.inl ⟨by rfl, ?hy19⟩) hH ?rest19
  case hy19 => (intro w hSw; (try dsimp only at hSw); go_simp; with_reducible rfl)
  try simp only [Act.put, List.setIfInBounds_toArray, List.set_cons_zero, List.set_cons_succ]
  refine wpAnyK_take (i := 2) [3, 5] (v := ?v20) rfl (by kernel_rfl) (by kernel_rfl) (by kernel_rfl) (by kernel_rfl) (fun _ _ _ h => h) (Or.inl ⟨by rfl, ?hy20⟩) hH ?rest20
  case hy20 => (intro w hSw; (try dsimp only at hSw); go_simp; with_reducible rfl)
  try simp only [Act.put, List.setIfInBounds_toArray, List.set_cons_zero, List.set_cons_succ]
  refine wpAnyK_take (i := 3) [5] (v := ?v21) rfl (by kernel_rfl) (by kernel_rfl) (by kernel_rfl) (by kernel_rfl) (fun _ _ _ h => h) (Or.inl ⟨by rfl, ?hy21⟩) hH ?rest21
  case hy21 => (intro w hSw; (try dsimp only at hSw); go_simp; with_reducible rfl)
  try simp only [Act.put, List.setIfInBounds_toArray, List.set_cons_zero, List.set_cons_succ]
  refine wpAnyK_take (i := 4) [5] (v := ?v22) rfl (by kernel_rfl) (by kernel_rfl) (by kernel_rfl) (by kernel_rfl) (fun _ _ _ h => h) (Or.inl ⟨by rfl, ?hy22⟩) hH ?rest22
  case hy22 => (intro w hSw; (try dsimp only at hSw); go_simp; with_reducible rfl)
  try simp only [Act.put, List.setIfInBounds_toArray, List.set_cons_zero, List.set_cons_succ]
  refine wpAnyK_last (by kernel_rfl) rfl (fun K hK => ?_) (by kernel_rfl)
  have hb2 : Below w1.heap.size w1 w1.drew := (Below.refl _ _).drew
  have hd2 : DkAt F w1.drew db mb D1 := H.out.1.below hb2
  refine step_del rfl _ _ rfl keyN und_map (ob := some mb) rfl hd2.m s rfl ?_
  intro w3 hm3 ht3 hz3
  refine hK.out _ _ (wpAnyK_done (by kernel_rfl) ?_ _)
  clear hK K hH
  have ht3' : Tn (fun q => q = mb) w1.drew w3 := ht3.mono (fun q hq => (Option.some.inj hq).symm)
  have hd3 := hd2.setM ht3' hm3 hd2.ok.del
  have htt : Tn (fun q => two db mb q ∨ False) w1 w3 := (Tn.ofBelow (F := fun q => two db mb q ∨ False) hb2).trans (ht3'.mono (fun q hq => .inl (.inr hq)))
  have f1 := ht3'.cell (show w1.drew.cell? ⟨bD, 0, none⟩ = _ from k1) n1
  have f3 := ht3'.cell (show w1.drew.cell? ⟨db, 0, none⟩ = _ from k3) hdm
  have f4 := ht3'.cell (show w1.drew.cell? ⟨bF, 0, none⟩ = _ from k4) n4
  have f5 := ht3'.cell (show w1.drew.cell? ⟨bF, 1, none⟩ = _ from k5) n4
  have f6 := ht3'.cell (show w1.drew.cell? ⟨bT, 0, none⟩ = _ from k6) n6
  have H3 := Lib.hid (And.intro hd3 htt)
  clear hd3 htt hm3 ht3 ht3' hz3 hd2 hb2 kd1 kd2 kd3 k1 k2 k3 k4 k5 k6
  go_wp2_with fail
  have kd1 : w3.drew.cell? ⟨bD, 0, none⟩ = some (.pointer (some ⟨db, 0, none⟩)) := f1
  have kd3 : w3.drew.cell? ⟨db, 0, none⟩ = some (.map (some mb)) := f3
  have kd4 : w3.drew.cell? ⟨bF, 0, none⟩ = some (.string fd) := f4
  have kd5 : w3.drew.cell? ⟨bF, 1, none⟩ = some (.int .i64 (fs : Int)) := f5
  have kd6 : w3.drew.cell? ⟨bT, 0, none⟩ = some (.string t) := f6
  refine wp_region_K (fun w' => w'.cell? ⟨bD, 0, none⟩ = some (.pointer (some ⟨db, 0, none⟩)) ∧ w'.cell? ⟨db, 0, none⟩ = some (.map (some mb)) ∧ w'.cell? ⟨bF, 0, none⟩ = some (.string fd) ∧ w'.cell? ⟨bF, 1, none⟩ = some (.int .i64 (fs : Int)) ∧ w'.cell? ⟨bT, 0, none⟩ = some (.string t)) 7 8 (by kernel_rfl) (by kernel_rfl) ⟨kd1, kd3, kd4, kd5, kd6⟩ (fun hH => ?_)
  refine wpAnyK_take (i := 0) [7] (v := ?v23) rfl (by kernel_rfl) (by kernel_rfl) (by kernel_rfl) (by kernel_rfl) (fun _ _ _ h => h) (Or.inl ⟨by rfl, ?hy23⟩) hH ?rest23
  case hy23 => (intro w hSw; (try dsimp only at hSw); go_simp; with_reducible rfl)
  try simp only [Act.put, List.setIfInBounds_toArray, List.set_cons_zero, List.set_cons_succ]
  refine wpAnyK_take (i := 1) [7] (v := ?v24) rfl (by kernel_rfl) (by kernel_rfl) (by kernel_rfl) (by kernel_rfl) (fun _ _ _ h => h) (Or.inl ⟨by rfl, ?hy24⟩) hH ?rest24
  case hy24 => (intro w hSw; (try dsimp only at hSw); go_simp; with_reducible rfl)
  try simp only [Act.put, List.setIfInBounds_toArray, List.set_cons_zero, List.set_cons_succ]
  refine wpAnyK_take (i := 2) [7] (v := ?v25) rfl (by kernel_rfl) (by kernel_rfl) (by kernel_rfl) (by kernel_rfl) (fun _ _ _ h => h) (Or.inl ⟨by rfl, ?hy25⟩) hH ?rest25
  case hy25 => (intro w hSw; (try dsimp only at hSw); go_simp; with_reducible rfl)
  try simp only [Act.put, List.setIfInBounds_toArray, List.set_cons_zero, List.set_cons_succ]
  refine wpAnyK_take (i := 3) [7] (v := ?v26) rfl (by kernel_rfl) (by kernel_rfl) (by kernel_rfl) (by kernel_rfl) (fun _ _ _ h => h) (Or.inl ⟨by rfl, ?hy26⟩) hH ?rest26
  case hy26 => (intro w hSw; (try dsimp only at hSw); go_simp; with_reducible rfl)
  try simp only [Act.put, List.setIfInBounds_toArray, List.set_cons_zero, List.set_cons_succ]
  refine wpAnyK_take (i := 4) [7] (v := ?v27) rfl (by kernel_rfl) (by kernel_rfl) (by kernel_rfl) (by kernel_rfl) (fun _ _ _ h => h) (Or.inl ⟨by rfl, ?hy27⟩) hH ?rest27
  case hy27 => (intro w hSw; (try dsimp only at hSw); go_simp; with_reducible rfl)
  try simp only [Act.put, List.setIfInBounds_toArray, List.set_cons_zero, List.set_cons_succ]
  refine wpAnyK_take (i := 6) [7] (v := ?v28) rfl (by kernel_rfl) (by kernel_rfl) (by kernel_rfl) (by kernel_rfl) (fun _ _ _ h => h) (Or.inl ⟨by rfl, ?hy28⟩) hH ?rest28
  case hy28 => (intro w hSw; (try dsimp only at hSw); go_simp; with_reducible rfl)
  try simp only [Act.put, List.setIfInBounds_toArray, List.set_cons_zero, List.set_cons_succ]
  refine wpAnyK_one (i := 5) (by kernel_rfl) rfl (fun K hK => ?_) (by kernel_rfl)
  go_simp
  go_at_call 107
  refine (clone_any _ t hs9).mono ?_
  rintro e w4 ⟨rfl, hb4⟩
  have e1 := (hb4.cell (p := ⟨bD, 0, none⟩) (World.block_lt_of_cell? _ _ kd1)).trans kd1
  have e3 := (hb4.cell (p := ⟨db, 0, none⟩) (World.block_lt_of_cell? _ _ kd3)).trans kd3
  have e4 := (hb4.cell (p := ⟨bF, 0, none⟩) (World.block_lt_of_cell? _ _ kd4)).trans kd4
  have e5 := (hb4.cell (p := ⟨bF, 1, none⟩) (World.block_lt_of_cell? _ _ kd5)).trans kd5
  have e6 := (hb4.cell (p := ⟨bT, 0, none⟩) (World.block_lt_of_cell? _ _ kd6)).trans kd6
  have HB := Lib.hid (show Below w3.heap.size w3 w4 from (Below.refl _ _).drew.trans hb4)
  clear hb4
  refine hK.out _ _ ⟨e1, e3, e4, e5, e6⟩ (fun hH => ?_)
  clear hK K
  try simp only [Act.put, List.setIfInBounds_toArray, List.set_cons_zero, List.set_cons_succ]
  have hd4 := H3.out.1.below HB.out
  refine wpAnyK_last (by kernel_rfl) rfl (fun K hK => ?_) (by kernel_rfl)
  refine step_put rfl _ _ _ rfl keyN und_map rfl hd4.m t rfl ⟨fd, fs⟩ rfl ?_
  intro w5 hm5 ht5 hz5
  refine hK.out _ _ (wpAnyK_done (by kernel_rfl) ?_ _)
  clear hK K hH
  have hgm : (s, (⟨fd, fs⟩ : Fl)) ∈ D1.m := getL_mem (by rw [H.out.2.1]; exact H.out.2.2.2.1)
  have hlen : (setL (delL D1.m s) t ⟨fd, fs⟩).length ≤ 20000 := by
    have h1 : (setL (delL D1.m s) t ⟨fd, fs⟩).length ≤ (delL D1.m s).length + 1 := setL_length.1
    have h2 : (delL D1.m s).length < D1.m.length := by
      unfold delL
      rcases Nat.lt_or_ge (D1.m.filter (fun p => decide (p.1 ≠ s))).length D1.m.length with h | h
      · exact h
      · have h3 := List.length_filter_eq_length_iff.1 (Nat.le_antisymm (List.length_filter_le _ _) h) _ hgm
        simp at h3
    have := H.out.1.ok.few
    omega
  have hfok := H.out.1.ok.syn _ hgm
  have hfin := hd4.setM ht5 hm5 (hd4.ok.set H.out.2.2.1 hfok hlen)
  have HF := Lib.hid (And.intro hfin (H3.out.2.trans ((Tn.ofBelow (F := fun q => two db mb q ∨ False) HB.out).trans (ht5.mono (fun q hq => .inl (.inr hq))))))
  clear hfin hm5 ht5 hz5 hd4 e1 e3 e4 e5 e6 kd1 kd3 kd4 kd5 kd6 f1 f3 f4 f5 f6 hgm hlen hfok
  go_wp2_with fail
  go_end0
  exact ⟨rfl, HF.out.1, by simpa using HF.out.2⟩
end Go.Proofs.YtceamkcaokdgaaaGreatDoor
/-
  Disk: how many bytes there are.
-/
namespace Go.Proofs.YtceamkcaokdgaaaGreatDoor
open Go.RowKit
variable {F G : Nat → Prop} {w w' : World} {db mb : Nat} {D D' : Dk}

theorem used_app (a b : Fm) : used (a ++ b) = used a + used b := by unfold used; rw [List.map_append, List.sum_append]
theorem used_cons (p : ByteArray × Fl) (b : Fm) : used (p :: b) = p.2.data.size + used b := by unfold used; rw [List.map_cons, List.sum_cons]
theorem used_le (m : Fm) (h : ∀ p ∈ m, p.2.data.size ≤ 1048576) : used m ≤ m.length * 1048576 := by
  induction m with
  | nil => simp [used]
  | cons p m ih =>
    rw [used_cons, List.length_cons, Nat.add_mul]
    have := ih (fun q hq => h q (List.mem_cons_of_mem _ hq))
    have := h p List.mem_cons_self
    omega

set_option maxRecDepth 100000 in
set_option maxHeartbeats 1000000 in
theorem used_any (h : DkAt F w db mb D) : Calls Tryz.prog 19 #[.pointer (some ⟨db, 0, none⟩)] w fun e w' => e = .returned (.int .i64 (used D.m : Int)) ∧ Below w.heap.size w w' := by
  have c0 := h.c0
  have hub : used D.m ≤ 20971520000 := by
    have h1 := used_le D.m (fun p hp => (h.ok.syn p hp).2)
    have h2 := h.ok.few
    have h3 : D.m.length * 1048576 ≤ 20000 * 1048576 := Nat.mul_le_mul_right _ h2
    omega
  have H := Lib.hid h.m
  obtain ⟨m, hm⟩ : ∃ m, D.m = m := ⟨_, rfl⟩
  rw [hm] at H hub ⊢
  clear h hm
  go_enter Tryz.func19, Tryz.ntmps19
  go_wp2_with (at_range; refine wpl_range rfl _ rfl und_map rfl (show MapV ckN cvF _ (some mb) m from H.out) ?_; intro w1 hr hb1 hz1; have H1 := Lib.hid (And.intro hr hb1); clear hr hb1)
  go_frame
  go_loopw [3, 5] (fun nv _ wr => ∃ todo acc, RngV ckN cvF wr (some mb) w.heap.size m todo ∧ used m = acc + used todo ∧ nv = .int .i64 ((acc : Nat) : Int) ∧ Below w.heap.size w wr) (fun _ _ wr => leftN wr (some mb) w.heap.size)
  case atStart => exact ⟨m, 0, H1.out.1, by omega, rfl, H1.out.2⟩
  case round =>
    obtain ⟨todo, acc, hr, hacc, rfl, hb⟩ := hrel
    have HR := Lib.hid (And.intro hr (And.intro hacc hb))
    have hal : acc ≤ 20971520000 := by omega
    have hrl := hr.lt
    clear hr hacc hb
    go_wp2_with (at_next; refine wpl_next rfl _ rfl rfl HR.out.1 ?_ ?_)
    · intro h0
      have HE := Lib.hid h0
      clear h0
      go_wp2
      go_ret
      refine ⟨?_, HR.out.2.2⟩
      have h5 := HR.out.2.1
      rw [HE.out] at h5
      have h6 : acc = used m := by simp [used] at h5 ⊢; omega
      rw [← h6]
      rfl
    · intro pre nm f post w2 htd hr2 ht2 hz2 hen
      obtain ⟨fd, fs⟩ := f
      try simp only [ckN, cvF] at hen
      have hsz : used todo = fd.size + used (pre ++ post) := by rw [htd, used_app, used_cons, used_app]; show used pre + (fd.size + used post) = _; omega
      have hle : fd.size + acc ≤ 20971520000 := by have := HR.out.2.1; omega
      have hb2 : Below w.heap.size w w2 := HR.out.2.2.trans ((ht2.below HR.out.2.2.size (fun k hk => by omega)))
      have H2 := Lib.hid (And.intro hr2 (And.intro hsz (And.intro hb2 htd)))
      clear hr2 hsz hb2 htd ht2
      try simp only [ckN, cvF]
      go_wp2
      go_roundw
      case rel =>
        have hb3 : Below w2.heap.size w2 (w2.alloc (.cells #[.string fd, .int .i64 (fs : Int)] 71)) := (Below.refl _ _).alloc (Nat.le_refl _) _
        refine ⟨pre ++ post, acc + fd.size, H2.out.1.tn (Tn.ofBelow (F := fun _ => False) hb3) (fun _ _ e => e) (fun e => e), ?_, by go_num, H2.out.2.2.1.trans (hb3.mono H2.out.2.2.1.size)⟩
        have := HR.out.2.1
        have := H2.out.2.1
        omega
      case measure =>
        have hb3 : Below w2.heap.size w2 (w2.alloc (.cells #[.string fd, .int .i64 (fs : Int)] 71)) := (Below.refl _ _).alloc (Nat.le_refl _) _
        have h7 := H2.out.1.tn (Tn.ofBelow (F := fun _ => False) hb3) (fun _ _ e => e) (fun e => e)
        rw [h7.left, HR.out.1.left, H2.out.2.2.2]
        simp
end Go.Proofs.YtceamkcaokdgaaaGreatDoor
/-
  Disk: Create, Append, Sync, Rename, Remove.
-/
namespace Go.Proofs.YtceamkcaokdgaaaGreatDoor
open Go.RowKit
variable {F G : Nat → Prop} {w w' : World} {db mb : Nat} {D D' : Dk}

theorem rdT_one {w : World} {b : Nat} {s : ByteArray} (h : w.cell? ⟨b, 0, none⟩ = some (.string s)) (c : Nat) : RdT w (.slice (some ⟨b, 0, none⟩) 1 c) [s] :=
  ⟨_, c, rfl, .inr ⟨b, 0, rfl, World.block_lt_of_cell? _ _ h, fun i hi => by
    have : i = 0 := by simp at hi; omega
    subst this
    exact h⟩⟩
theorem rdT_two {w : World} {b : Nat} {s t : ByteArray} (h : w.cell? ⟨b, 0, none⟩ = some (.string s)) (h2 : w.cell? ⟨b, 1, none⟩ = some (.string t)) (c : Nat) : RdT w (.slice (some ⟨b, 0, none⟩) 2 c) [s, t] :=
  ⟨_, c, rfl, .inr ⟨b, 0, rfl, World.block_lt_of_cell? _ _ h, fun i hi => by
    have : i = 0 ∨ i = 1 := by simp at hi; omega
    rcases this with rfl | rfl
    · exact h
    · exact h2⟩⟩
theorem nm_le {s : ByteArray} (h : nmB s = true) : s.size ≤ 64 := by
  simp only [nmB, Bool.and_eq_true, decide_eq_true_eq] at h
  exact h.1.2
theorem Dk.Ok.set' (h : D.Ok) {s : ByteArray} {f : Fl} (hl : D.m.length < 20000) (hs : s.size ≤ 64) (hf : f.syn ≤ f.data.size ∧ f.data.size ≤ 1048576) : (setL D.m s f).length ≤ 20000 := by
  have : (setL D.m s f).length ≤ D.m.length + 1 := setL_length.1
  omega

set_option maxRecDepth 100000 in
set_option maxHeartbeats 4000000 in
theorem create_any (h : DkAt F w db mb D) (hon : D.on = true) (ha : D.acts < 1000000) (s : ByteArray) (hs : s.size ≤ 140737488351232) :
    Calls Tryz.prog 15 #[.pointer (some ⟨db, 0, none⟩), .string s] w fun e w' => e = .returned (.int .i64 (D.create s).1) ∧ DkAt F w' db mb (D.create s).2 ∧ Tn (two db mb) w w' := by
  have hask : D.asked [s] = askE true [s] := by unfold Dk.asked askE; rw [hon]
  have c1 := h.c1
  rw [hon] at c1
  have hlt := h.ltd
  have hmf : ∀ (fn : Fn) (first cap : Array Value) (w : World), (Instr.makeFunc fn first cap).run Tryz.prog w = .ok (.func fn first cap) w := fun _ _ _ _ => rfl
  have H := Lib.hid (And.intro h (And.intro hon hask))
  clear h hon hask
  obtain ⟨W1, hW1⟩ : ∃ W1, (w.alloc (.cells #[.pointer (some ⟨db, 0, none⟩)] 43)).alloc (.cells #[.string s] 9) = W1 := ⟨_, rfl⟩
  have b1 : Below w.heap.size w W1 := by rw [← hW1]; exact ((Below.refl _ _).alloc (Nat.le_refl _) _).alloc (by simp) _
  have z1 : W1.heap.size = w.heap.size + 2 := by rw [← hW1]; simp
  have dD : W1.cell? ⟨w.heap.size, 0, none⟩ = some (.pointer (some ⟨db, 0, none⟩)) := by rw [← hW1]; simp [go_sem]
  have dN : W1.cell? ⟨w.heap.size + 1, 0, none⟩ = some (.string s) := by rw [← hW1]; simp [go_sem]
  have on1 : OnAt W1 (some ⟨db, 0, none⟩) true := .inr ⟨db, rfl, (b1.cell (p := ⟨db, 1, none⟩) hlt).trans c1⟩
  have hr1 : RdT (W1.alloc (.cells #[.string s] 9)) (.slice (some ⟨W1.heap.size, 0, none⟩) 1 1) [s] := rdT_one (by simp [go_sem]) 1
  have hA := asked_any (on1.below ((Below.refl _ _).alloc (Nat.le_refl _) _)) hr1 (by simp) (fun x hx => by rw [List.mem_singleton] at hx; subst hx; omega)
  have H1 := Lib.hid (And.intro b1 z1)
  clear on1 hr1 b1 z1
  cases hnm : [s].all nmB
  · have he : askE true [s] = 21 := by simp only [askE, hnm]; rfl
    rw [he] at hA
    have hres : D.create s = (21, D) := by
      unfold Dk.create
      rw [H.out.2.2, he, if_pos (by decide)]
    rw [hres]
    clear he hres hnm
    go_enter Tryz.func15, Tryz.ntmps15
    go_wp2_with (go_at_call 103; refine hA.mono ?_; rintro e w2 ⟨rfl, hb2⟩; have H2 := Lib.hid hb2; clear hb2)
    go_ret
    have hb : Below w.heap.size w w2 := H1.out.1.trans ((((Below.refl _ _).alloc (Nat.le_refl _) _).trans (H2.out.mono (by simp))).mono H1.out.1.size)
    exact ⟨rfl, H.out.1.below hb, Tn.ofBelow hb⟩
  · have he : askE true [s] = 0 := by simp only [askE, hnm]; rfl
    rw [he] at hA
    simp only [List.all_cons, List.all_nil, Bool.and_true, Bool.and_eq_true] at hnm
    have hl64 := nm_le hnm
    have HE := Lib.hid (And.intro he hl64)
    clear he hnm hl64
    go_enter Tryz.func15, Tryz.ntmps15
    go_wp2_with (go_at_call 103; refine hA.mono ?_; rintro e w2 ⟨rfl, hb2⟩; have H2 := Lib.hid hb2; clear hb2)
    have hb12 : Below w.heap.size w w2 := H1.out.1.trans ((((Below.refl _ _).alloc (Nat.le_refl _) _).trans (H2.out.mono (by simp))).mono H1.out.1.size)
    have hb2' : Below W1.heap.size W1 w2 := ((Below.refl _ _).alloc (Nat.le_refl _) _).trans (H2.out.mono (by simp))
    have g1 : w2.cell? ⟨w.heap.size, 0, none⟩ = some (.pointer (some ⟨db, 0, none⟩)) := (hb2'.cell (p := ⟨w.heap.size, 0, none⟩) (by have := H1.out.2; simp; omega)).trans dD
    have gN : w2.cell? ⟨w.heap.size + 1, 0, none⟩ = some (.string s) := (hb2'.cell (p := ⟨w.heap.size + 1, 0, none⟩) (by have := H1.out.2; simp; omega)).trans dN
    have h2 := H.out.1.below hb12
    have g3 := h2.c0
    have hz2 : w.heap.size + 2 ≤ w2.heap.size := by have := hb2'.size; have := H1.out.2; omega
    have H22 := Lib.hid (And.intro hb12 (And.intro hb2' (And.intro h2 hz2)))
    clear dD dN hb12 hb2' h2 hA hW1
    have kd1 : w2.drew.cell? ⟨w.heap.size, 0, none⟩ = some (.pointer (some ⟨db, 0, none⟩)) := g1
    have kd2 : w2.drew.cell? ⟨w.heap.size + 1, 0, none⟩ = some (.string s) := gN
    have kd3 : w2.drew.cell? ⟨db, 0, none⟩ = some (.map (some mb)) := g3
    cases hg : getL D.m s with
    | none =>
      have hlk : (Instr.lookup 62 (.map (some mb)) (.string s) true).run Tryz.prog w2.drew = .ok (.tuple #[.agg #[.string ByteArray.empty, .int .i64 0], .bool false]) w2.drew := by
        have h5 := MapL.look (H22.out.2.2.1.below (Below.refl _ _).drew).m keyN und_map (z := .agg #[.string ByteArray.empty, .int .i64 0]) (Tryz.zeroValue71 _) true s
        rw [hg] at h5
        exact h5
      refine wp_region_K (fun w' => w'.cell? ⟨w.heap.size, 0, none⟩ = some (.pointer (some ⟨db, 0, none⟩)) ∧ w'.cell? ⟨w.heap.size + 1, 0, none⟩ = some (.string s) ∧ w'.cell? ⟨db, 0, none⟩ = some (.map (some mb)) ∧ (Instr.lookup 62 (.map (some mb)) (.string s) true).run Tryz.prog w' = .ok (.tuple #[.agg #[.string ByteArray.empty, .int .i64 0], .bool false]) w') 11 12 (by kernel_rfl) (by kernel_rfl) ⟨kd1, kd2, kd3, hlk⟩ (fun hH => ?_)
      refine wpAnyK_take (i := 0) [11] (v := ?v29) rfl (by kernel_rfl) (by kernel_rfl) (by kernel_rfl) (by kernel_rfl) (fun _ _ _ h => h) (Or.inl ⟨by rfl, ?hy29⟩) hH ?rest29
      case hy29 => (intro w hSw; (try dsimp only at hSw); go_simp; with_reducible rfl)
      try simp only [Act.put, List.setIfInBounds_toArray, List.set_cons_zero, List.set_cons_succ]
      refine wpAnyK_take (i := 1) [11] (v := ?v30) rfl (by kernel_rfl) (by kernel_rfl) (by kernel_rfl) (by kernel_rfl) (fun _ _ _ h => h) (Or.inl ⟨by rfl, ?hy30⟩) hH ?rest30
      case hy30 => (intro w hSw; (try dsimp only at hSw); go_simp; with_reducible rfl)
      try simp only [Act.put, List.setIfInBounds_toArray, List.set_cons_zero, List.set_cons_succ]
      refine wpAnyK_take (i := 2) [11] (v := ?v31) rfl (by kernel_rfl) (by kernel_rfl) (by kernel_rfl) (by kernel_rfl) (fun _ _ _ h => h) (Or.inl ⟨by rfl, ?hy31⟩) hH ?rest31
      case hy31 => (intro w hSw; (try dsimp only at hSw); go_simp; with_reducible rfl)
      try simp only [Act.put, List.setIfInBounds_toArray, List.set_cons_zero, List.set_cons_succ]
      refine wpAnyK_take (i := 3) [11] (v := ?v32) rfl (by kernel_rfl) (by kernel_rfl) (by kernel_rfl) (by kernel_rfl) (fun _ _ _ h => h) (Or.inl ⟨by rfl, ?hy32⟩) hH ?rest32
      case hy32 => (intro w hSw; (try dsimp only at hSw); go_simp; with_reducible rfl)
      try simp only [Act.put, List.setIfInBounds_toArray, List.set_cons_zero, List.set_cons_succ]
      refine wpAnyK_take (i := 4) [11] (v := ?v33) rfl (by kernel_rfl) (by kernel_rfl) (by kernel_rfl) (by kernel_rfl) (fun _ _ _ h => h) (Or.inl ⟨by rfl, ?hy33⟩) hH ?rest33
      case hy33 => (intro w hSw; (try dsimp only at hSw); go_simp; with_reducible rfl)
      try simp only [Act.put, List.setIfInBounds_toArray, List.set_cons_zero, List.set_cons_succ]
      refine wpAnyK_take (i := 5) [11] (v := ?v34) rfl (by kernel_rfl) (by kernel_rfl) (by kernel_rfl) (by kernel_rfl) (fun _ _ _ h => h) (Or.inl ⟨by rfl, ?hy34⟩) hH ?rest34
      case hy34 => (intro w hSw; (try dsimp only at hSw); go_simp; with_reducible rfl)
      try simp only [Act.put, List.setIfInBounds_toArray, List.set_cons_zero, List.set_cons_succ]
      refine wpAnyK_take (i := 6) [11] (v := ?v35) rfl (by kernel_rfl) (by kernel_rfl) (by kernel_rfl) (by kernel_rfl) (fun _ _ _ h => h) (Or.inl ⟨by rfl, ?hy35⟩) hH ?rest35
      case hy35 => (intro w hSw; (try dsimp only at hSw); go_simp; with_reducible rfl)
      try simp only [Act.put, List.setIfInBounds_toArray, List.set_cons_zero, List.set_cons_succ]
      refine wpAnyK_take (i := 7) [11] (v := ?v36) rfl (by kernel_rfl) (by kernel_rfl) (by kernel_rfl) (by kernel_rfl) (fun _ _ _ h => h) (Or.inl ⟨by rfl, ?hy36⟩) hH ?rest36
      case hy36 => (intro w hSw; (try dsimp only at hSw); go_simp; with_reducible rfl)
      try simp only [Act.put, List.setIfInBounds_toArray, List.set_cons_zero, List.set_cons_succ]
      refine wpAnyK_take (i := 8) [11] (v := ?v37) rfl (by kernel_rfl) (by kernel_rfl) (by kernel_rfl) (by kernel_rfl) (fun _ _ _ h => h) (Or.inl ⟨by rfl, ?hy37⟩) hH ?rest37
      case hy37 => (intro w hSw; (try dsimp only at hSw); go_simp; with_reducible rfl)
      try simp only [Act.put, List.setIfInBounds_toArray, List.set_cons_zero, List.set_cons_succ]
      refine wpAnyK_one (i := 9) (by kernel_rfl) rfl (fun K hK => ?_) (by kernel_rfl)
      go_simp
      have hS3 : ∀ (x : Obj) (W : World), W = (w2.alloc x).drew → W.cell? ⟨w.heap.size, 0, none⟩ = some (.pointer (some ⟨db, 0, none⟩)) ∧ W.cell? ⟨w.heap.size + 1, 0, none⟩ = some (.string s) ∧ W.cell? ⟨db, 0, none⟩ = some (.map (some mb)) ∧ (Instr.lookup 62 (.map (some mb)) (.string s) true).run Tryz.prog W = .ok (.tuple #[.agg #[.string ByteArray.empty, .int .i64 0], .bool false]) W := by
        intro x W hW
        subst hW
        have hb : Below w2.heap.size w2 (w2.alloc x).drew := ((Below.refl _ _).alloc (Nat.le_refl _) _).drew
        refine ⟨(hb.cell (p := ⟨w.heap.size, 0, none⟩) (World.block_lt_of_cell? _ _ g1)).trans g1, (hb.cell (p := ⟨w.heap.size + 1, 0, none⟩) (World.block_lt_of_cell? _ _ gN)).trans gN, (hb.cell (p := ⟨db, 0, none⟩) (World.block_lt_of_cell? _ _ g3)).trans g3, ?_⟩
        have h5 := MapL.look (H22.out.2.2.1.below hb).m keyN und_map (z := .agg #[.string ByteArray.empty, .int .i64 0]) (Tryz.zeroValue71 _) true s
        rw [hg] at h5
        exact h5
      have HS3 := Lib.hid hS3
      clear hS3
      refine hK.out _ _ (HS3.out _ _ rfl) (fun hH => ?_)
      clear hK K
      try simp only [Act.put, List.setIfInBounds_toArray, List.set_cons_zero, List.set_cons_succ]
      refine wpAnyK_one (i := 10) (by kernel_rfl) rfl (fun K hK => ?_) (by kernel_rfl)
      go_simp
      refine hK.out _ _ (HS3.out _ _ rfl) (fun hH => ?_)
      clear hK K
      try simp only [Act.put, List.setIfInBounds_toArray, List.set_cons_zero, List.set_cons_succ]
      refine wpAnyK_last (by kernel_rfl) rfl (fun K hK => ?_) (by kernel_rfl)
      go_simp
      refine hK.out _ _ (wpAnyK_done (by kernel_rfl) ?_ _)
      clear hK K hH
      obtain ⟨w4, hw4⟩ : ∃ w4, w4 = (w2.alloc (.cells #[.string ByteArray.empty, .int .i64 0] 71)).drew := ⟨_, rfl⟩
      have hb24 : Below w2.heap.size w2 w4 := by rw [hw4]; exact ((Below.refl _ _).alloc (Nat.le_refl _) _).drew
      have q0 : w4.cell? ⟨w2.heap.size, 0, none⟩ = some (.string ByteArray.empty) := by rw [hw4]; simp [go_sem]
      have q1 : w4.cell? ⟨w2.heap.size, 1, none⟩ = some (.int .i64 0) := by rw [hw4]; simp [go_sem]
      have qf : ∀ j, w4.frozen? ⟨w2.heap.size, j, none⟩ = false := fun j => by rw [hw4]; simp [go_sem]
      have qz : w4.heap.size = w2.heap.size + 1 := by rw [hw4]; simp
      rw [← hw4]
      clear hw4 hlk kd1 kd2 kd3 HS3
      have e1 := (hb24.cell (p := ⟨w.heap.size, 0, none⟩) (World.block_lt_of_cell? _ _ g1)).trans g1
      have eN := (hb24.cell (p := ⟨w.heap.size + 1, 0, none⟩) (World.block_lt_of_cell? _ _ gN)).trans gN
      have hb04 : Below w.heap.size w w4 := H22.out.1.trans (hb24.mono H22.out.1.size)
      have e3 := (hb04.cell (p := ⟨db, 0, none⟩) hlt).trans H.out.1.c0
      have H4 := Lib.hid (And.intro hb04 (And.intro (H.out.1.below hb04) (And.intro q0 (And.intro q1 (And.intro qf (And.intro qz hb24))))))
      clear hb24 hb04 qf qz
      by_cases hfull : 20000 ≤ D.m.length
      · have r1 : (20000 : Int) ≤ (D.m.length : Int) := by omega
        have hlen := fun ty => MapV.len (P := Tryz.prog) (ob := some mb) (show MapV ckN cvF w4 (some mb) D.m from H4.out.2.1.m) und_map ty
        have hres : D.create s = (24, D) := by
          unfold Dk.create
          rw [H.out.2.2, HE.out.1, if_neg (by decide)]
          rw [hg]; simp only [Option.isSome_none, Bool.false_eq_true, if_false]; rw [if_pos hfull]
        have HR := Lib.hid hres
        clear hres
        go_wp2
        go_ret
        exact ⟨by rw [HR.out]; rfl, by rw [HR.out]; exact H4.out.2.1, Tn.ofBelow H4.out.1⟩
      · have r1 : ¬ (20000 : Int) ≤ (D.m.length : Int) := by omega
        have hlen := fun ty => MapV.len (P := Tryz.prog) (ob := some mb) (show MapV ckN cvF w4 (some mb) D.m from H4.out.2.1.m) und_map ty
        have hres : D.create s = D.act (fun m => setL m s ⟨ByteArray.empty, 0⟩) := by
          unfold Dk.create
          rw [H.out.2.2, HE.out.1, if_neg (by decide)]
          rw [hg]; simp only [Option.isSome_none, Bool.false_eq_true, if_false]; rw [if_neg hfull]
        have HR := Lib.hid hres
        clear hres
        have h4 : DkAt (fun q => F q ∨ q = w2.heap.size) w4 db mb D := H22.out.2.2.1.more (fun q hq => .inl hq) (fun q hq => hq.elim .inl (fun e => .inr (by omega))) (fun q hq => hq.elim (fun h => Nat.lt_of_lt_of_le (H22.out.2.2.1.lt q h) (by have := H4.out.2.2.2.2.2.1; omega)) (fun e => by have := H4.out.2.2.2.2.2.1; omega)) H4.out.2.2.2.2.2.2
        have n0 : ∀ k, ¬ two db mb (w.heap.size + k) := fun k hq => by
          have := H.out.1.m.lt
          rcases hq with e | e <;> omega
        have nF : ¬ two db mb w2.heap.size := fun hq => by
          have := H.out.1.m.lt
          have := H22.out.2.2.2
          rcases hq with e | e <;> omega
        have hd : Does (fun q => F q ∨ q = w2.heap.size) (fun _ => False) 106 #[.pointer (some ⟨w.heap.size, 0, none⟩), .pointer (some ⟨w.heap.size + 1, 0, none⟩)] w4 db mb D (fun m => setL m s ⟨ByteArray.empty, 0⟩) := create1_does e1 eN (n0 0) (n0 1) HE.out.2 (Dk.Ok.set' H.out.1.ok (by omega) HE.out.2 ⟨Nat.le_refl _, by decide⟩)
        have HD := Lib.hid (And.intro h4 hd)
        clear h4 hd n0 nF g1 g3 gN
        go_wp2_with fail
        refine (act_any HD.out.1 H.out.2.1 ha (enters_of Tryz.func106 (by kernel_rfl) rfl) HD.out.2).mono ?_
        rintro e w5 ⟨rfl, hd5, ht5⟩
        have H5 := Lib.hid (And.intro hd5 ht5)
        clear hd5 ht5
        go_wp2
        go_ret
        refine ⟨by rw [HR.out]; rfl, ?_, (Tn.ofBelow H4.out.1).andThen H5.out.2 (fun q hq => ?_)⟩
        · rw [HR.out]
          exact H5.out.1.less (fun q hq => .inl hq) H.out.1.fd H.out.1.fm
        · rcases hq with hq | hq
          · exact .inl hq
          · exact hq.elim
    | some f =>
      obtain ⟨fd, fs⟩ := f
      have hfs := H.out.1.ok.syn _ (getL_mem hg)
      simp only at hfs
      have hlk : (Instr.lookup 62 (.map (some mb)) (.string s) true).run Tryz.prog w2.drew = .ok (.tuple #[.agg #[.string fd, .int .i64 (fs : Int)], .bool true]) w2.drew := by
        have h5 := MapL.look (H22.out.2.2.1.below (Below.refl _ _).drew).m keyN und_map (z := .agg #[.string ByteArray.empty, .int .i64 0]) (Tryz.zeroValue71 _) true s
        rw [hg] at h5
        exact h5
      refine wp_region_K (fun w' => w'.cell? ⟨w.heap.size, 0, none⟩ = some (.pointer (some ⟨db, 0, none⟩)) ∧ w'.cell? ⟨w.heap.size + 1, 0, none⟩ = some (.string s) ∧ w'.cell? ⟨db, 0, none⟩ = some (.map (some mb)) ∧ (Instr.lookup 62 (.map (some mb)) (.string s) true).run Tryz.prog w' = .ok (.tuple #[.agg #[.string fd, .int .i64 (fs : Int)], .bool true]) w') 11 12 (by kernel_rfl) (by kernel_rfl) ⟨kd1, kd2, kd3, hlk⟩ (fun hH => ?_)
      refine wpAnyK_take (i := 0) [11] (v := ?v38) rfl (by kernel_rfl) (by kernel_rfl) (by kernel_rfl) (by kernel_rfl) (fun _ _ _ h => h) (Or.inl ⟨by rfl, ?hy38⟩) hH ?rest38
      case hy38 => (intro w hSw; (try dsimp only at hSw); go_simp; with_reducible rfl)
      try simp only [Act.put, List.setIfInBounds_toArray, List.set_cons_zero, List.set_cons_succ]
      refine wpAnyK_take (i := 1) [11] (v := ?v39) rfl (by kernel_rfl) (by kernel_rfl) (by kernel_rfl) (by kernel_rfl) (fun _ _ _ h => h) (Or.inl ⟨by rfl, ?hy39⟩) hH ?rest39
      case hy39 => (intro w hSw; (try dsimp only at hSw); go_simp; with_reducible rfl)
      try simp only [Act.put, List.setIfInBounds_toArray, List.set_cons_zero, List.set_cons_succ]
      refine wpAnyK_take (i := 2) [11] (v := ?v40) rfl (by kernel_rfl) (by kernel_rfl) (by kernel_rfl) (by kernel_rfl) (fun _ _ _ h => h) (Or.inl ⟨by rfl, ?hy40⟩) hH ?rest40
      case hy40 => (intro w hSw; (try dsimp only at hSw); go_simp; with_reducible rfl)
      try simp only [Act.put, List.setIfInBounds_toArray, List.set_cons_zero, List.set_cons_succ]
      refine wpAnyK_take (i := 3) [11] (v := ?v41) rfl (by kernel_rfl) (by kernel_rfl) (by kernel_rfl) (by kernel_rfl) (fun _ _ _ h => h) (Or.inl ⟨by rfl, ?hy41⟩) hH ?rest41
      case hy41 => (intro w hSw; (try dsimp only at hSw); go_simp; with_reducible rfl)
      try simp only [Act.put, List.setIfInBounds_toArray, List.set_cons_zero, List.set_cons_succ]
      refine wpAnyK_take (i := 4) [11] (v := ?v42) rfl (by kernel_rfl) (by kernel_rfl) (by kernel_rfl) (by kernel_rfl) (fun _ _ _ h => h) (Or.inl ⟨by rfl, ?hy42⟩) hH ?rest42
      case hy42 => (intro w hSw; (try dsimp only at hSw); go_simp; with_reducible rfl)
      try simp only [Act.put, List.setIfInBounds_toArray, List.set_cons_zero, List.set_cons_succ]
      refine wpAnyK_take (i := 5) [11] (v := ?v43) rfl (by kernel_rfl) (by kernel_rfl) (by kernel_rfl) (by kernel_rfl) (fun _ _ _ h => h) (Or.inl ⟨by rfl, ?hy43⟩) hH ?rest43
      case hy43 => (intro w hSw; (try dsimp only at hSw); go_simp; with_reducible rfl)
      try simp only [Act.put, List.setIfInBounds_toArray, List.set_cons_zero, List.set_cons_succ]
      refine wpAnyK_take (i := 6) [11] (v := ?v44) rfl (by kernel_rfl) (by kernel_rfl) (by kernel_rfl) (by kernel_rfl) (fun _ _ _ h => h) (Or.inl ⟨by rfl, ?hy44⟩) hH ?rest44
      case hy44 => (intro w hSw; (try dsimp only at hSw); go_simp; with_reducible rfl)
      try simp only [Act.put, List.setIfInBounds_toArray, List.set_cons_zero, List.set_cons_succ]
      refine wpAnyK_take (i := 7) [11] (v := ?v45) rfl (by kernel_rfl) (by kernel_rfl) (by kernel_rfl) (by kernel_rfl) (fun _ _ _ h => h) (Or.inl ⟨by rfl, ?hy45⟩) hH ?rest45
      case hy45 => (intro w hSw; (try dsimp only at hSw); go_simp; with_reducible rfl)
      try simp only [Act.put, List.setIfInBounds_toArray, List.set_cons_zero, List.set_cons_succ]
      refine wpAnyK_take (i := 8) [11] (v := ?v46) rfl (by kernel_rfl) (by kernel_rfl) (by kernel_rfl) (by kernel_rfl) (fun _ _ _ h => h) (Or.inl ⟨by rfl, ?hy46⟩) hH ?rest46
      case hy46 => (intro w hSw; (try dsimp only at hSw); go_simp; with_reducible rfl)
      try simp only [Act.put, List.setIfInBounds_toArray, List.set_cons_zero, List.set_cons_succ]
      refine wpAnyK_one (i := 9) (by kernel_rfl) rfl (fun K hK => ?_) (by kernel_rfl)
      go_simp
      have hS3 : ∀ (x : Obj) (W : World), W = (w2.alloc x).drew → W.cell? ⟨w.heap.size, 0, none⟩ = some (.pointer (some ⟨db, 0, none⟩)) ∧ W.cell? ⟨w.heap.size + 1, 0, none⟩ = some (.string s) ∧ W.cell? ⟨db, 0, none⟩ = some (.map (some mb)) ∧ (Instr.lookup 62 (.map (some mb)) (.string s) true).run Tryz.prog W = .ok (.tuple #[.agg #[.string fd, .int .i64 (fs : Int)], .bool true]) W := by
        intro x W hW
        subst hW
        have hb : Below w2.heap.size w2 (w2.alloc x).drew := ((Below.refl _ _).alloc (Nat.le_refl _) _).drew
        refine ⟨(hb.cell (p := ⟨w.heap.size, 0, none⟩) (World.block_lt_of_cell? _ _ g1)).trans g1, (hb.cell (p := ⟨w.heap.size + 1, 0, none⟩) (World.block_lt_of_cell? _ _ gN)).trans gN, (hb.cell (p := ⟨db, 0, none⟩) (World.block_lt_of_cell? _ _ g3)).trans g3, ?_⟩
        have h5 := MapL.look (H22.out.2.2.1.below hb).m keyN und_map (z := .agg #[.string ByteArray.empty, .int .i64 0]) (Tryz.zeroValue71 _) true s
        rw [hg] at h5
        exact h5
      have HS3 := Lib.hid hS3
      clear hS3
      refine hK.out _ _ (HS3.out _ _ rfl) (fun hH => ?_)
      clear hK K
      try simp only [Act.put, List.setIfInBounds_toArray, List.set_cons_zero, List.set_cons_succ]
      refine wpAnyK_one (i := 10) (by kernel_rfl) rfl (fun K hK => ?_) (by kernel_rfl)
      go_simp
      refine hK.out _ _ (HS3.out _ _ rfl) (fun hH => ?_)
      clear hK K
      try simp only [Act.put, List.setIfInBounds_toArray, List.set_cons_zero, List.set_cons_succ]
      refine wpAnyK_last (by kernel_rfl) rfl (fun K hK => ?_) (by kernel_rfl)
      go_simp
      refine hK.out _ _ (wpAnyK_done (by kernel_rfl) ?_ _)
      clear hK K hH
      obtain ⟨w4, hw4⟩ : ∃ w4, w4 = (w2.alloc (.cells #[.string fd, .int .i64 (fs : Int)] 71)).drew := ⟨_, rfl⟩
      have hb24 : Below w2.heap.size w2 w4 := by rw [hw4]; exact ((Below.refl _ _).alloc (Nat.le_refl _) _).drew
      have q0 : w4.cell? ⟨w2.heap.size, 0, none⟩ = some (.string fd) := by rw [hw4]; simp [go_sem]
      have q1 : w4.cell? ⟨w2.heap.size, 1, none⟩ = some (.int .i64 (fs : Int)) := by rw [hw4]; simp [go_sem]
      have qf : ∀ j, w4.frozen? ⟨w2.heap.size, j, none⟩ = false := fun j => by rw [hw4]; simp [go_sem]
      have qz : w4.heap.size = w2.heap.size + 1 := by rw [hw4]; simp
      rw [← hw4]
      clear hw4 hlk kd1 kd2 kd3 HS3
      have e1 := (hb24.cell (p := ⟨w.heap.size, 0, none⟩) (World.block_lt_of_cell? _ _ g1)).trans g1
      have eN := (hb24.cell (p := ⟨w.heap.size + 1, 0, none⟩) (World.block_lt_of_cell? _ _ gN)).trans gN
      have hb04 : Below w.heap.size w w4 := H22.out.1.trans (hb24.mono H22.out.1.size)
      have e3 := (hb04.cell (p := ⟨db, 0, none⟩) hlt).trans H.out.1.c0
      have H4 := Lib.hid (And.intro hb04 (And.intro (H.out.1.below hb04) (And.intro q0 (And.intro q1 (And.intro qf (And.intro qz hb24))))))
      clear hb24 hb04 qf qz
      have hres : D.create s = (23, D) := by
        unfold Dk.create
        rw [H.out.2.2, HE.out.1, if_neg (by decide)]
        rw [hg]; rfl
      have HR := Lib.hid hres
      clear hres
      go_wp2
      go_ret
      exact ⟨by rw [HR.out]; rfl, by rw [HR.out]; exact H4.out.2.1, Tn.ofBelow H4.out.1⟩

set_option maxRecDepth 100000 in
set_option maxHeartbeats 4000000 in
theorem sync_any (h : DkAt F w db mb D) (hon : D.on = true) (ha : D.acts < 1000000) (s : ByteArray) (hs : s.size ≤ 140737488351232) :
    Calls Tryz.prog 24 #[.pointer (some ⟨db, 0, none⟩), .string s] w fun e w' => e = .returned (.int .i64 (D.sync s).1) ∧ DkAt F w' db mb (D.sync s).2 ∧ Tn (two db mb) w w' := by
  have hask : D.asked [s] = askE true [s] := by unfold Dk.asked askE; rw [hon]
  have c1 := h.c1
  rw [hon] at c1
  have hlt := h.ltd
  have hmf : ∀ (fn : Fn) (first cap : Array Value) (w : World), (Instr.makeFunc fn first cap).run Tryz.prog w = .ok (.func fn first cap) w := fun _ _ _ _ => rfl
  have H := Lib.hid (And.intro h (And.intro hon hask))
  clear h hon hask
  obtain ⟨W1, hW1⟩ : ∃ W1, (w.alloc (.cells #[.pointer (some ⟨db, 0, none⟩)] 43)).alloc (.cells #[.string s] 9) = W1 := ⟨_, rfl⟩
  have b1 : Below w.heap.size w W1 := by rw [← hW1]; exact ((Below.refl _ _).alloc (Nat.le_refl _) _).alloc (by simp) _
  have z1 : W1.heap.size = w.heap.size + 2 := by rw [← hW1]; simp
  have dD : W1.cell? ⟨w.heap.size, 0, none⟩ = some (.pointer (some ⟨db, 0, none⟩)) := by rw [← hW1]; simp [go_sem]
  have dN : W1.cell? ⟨w.heap.size + 1, 0, none⟩ = some (.string s) := by rw [← hW1]; simp [go_sem]
  have on1 : OnAt W1 (some ⟨db, 0, none⟩) true := .inr ⟨db, rfl, (b1.cell (p := ⟨db, 1, none⟩) hlt).trans c1⟩
  have hr1 : RdT (W1.alloc (.cells #[.string s] 9)) (.slice (some ⟨W1.heap.size, 0, none⟩) 1 1) [s] := rdT_one (by simp [go_sem]) 1
  have hA := asked_any (on1.below ((Below.refl _ _).alloc (Nat.le_refl _) _)) hr1 (by simp) (fun x hx => by rw [List.mem_singleton] at hx; subst hx; omega)
  have H1 := Lib.hid (And.intro b1 z1)
  clear on1 hr1 b1 z1
  cases hnm : [s].all nmB
  · have he : askE true [s] = 21 := by simp only [askE, hnm]; rfl
    rw [he] at hA
    have hres : D.sync s = (21, D) := by
      unfold Dk.sync
      rw [H.out.2.2, he, if_pos (by decide)]
    rw [hres]
    clear he hres hnm
    go_enter Tryz.func24, Tryz.ntmps24
    go_wp2_with (go_at_call 103; refine hA.mono ?_; rintro e w2 ⟨rfl, hb2⟩; have H2 := Lib.hid hb2; clear hb2)
    go_ret
    have hb : Below w.heap.size w w2 := H1.out.1.trans ((((Below.refl _ _).alloc (Nat.le_refl _) _).trans (H2.out.mono (by simp))).mono H1.out.1.size)
    exact ⟨rfl, H.out.1.below hb, Tn.ofBelow hb⟩
  · have he : askE true [s] = 0 := by simp only [askE, hnm]; rfl
    rw [he] at hA
    simp only [List.all_cons, List.all_nil, Bool.and_true, Bool.and_eq_true] at hnm
    have hl64 := nm_le hnm
    have HE := Lib.hid (And.intro he hl64)
    clear he hnm hl64
    go_enter Tryz.func24, Tryz.ntmps24
    go_wp2_with (go_at_call 103; refine hA.mono ?_; rintro e w2 ⟨rfl, hb2⟩; have H2 := Lib.hid hb2; clear hb2)
    have hb12 : Below w.heap.size w w2 := H1.out.1.trans ((((Below.refl _ _).alloc (Nat.le_refl _) _).trans (H2.out.mono (by simp))).mono H1.out.1.size)
    have hb2' : Below W1.heap.size W1 w2 := ((Below.refl _ _).alloc (Nat.le_refl _) _).trans (H2.out.mono (by simp))
    have g1 : w2.cell? ⟨w.heap.size, 0, none⟩ = some (.pointer (some ⟨db, 0, none⟩)) := (hb2'.cell (p := ⟨w.heap.size, 0, none⟩) (by have := H1.out.2; simp; omega)).trans dD
    have gN : w2.cell? ⟨w.heap.size + 1, 0, none⟩ = some (.string s) := (hb2'.cell (p := ⟨w.heap.size + 1, 0, none⟩) (by have := H1.out.2; simp; omega)).trans dN
    have h2 := H.out.1.below hb12
    have g3 := h2.c0
    have hz2 : w.heap.size + 2 ≤ w2.heap.size := by have := hb2'.size; have := H1.out.2; omega
    have H22 := Lib.hid (And.intro hb12 (And.intro hb2' (And.intro h2 hz2)))
    clear dD dN hb12 hb2' h2 hA hW1
    have kd1 : w2.drew.cell? ⟨w.heap.size, 0, none⟩ = some (.pointer (some ⟨db, 0, none⟩)) := g1
    have kd2 : w2.drew.cell? ⟨w.heap.size + 1, 0, none⟩ = some (.string s) := gN
    have kd3 : w2.drew.cell? ⟨db, 0, none⟩ = some (.map (some mb)) := g3
    cases hg : getL D.m s with
    | none =>
      have hlk : (Instr.lookup 62 (.map (some mb)) (.string s) true).run Tryz.prog w2.drew = .ok (.tuple #[.agg #[.string ByteArray.empty, .int .i64 0], .bool false]) w2.drew := by
        have h5 := MapL.look (H22.out.2.2.1.below (Below.refl _ _).drew).m keyN und_map (z := .agg #[.string ByteArray.empty, .int .i64 0]) (Tryz.zeroValue71 _) true s
        rw [hg] at h5
        exact h5
      refine wp_region_K (fun w' => w'.cell? ⟨w.heap.size, 0, none⟩ = some (.pointer (some ⟨db, 0, none⟩)) ∧ w'.cell? ⟨w.heap.size + 1, 0, none⟩ = some (.string s) ∧ w'.cell? ⟨db, 0, none⟩ = some (.map (some mb)) ∧ (Instr.lookup 62 (.map (some mb)) (.string s) true).run Tryz.prog w' = .ok (.tuple #[.agg #[.string ByteArray.empty, .int .i64 0], .bool false]) w') 11 12 (by kernel_rfl) (by kernel_rfl) ⟨kd1, kd2, kd3, hlk⟩ (fun hH => ?_)
      refine wpAnyK_take (i := 0) [11] (v := ?v47) rfl (by kernel_rfl) (by kernel_rfl) (by kernel_rfl) (by kernel_rfl) (fun _ _ _ h => h) (Or.inl ⟨by rfl, ?hy47⟩) hH ?rest47
      case hy47 => (intro w hSw; (try dsimp only at hSw); go_simp; with_reducible rfl)
      try simp only [Act.put, List.setIfInBounds_toArray, List.set_cons_zero, List.set_cons_succ]
      refine wpAnyK_take (i := 1) [11] (v := ?v48) rfl (by kernel_rfl) (by kernel_rfl) (by kernel_rfl) (by kernel_rfl) (fun _ _ _ h => h) (Or.inl ⟨by rfl, ?hy48⟩) hH ?rest48
      case hy48 => (intro w hSw; (try dsimp only at hSw); go_simp; with_reducible rfl)
      try simp only [Act.put, List.setIfInBounds_toArray, List.set_cons_zero, List.set_cons_succ]
      refine wpAnyK_take (i := 2) [11] (v := ?v49) rfl (by kernel_rfl) (by kernel_rfl) (by kernel_rfl) (by kernel_rfl) (fun _ _ _ h => h) (Or.inl ⟨by rfl, ?hy49⟩) hH ?rest49
      case hy49 => (intro w hSw; (try dsimp only at hSw); go_simp; with_reducible rfl)
      try simp only [Act.put, List.setIfInBounds_toArray, List.set_cons_zero, List.set_cons_succ]
      refine wpAnyK_take (i := 3) [11] (v := ?v50) rfl (by kernel_rfl) (by kernel_rfl) (by kernel_rfl) (by kernel_rfl) (fun _ _ _ h => h) (Or.inl ⟨by rfl, ?hy50⟩) hH ?rest50
      case hy50 => (intro w hSw; (try dsimp only at hSw); go_simp; with_reducible rfl)
      try simp only [Act.put, List.setIfInBounds_toArray, List.set_cons_zero, List.set_cons_succ]
      refine wpAnyK_take (i := 4) [11] (v := ?v51) rfl (by kernel_rfl) (by kernel_rfl) (by kernel_rfl) (by kernel_rfl) (fun _ _ _ h => h) (Or.inl ⟨by rfl, ?hy51⟩) hH ?rest51
      case hy51 => (intro w hSw; (try dsimp only at hSw); go_simp; with_reducible rfl)
      try simp only [Act.put, List.setIfInBounds_toArray, List.set_cons_zero, List.set_cons_succ]
      refine wpAnyK_take (i := 5) [11] (v := ?v52) rfl (by kernel_rfl) (by kernel_rfl) (by kernel_rfl) (by kernel_rfl) (fun _ _ _ h => h) (Or.inl ⟨by rfl, ?hy52⟩) hH ?rest52
      case hy52 => (intro w hSw; (try dsimp only at hSw); go_simp; with_reducible rfl)
      try simp only [Act.put, List.setIfInBounds_toArray, List.set_cons_zero, List.set_cons_succ]
      refine wpAnyK_take (i := 6) [11] (v := ?v53) rfl (by kernel_rfl) (by kernel_rfl) (by kernel_rfl) (by kernel_rfl) (fun _ _ _ h => h) (Or.inl ⟨by rfl, ?hy53⟩) hH ?rest53
      case hy53 => (intro w hSw; (try dsimp only at hSw); go_simp; with_reducible rfl)
      try simp only [Act.put, List.setIfInBounds_toArray, List.set_cons_zero, List.set_cons_succ]
      refine wpAnyK_take (i := 7) [11] (v := ?v54) rfl (by kernel_rfl) (by kernel_rfl) (by kernel_rfl) (by kernel_rfl) (fun _ _ _ h => h) (Or.inl ⟨by rfl, ?hy54⟩) hH ?rest54
      case hy54 => (intro w hSw; (try dsimp only at hSw); go_simp; with_reducible rfl)
      try simp only [Act.put, List.setIfInBounds_toArray, List.set_cons_zero, List.set_cons_succ]
      refine wpAnyK_take (i := 8) [11] (v := ?v55) rfl (by kernel_rfl) (by kernel_rfl) (by kernel_rfl) (by kernel_rfl) (fun _ _ _ h => h) (Or.inl ⟨by rfl, ?hy55⟩) hH ?rest55
      case hy55 => (intro w hSw; (try dsimp only at hSw); go_simp; with_reducible rfl)
      try simp only [Act.put, List.setIfInBounds_toArray, List.set_cons_zero, List.set_cons_succ]
      refine wpAnyK_one (i := 9) (by kernel_rfl) rfl (fun K hK => ?_) (by kernel_rfl)
      go_simp
      have hS3 : ∀ (x : Obj) (W : World), W = (w2.alloc x).drew → W.cell? ⟨w.heap.size, 0, none⟩ = some (.pointer (some ⟨db, 0, none⟩)) ∧ W.cell? ⟨w.heap.size + 1, 0, none⟩ = some (.string s) ∧ W.cell? ⟨db, 0, none⟩ = some (.map (some mb)) ∧ (Instr.lookup 62 (.map (some mb)) (.string s) true).run Tryz.prog W = .ok (.tuple #[.agg #[.string ByteArray.empty, .int .i64 0], .bool false]) W := by
        intro x W hW
        subst hW
        have hb : Below w2.heap.size w2 (w2.alloc x).drew := ((Below.refl _ _).alloc (Nat.le_refl _) _).drew
        refine ⟨(hb.cell (p := ⟨w.heap.size, 0, none⟩) (World.block_lt_of_cell? _ _ g1)).trans g1, (hb.cell (p := ⟨w.heap.size + 1, 0, none⟩) (World.block_lt_of_cell? _ _ gN)).trans gN, (hb.cell (p := ⟨db, 0, none⟩) (World.block_lt_of_cell? _ _ g3)).trans g3, ?_⟩
        have h5 := MapL.look (H22.out.2.2.1.below hb).m keyN und_map (z := .agg #[.string ByteArray.empty, .int .i64 0]) (Tryz.zeroValue71 _) true s
        rw [hg] at h5
        exact h5
      have HS3 := Lib.hid hS3
      clear hS3
      refine hK.out _ _ (HS3.out _ _ rfl) (fun hH => ?_)
      clear hK K
      try simp only [Act.put, List.setIfInBounds_toArray, List.set_cons_zero, List.set_cons_succ]
      refine wpAnyK_one (i := 10) (by kernel_rfl) rfl (fun K hK => ?_) (by kernel_rfl)
      go_simp
      refine hK.out _ _ (HS3.out _ _ rfl) (fun hH => ?_)
      clear hK K
      try simp only [Act.put, List.setIfInBounds_toArray, List.set_cons_zero, List.set_cons_succ]
      refine wpAnyK_last (by kernel_rfl) rfl (fun K hK => ?_) (by kernel_rfl)
      go_simp
      refine hK.out _ _ (wpAnyK_done (by kernel_rfl) ?_ _)
      clear hK K hH
      obtain ⟨w4, hw4⟩ : ∃ w4, w4 = (w2.alloc (.cells #[.string ByteArray.empty, .int .i64 0] 71)).drew := ⟨_, rfl⟩
      have hb24 : Below w2.heap.size w2 w4 := by rw [hw4]; exact ((Below.refl _ _).alloc (Nat.le_refl _) _).drew
      have q0 : w4.cell? ⟨w2.heap.size, 0, none⟩ = some (.string ByteArray.empty) := by rw [hw4]; simp [go_sem]
      have q1 : w4.cell? ⟨w2.heap.size, 1, none⟩ = some (.int .i64 0) := by rw [hw4]; simp [go_sem]
      have qf : ∀ j, w4.frozen? ⟨w2.heap.size, j, none⟩ = false := fun j => by rw [hw4]; simp [go_sem]
      have qz : w4.heap.size = w2.heap.size + 1 := by rw [hw4]; simp
      rw [← hw4]
      clear hw4 hlk kd1 kd2 kd3 HS3
      have e1 := (hb24.cell (p := ⟨w.heap.size, 0, none⟩) (World.block_lt_of_cell? _ _ g1)).trans g1
      have eN := (hb24.cell (p := ⟨w.heap.size + 1, 0, none⟩) (World.block_lt_of_cell? _ _ gN)).trans gN
      have hb04 : Below w.heap.size w w4 := H22.out.1.trans (hb24.mono H22.out.1.size)
      have e3 := (hb04.cell (p := ⟨db, 0, none⟩) hlt).trans H.out.1.c0
      have H4 := Lib.hid (And.intro hb04 (And.intro (H.out.1.below hb04) (And.intro q0 (And.intro q1 (And.intro qf (And.intro qz hb24))))))
      clear hb24 hb04 qf qz
      have hres : D.sync s = (22, D) := by
        unfold Dk.sync
        rw [H.out.2.2, HE.out.1, if_neg (by decide)]
        rw [hg]
      have HR := Lib.hid hres
      clear hres
      go_wp2
      go_ret
      exact ⟨by rw [HR.out]; rfl, by rw [HR.out]; exact H4.out.2.1, Tn.ofBelow H4.out.1⟩
    | some f =>
      obtain ⟨fd, fs⟩ := f
      have hfs := H.out.1.ok.syn _ (getL_mem hg)
      simp only at hfs
      have hlk : (Instr.lookup 62 (.map (some mb)) (.string s) true).run Tryz.prog w2.drew = .ok (.tuple #[.agg #[.string fd, .int .i64 (fs : Int)], .bool true]) w2.drew := by
        have h5 := MapL.look (H22.out.2.2.1.below (Below.refl _ _).drew).m keyN und_map (z := .agg #[.string ByteArray.empty, .int .i64 0]) (Tryz.zeroValue71 _) true s
        rw [hg] at h5
        exact h5
      refine wp_region_K (fun w' => w'.cell? ⟨w.heap.size, 0, none⟩ = some (.pointer (some ⟨db, 0, none⟩)) ∧ w'.cell? ⟨w.heap.size + 1, 0, none⟩ = some (.string s) ∧ w'.cell? ⟨db, 0, none⟩ = some (.map (some mb)) ∧ (Instr.lookup 62 (.map (some mb)) (.string s) true).run Tryz.prog w' = .ok (.tuple #[.agg #[.string fd, .int .i64 (fs : Int)], .bool true]) w') 11 12 (by kernel_rfl) (by kernel_rfl) ⟨kd1, kd2, kd3, hlk⟩ (fun hH => ?_)
      refine wpAnyK_take (i := 0) [11] (v := ?v56) rfl (by kernel_rfl) (by kernel_rfl) (by kernel_rfl) (by kernel_rfl) (fun _ _ _ h => h) (Or.inl ⟨by rfl, ?hy56⟩) hH ?rest56
      case hy56 => (intro w hSw; (try dsimp only at hSw); go_simp; with_reducible rfl)
      try simp only [Act.put, List.setIfInBounds_toArray, List.set_cons_zero, List.set_cons_succ]
      refine wpAnyK_take (i := 1) [11] (v := ?v57) rfl (by kernel_rfl) (by kernel_rfl) (by kernel_rfl) (by kernel_rfl) (fun _ _ _ h => h) (Or.inl ⟨by rfl, ?hy57⟩) hH ?rest57
      case hy57 => (intro w hSw; (try dsimp only at hSw); go_simp; with_reducible rfl)
      try simp only [Act.put, List.setIfInBounds_toArray, List.set_cons_zero, List.set_cons_succ]
      refine wpAnyK_take (i := 2) [11] (v := ?v58) rfl (by kernel_rfl) (by kernel_rfl) (by kernel_rfl) (by kernel_rfl) (fun _ _ _ h => h) (Or.inl ⟨by rfl, ?hy58⟩) hH ?rest58
      case hy58 => (intro w hSw; (try dsimp only at hSw); go_simp; with_reducible rfl)
      try simp only [Act.put, List.setIfInBounds_toArray, List.set_cons_zero, List.set_cons_succ]
      refine wpAnyK_take (i := 3) [11] (v := ?v59) rfl (by kernel_rfl) (by kernel_rfl) (by kernel_rfl) (by kernel_rfl) (fun _ _ _ h => h) (Or.inl ⟨by rfl, ?hy59⟩) hH ?rest59
      case hy59 => (intro w hSw; (try dsimp only at hSw); go_simp; with_reducible rfl)
      try simp only [Act.put, List.setIfInBounds_toArray, List.set_cons_zero, List.set_cons_succ]
      refine wpAnyK_take (i := 4) [11] (v := ?v60) rfl (by kernel_rfl) (by kernel_rfl) (by kernel_rfl) (by kernel_rfl) (fun _ _ _ h => h) (Or.inl ⟨by rfl, ?hy60⟩) hH ?rest60
      case hy60 => (intro w hSw; (try dsimp only at hSw); go_simp; with_reducible rfl)
      try simp only [Act.put, List.setIfInBounds_toArray, List.set_cons_zero, List.set_cons_succ]
      refine wpAnyK_take (i := 5) [11] (v := ?v61) rfl (by kernel_rfl) (by kernel_rfl) (by kernel_rfl) (by kernel_rfl) (fun _ _ _ h => h) (Or.inl ⟨by rfl, ?hy61⟩) hH ?rest61
      case hy61 => (intro w hSw; (try dsimp only at hSw); go_simp; with_reducible rfl)
      try simp only [Act.put, List.setIfInBounds_toArray, List.set_cons_zero, List.set_cons_succ]
      refine wpAnyK_take (i := 6) [11] (v := ?v62) rfl (by kernel_rfl) (by kernel_rfl) (by kernel_rfl) (by kernel_rfl) (fun _ _ _ h => h) (Or.inl ⟨by rfl, ?hy62⟩) hH ?rest62
      case hy62 => (intro w hSw; (try dsimp only at hSw); go_simp; with_reducible rfl)
      try simp only [Act.put, List.setIfInBounds_toArray, List.set_cons_zero, List.set_cons_succ]
      refine wpAnyK_take (i := 7) [11] (v := ?v63) rfl (by kernel_rfl) (by kernel_rfl) (by kernel_rfl) (by kernel_rfl) (fun _ _ _ h => h) (Or.inl ⟨by rfl, ?hy63⟩) hH ?rest63
      case hy63 => (intro w hSw; (try dsimp only at hSw); go_simp; with_reducible rfl)
      try simp only [Act.put, List.setIfInBounds_toArray, List.set_cons_zero, List.set_cons_succ]
      refine wpAnyK_take (i := 8) [11] (v := ?v64) rfl (by kernel_rfl) (by kernel_rfl) (by kernel_rfl) (by kernel_rfl) (fun _ _ _ h => h) (Or.inl ⟨by rfl, ?hy64⟩) hH ?rest64
      case hy64 => (intro w hSw; (try dsimp only at hSw); go_simp; with_reducible rfl)
      try simp only [Act.put, List.setIfInBounds_toArray, List.set_cons_zero, List.set_cons_succ]
      refine wpAnyK_one (i := 9) (by kernel_rfl) rfl (fun K hK => ?_) (by kernel_rfl)
      go_simp
      have hS3 : ∀ (x : Obj) (W : World), W = (w2.alloc x).drew → W.cell? ⟨w.heap.size, 0, none⟩ = some (.pointer (some ⟨db, 0, none⟩)) ∧ W.cell? ⟨w.heap.size + 1, 0, none⟩ = some (.string s) ∧ W.cell? ⟨db, 0, none⟩ = some (.map (some mb)) ∧ (Instr.lookup 62 (.map (some mb)) (.string s) true).run Tryz.prog W = .ok (.tuple #[.agg #[.string fd, .int .i64 (fs : Int)], .bool true]) W := by
        intro x W hW
        subst hW
        have hb : Below w2.heap.size w2 (w2.alloc x).drew := ((Below.refl _ _).alloc (Nat.le_refl _) _).drew
        refine ⟨(hb.cell (p := ⟨w.heap.size, 0, none⟩) (World.block_lt_of_cell? _ _ g1)).trans g1, (hb.cell (p := ⟨w.heap.size + 1, 0, none⟩) (World.block_lt_of_cell? _ _ gN)).trans gN, (hb.cell (p := ⟨db, 0, none⟩) (World.block_lt_of_cell? _ _ g3)).trans g3, ?_⟩
        have h5 := MapL.look (H22.out.2.2.1.below hb).m keyN und_map (z := .agg #[.string ByteArray.empty, .int .i64 0]) (Tryz.zeroValue71 _) true s
        rw [hg] at h5
        exact h5
      have HS3 := Lib.hid hS3
      clear hS3
      refine hK.out _ _ (HS3.out _ _ rfl) (fun hH => ?_)
      clear hK K
      try simp only [Act.put, List.setIfInBounds_toArray, List.set_cons_zero, List.set_cons_succ]
      refine wpAnyK_one (i := 10) (by kernel_rfl) rfl (fun K hK => ?_) (by kernel_rfl)
      go_simp
      refine hK.out _ _ (HS3.out _ _ rfl) (fun hH => ?_)
      clear hK K
      try simp only [Act.put, List.setIfInBounds_toArray, List.set_cons_zero, List.set_cons_succ]
      refine wpAnyK_last (by kernel_rfl) rfl (fun K hK => ?_) (by kernel_rfl)
      go_simp
      refine hK.out _ _ (wpAnyK_done (by kernel_rfl) ?_ _)
      clear hK K hH
      obtain ⟨w4, hw4⟩ : ∃ w4, w4 = (w2.alloc (.cells #[.string fd, .int .i64 (fs : Int)] 71)).drew := ⟨_, rfl⟩
      have hb24 : Below w2.heap.size w2 w4 := by rw [hw4]; exact ((Below.refl _ _).alloc (Nat.le_refl _) _).drew
      have q0 : w4.cell? ⟨w2.heap.size, 0, none⟩ = some (.string fd) := by rw [hw4]; simp [go_sem]
      have q1 : w4.cell? ⟨w2.heap.size, 1, none⟩ = some (.int .i64 (fs : Int)) := by rw [hw4]; simp [go_sem]
      have qf : ∀ j, w4.frozen? ⟨w2.heap.size, j, none⟩ = false := fun j => by rw [hw4]; simp [go_sem]
      have qz : w4.heap.size = w2.heap.size + 1 := by rw [hw4]; simp
      rw [← hw4]
      clear hw4 hlk kd1 kd2 kd3 HS3
      have e1 := (hb24.cell (p := ⟨w.heap.size, 0, none⟩) (World.block_lt_of_cell? _ _ g1)).trans g1
      have eN := (hb24.cell (p := ⟨w.heap.size + 1, 0, none⟩) (World.block_lt_of_cell? _ _ gN)).trans gN
      have hb04 : Below w.heap.size w w4 := H22.out.1.trans (hb24.mono H22.out.1.size)
      have e3 := (hb04.cell (p := ⟨db, 0, none⟩) hlt).trans H.out.1.c0
      have H4 := Lib.hid (And.intro hb04 (And.intro (H.out.1.below hb04) (And.intro q0 (And.intro q1 (And.intro qf (And.intro qz hb24))))))
      clear hb24 hb04 qf qz
      have hres : D.sync s = D.act (fun m => setL m s ⟨fd, fd.size⟩) := by
        unfold Dk.sync
        rw [H.out.2.2, HE.out.1, if_neg (by decide)]
        rw [hg]
      have HR := Lib.hid hres
      clear hres
      have h4 : DkAt (fun q => F q ∨ q = w2.heap.size) w4 db mb D := H22.out.2.2.1.more (fun q hq => .inl hq) (fun q hq => hq.elim .inl (fun e => .inr (by omega))) (fun q hq => hq.elim (fun h => Nat.lt_of_lt_of_le (H22.out.2.2.1.lt q h) (by have := H4.out.2.2.2.2.2.1; omega)) (fun e => by have := H4.out.2.2.2.2.2.1; omega)) H4.out.2.2.2.2.2.2
      have n0 : ∀ k, ¬ two db mb (w.heap.size + k) := fun k hq => by
        have := H.out.1.m.lt
        rcases hq with e | e <;> omega
      have nF : ¬ two db mb w2.heap.size := fun hq => by
        have := H.out.1.m.lt
        have := H22.out.2.2.2
        rcases hq with e | e <;> omega
      have hd : Does (fun q => F q ∨ q = w2.heap.size) (fun q => q = w2.heap.size) 118 #[.pointer (some ⟨w2.heap.size, 0, none⟩), .pointer (some ⟨w.heap.size, 0, none⟩), .pointer (some ⟨w.heap.size + 1, 0, none⟩)] w4 db mb D (fun m => setL m s ⟨fd, fd.size⟩) := sync1_does e1 eN q0 q1 H4.out.2.2.2.2.1 (n0 0) (n0 1) nF (by have := H22.out.2.2.2; omega) (by have := H22.out.2.2.2; omega) (.inr rfl) HE.out.2 (by rw [hg]; rfl) ⟨Nat.le_refl _, hfs.2⟩
      have HD := Lib.hid (And.intro h4 hd)
      clear h4 hd n0 nF g1 g3 gN
      go_wp2_with fail
      refine (act_any HD.out.1 H.out.2.1 ha (enters_of Tryz.func118 (by kernel_rfl) rfl) HD.out.2).mono ?_
      rintro e w5 ⟨rfl, hd5, ht5⟩
      have H5 := Lib.hid (And.intro hd5 ht5)
      clear hd5 ht5
      go_wp2
      go_ret
      refine ⟨by rw [HR.out]; rfl, ?_, (Tn.ofBelow H4.out.1).andThen H5.out.2 (fun q hq => ?_)⟩
      · rw [HR.out]
        exact H5.out.1.less (fun q hq => .inl hq) H.out.1.fd H.out.1.fm
      · rcases hq with hq | hq
        · exact .inl hq
        · exact .inr (by have := H22.out.2.2.2; omega)

set_option maxRecDepth 100000 in
set_option maxHeartbeats 4000000 in
theorem remove_any (h : DkAt F w db mb D) (hon : D.on = true) (ha : D.acts < 1000000) (s : ByteArray) (hs : s.size ≤ 140737488351232) :
    Calls Tryz.prog 28 #[.pointer (some ⟨db, 0, none⟩), .string s] w fun e w' => e = .returned (.int .i64 (D.remove s).1) ∧ DkAt F w' db mb (D.remove s).2 ∧ Tn (two db mb) w w' := by
  have hask : D.asked [s] = askE true [s] := by unfold Dk.asked askE; rw [hon]
  have c1 := h.c1
  rw [hon] at c1
  have hlt := h.ltd
  have hmf : ∀ (fn : Fn) (first cap : Array Value) (w : World), (Instr.makeFunc fn first cap).run Tryz.prog w = .ok (.func fn first cap) w := fun _ _ _ _ => rfl
  have H := Lib.hid (And.intro h (And.intro hon hask))
  clear h hon hask
  obtain ⟨W1, hW1⟩ : ∃ W1, (w.alloc (.cells #[.pointer (some ⟨db, 0, none⟩)] 43)).alloc (.cells #[.string s] 9) = W1 := ⟨_, rfl⟩
  have b1 : Below w.heap.size w W1 := by rw [← hW1]; exact ((Below.refl _ _).alloc (Nat.le_refl _) _).alloc (by simp) _
  have z1 : W1.heap.size = w.heap.size + 2 := by rw [← hW1]; simp
  have dD : W1.cell? ⟨w.heap.size, 0, none⟩ = some (.pointer (some ⟨db, 0, none⟩)) := by rw [← hW1]; simp [go_sem]
  have dN : W1.cell? ⟨w.heap.size + 1, 0, none⟩ = some (.string s) := by rw [← hW1]; simp [go_sem]
  have on1 : OnAt W1 (some ⟨db, 0, none⟩) true := .inr ⟨db, rfl, (b1.cell (p := ⟨db, 1, none⟩) hlt).trans c1⟩
  have hr1 : RdT (W1.alloc (.cells #[.string s] 9)) (.slice (some ⟨W1.heap.size, 0, none⟩) 1 1) [s] := rdT_one (by simp [go_sem]) 1
  have hA := asked_any (on1.below ((Below.refl _ _).alloc (Nat.le_refl _) _)) hr1 (by simp) (fun x hx => by rw [List.mem_singleton] at hx; subst hx; omega)
  have H1 := Lib.hid (And.intro b1 z1)
  clear on1 hr1 b1 z1
  cases hnm : [s].all nmB
  · have he : askE true [s] = 21 := by simp only [askE, hnm]; rfl
    rw [he] at hA
    have hres : D.remove s = (21, D) := by
      unfold Dk.remove
      rw [H.out.2.2, he, if_pos (by decide)]
    rw [hres]
    clear he hres hnm
    go_enter Tryz.func28, Tryz.ntmps28
    go_wp2_with (go_at_call 103; refine hA.mono ?_; rintro e w2 ⟨rfl, hb2⟩; have H2 := Lib.hid hb2; clear hb2)
    go_ret
    have hb : Below w.heap.size w w2 := H1.out.1.trans ((((Below.refl _ _).alloc (Nat.le_refl _) _).trans (H2.out.mono (by simp))).mono H1.out.1.size)
    exact ⟨rfl, H.out.1.below hb, Tn.ofBelow hb⟩
  · have he : askE true [s] = 0 := by simp only [askE, hnm]; rfl
    rw [he] at hA
    simp only [List.all_cons, List.all_nil, Bool.and_true, Bool.and_eq_true] at hnm
    have hl64 := nm_le hnm
    have HE := Lib.hid (And.intro he hl64)
    clear he hnm hl64
    go_enter Tryz.func28, Tryz.ntmps28
    go_wp2_with (go_at_call 103; refine hA.mono ?_; rintro e w2 ⟨rfl, hb2⟩; have H2 := Lib.hid hb2; clear hb2)
    have hb12 : Below w.heap.size w w2 := H1.out.1.trans ((((Below.refl _ _).alloc (Nat.le_refl _) _).trans (H2.out.mono (by simp))).mono H1.out.1.size)
    have hb2' : Below W1.heap.size W1 w2 := ((Below.refl _ _).alloc (Nat.le_refl _) _).trans (H2.out.mono (by simp))
    have g1 : w2.cell? ⟨w.heap.size, 0, none⟩ = some (.pointer (some ⟨db, 0, none⟩)) := (hb2'.cell (p := ⟨w.heap.size, 0, none⟩) (by have := H1.out.2; simp; omega)).trans dD
    have gN : w2.cell? ⟨w.heap.size + 1, 0, none⟩ = some (.string s) := (hb2'.cell (p := ⟨w.heap.size + 1, 0, none⟩) (by have := H1.out.2; simp; omega)).trans dN
    have h2 := H.out.1.below hb12
    have g3 := h2.c0
    have hz2 : w.heap.size + 2 ≤ w2.heap.size := by have := hb2'.size; have := H1.out.2; omega
    have H22 := Lib.hid (And.intro hb12 (And.intro hb2' (And.intro h2 hz2)))
    clear dD dN hb12 hb2' h2 hA hW1
    have kd1 : w2.drew.cell? ⟨w.heap.size, 0, none⟩ = some (.pointer (some ⟨db, 0, none⟩)) := g1
    have kd2 : w2.drew.cell? ⟨w.heap.size + 1, 0, none⟩ = some (.string s) := gN
    have kd3 : w2.drew.cell? ⟨db, 0, none⟩ = some (.map (some mb)) := g3
    cases hg : getL D.m s with
    | none =>
      have hlk : (Instr.lookup 62 (.map (some mb)) (.string s) true).run Tryz.prog w2.drew = .ok (.tuple #[.agg #[.string ByteArray.empty, .int .i64 0], .bool false]) w2.drew := by
        have h5 := MapL.look (H22.out.2.2.1.below (Below.refl _ _).drew).m keyN und_map (z := .agg #[.string ByteArray.empty, .int .i64 0]) (Tryz.zeroValue71 _) true s
        rw [hg] at h5
        exact h5
      refine wp_region_K (fun w' => w'.cell? ⟨w.heap.size, 0, none⟩ = some (.pointer (some ⟨db, 0, none⟩)) ∧ w'.cell? ⟨w.heap.size + 1, 0, none⟩ = some (.string s) ∧ w'.cell? ⟨db, 0, none⟩ = some (.map (some mb)) ∧ (Instr.lookup 62 (.map (some mb)) (.string s) true).run Tryz.prog w' = .ok (.tuple #[.agg #[.string ByteArray.empty, .int .i64 0], .bool false]) w') 11 12 (by kernel_rfl) (by kernel_rfl) ⟨kd1, kd2, kd3, hlk⟩ (fun hH => ?_)
      refine wpAnyK_take (i := 0) [11] (v := ?v65) rfl (by kernel_rfl) (by kernel_rfl) (by kernel_rfl) (by kernel_rfl) (fun _ _ _ h => h) (Or.inl ⟨by rfl, ?hy65⟩) hH ?rest65
      case hy65 => (intro w hSw; (try dsimp only at hSw); go_simp; with_reducible rfl)
      try simp only [Act.put, List.setIfInBounds_toArray, List.set_cons_zero, List.set_cons_succ]
      refine wpAnyK_take (i := 1) [11] (v := ?v66) rfl (by kernel_rfl) (by kernel_rfl) (by kernel_rfl) (by kernel_rfl) (fun _ _ _ h => h) (Or.inl ⟨by rfl, ?hy66⟩) hH ?rest66
      case hy66 => (intro w hSw; (try dsimp only at hSw); go_simp; with_reducible rfl)
      try simp only [Act.put, List.setIfInBounds_toArray, List.set_cons_zero, List.set_cons_succ]
      refine wpAnyK_take (i := 2) [11] (v := ?v67) rfl (by kernel_rfl) (by kernel_rfl) (by kernel_rfl) (by kernel_rfl) (fun _ _ _ h => h) (Or.inl ⟨by rfl, ?hy67⟩) hH ?rest67
      case hy67 => (intro w hSw; (try dsimp only at hSw); go_simp; with_reducible rfl)
      try simp only [Act.put, List.setIfInBounds_toArray, List.set_cons_zero, List.set_cons_succ]
      refine wpAnyK_take (i := 3) [11] (v := ?v68) rfl (by kernel_rfl) (by kernel_rfl) (by kernel_rfl) (by kernel_rfl) (fun _ _ _ h => h) (Or.inl ⟨by rfl, ?hy68⟩) hH ?rest68
      case hy68 => (intro w hSw; (try dsimp only at hSw); go_simp; with_reducible rfl)
      try simp only [Act.put, List.setIfInBounds_toArray, List.set_cons_zero, List.set_cons_succ]
      refine wpAnyK_take (i := 4) [11] (v := ?v69) rfl (by kernel_rfl) (by kernel_rfl) (by kernel_rfl) (by kernel_rfl) (fun _ _ _ h => h) (Or.inl ⟨by rfl, ?hy69⟩) hH ?rest69
      case hy69 => (intro w hSw; (try dsimp only at hSw); go_simp; with_reducible rfl)
      try simp only [Act.put, List.setIfInBounds_toArray, List.set_cons_zero, List.set_cons_succ]
      refine wpAnyK_take (i := 5) [11] (v := ?v70) rfl (by kernel_rfl) (by kernel_rfl) (by kernel_rfl) (by kernel_rfl) (fun _ _ _ h => h) (Or.inl ⟨by rfl, ?hy70⟩) hH ?rest70
      case hy70 => (intro w hSw; (try dsimp only at hSw); go_simp; with_reducible rfl)
      try simp only [Act.put, List.setIfInBounds_toArray, List.set_cons_zero, List.set_cons_succ]
      refine wpAnyK_take (i := 6) [11] (v := ?v71) rfl (by kernel_rfl) (by kernel_rfl) (by kernel_rfl) (by kernel_rfl) (fun _ _ _ h => h) (Or.inl ⟨by rfl, ?hy71⟩) hH ?rest71
      case hy71 => (intro w hSw; (try dsimp only at hSw); go_simp; with_reducible rfl)
      try simp only [Act.put, List.setIfInBounds_toArray, List.set_cons_zero, List.set_cons_succ]
      refine wpAnyK_take (i := 7) [11] (v := ?v72) rfl (by kernel_rfl) (by kernel_rfl) (by kernel_rfl) (by kernel_rfl) (fun _ _ _ h => h) (Or.inl ⟨by rfl, ?hy72⟩) hH ?rest72
      case hy72 => (intro w hSw; (try dsimp only at hSw); go_simp; with_reducible rfl)
      try simp only [Act.put, List.setIfInBounds_toArray, List.set_cons_zero, List.set_cons_succ]
      refine wpAnyK_take (i := 8) [11] (v := ?v73) rfl (by kernel_rfl) (by kernel_rfl) (by kernel_rfl) (by kernel_rfl) (fun _ _ _ h => h) (Or.inl ⟨by rfl, ?hy73⟩) hH ?rest73
      case hy73 => (intro w hSw; (try dsimp only at hSw); go_simp; with_reducible rfl)
      try simp only [Act.put, List.setIfInBounds_toArray, List.set_cons_zero, List.set_cons_succ]
      refine wpAnyK_one (i := 9) (by kernel_rfl) rfl (fun K hK => ?_) (by kernel_rfl)
      go_simp
      have hS3 : ∀ (x : Obj) (W : World), W = (w2.alloc x).drew → W.cell? ⟨w.heap.size, 0, none⟩ = some (.pointer (some ⟨db, 0, none⟩)) ∧ W.cell? ⟨w.heap.size + 1, 0, none⟩ = some (.string s) ∧ W.cell? ⟨db, 0, none⟩ = some (.map (some mb)) ∧ (Instr.lookup 62 (.map (some mb)) (.string s) true).run Tryz.prog W = .ok (.tuple #[.agg #[.string ByteArray.empty, .int .i64 0], .bool false]) W := by
        intro x W hW
        subst hW
        have hb : Below w2.heap.size w2 (w2.alloc x).drew := ((Below.refl _ _).alloc (Nat.le_refl _) _).drew
        refine ⟨(hb.cell (p := ⟨w.heap.size, 0, none⟩) (World.block_lt_of_cell? _ _ g1)).trans g1, (hb.cell (p := ⟨w.heap.size + 1, 0, none⟩) (World.block_lt_of_cell? _ _ gN)).trans gN, (hb.cell (p := ⟨db, 0, none⟩) (World.block_lt_of_cell? _ _ g3)).trans g3, ?_⟩
        have h5 := MapL.look (H22.out.2.2.1.below hb).m keyN und_map (z := .agg #[.string ByteArray.empty, .int .i64 0]) (Tryz.zeroValue71 _) true s
        rw [hg] at h5
        exact h5
      have HS3 := Lib.hid hS3
      clear hS3
      refine hK.out _ _ (HS3.out _ _ rfl) (fun hH => ?_)
      clear hK K
      try simp only [Act.put, List.setIfInBounds_toArray, List.set_cons_zero, List.set_cons_succ]
      refine wpAnyK_one (i := 10) (by kernel_rfl) rfl (fun K hK => ?_) (by kernel_rfl)
      go_simp
      refine hK.out _ _ (HS3.out _ _ rfl) (fun hH => ?_)
      clear hK K
      try simp only [Act.put, List.setIfInBounds_toArray, List.set_cons_zero, List.set_cons_succ]
      refine wpAnyK_last (by kernel_rfl) rfl (fun K hK => ?_) (by kernel_rfl)
      go_simp
      refine hK.out _ _ (wpAnyK_done (by kernel_rfl) ?_ _)
      clear hK K hH
      obtain ⟨w4, hw4⟩ : ∃ w4, w4 = (w2.alloc (.cells #[.string ByteArray.empty, .int .i64 0] 71)).drew := ⟨_, rfl⟩
      have hb24 : Below w2.heap.size w2 w4 := by rw [hw4]; exact ((Below.refl _ _).alloc (Nat.le_refl _) _).drew
      have q0 : w4.cell? ⟨w2.heap.size, 0, none⟩ = some (.string ByteArray.empty) := by rw [hw4]; simp [go_sem]
      have q1 : w4.cell? ⟨w2.heap.size, 1, none⟩ = some (.int .i64 0) := by rw [hw4]; simp [go_sem]
      have qf : ∀ j, w4.frozen? ⟨w2.heap.size, j, none⟩ = false := fun j => by rw [hw4]; simp [go_sem]
      have qz : w4.heap.size = w2.heap.size + 1 := by rw [hw4]; simp
      rw [← hw4]
      clear hw4 hlk kd1 kd2 kd3 HS3
      have e1 := (hb24.cell (p := ⟨w.heap.size, 0, none⟩) (World.block_lt_of_cell? _ _ g1)).trans g1
      have eN := (hb24.cell (p := ⟨w.heap.size + 1, 0, none⟩) (World.block_lt_of_cell? _ _ gN)).trans gN
      have hb04 : Below w.heap.size w w4 := H22.out.1.trans (hb24.mono H22.out.1.size)
      have e3 := (hb04.cell (p := ⟨db, 0, none⟩) hlt).trans H.out.1.c0
      have H4 := Lib.hid (And.intro hb04 (And.intro (H.out.1.below hb04) (And.intro q0 (And.intro q1 (And.intro qf (And.intro qz hb24))))))
      clear hb24 hb04 qf qz
      have hres : D.remove s = (22, D) := by
        unfold Dk.remove
        rw [H.out.2.2, HE.out.1, if_neg (by decide)]
        rw [hg]
      have HR := Lib.hid hres
      clear hres
      go_wp2
      go_ret
      exact ⟨by rw [HR.out]; rfl, by rw [HR.out]; exact H4.out.2.1, Tn.ofBelow H4.out.1⟩
    | some f =>
      obtain ⟨fd, fs⟩ := f
      have hfs := H.out.1.ok.syn _ (getL_mem hg)
      simp only at hfs
      have hlk : (Instr.lookup 62 (.map (some mb)) (.string s) true).run Tryz.prog w2.drew = .ok (.tuple #[.agg #[.string fd, .int .i64 (fs : Int)], .bool true]) w2.drew := by
        have h5 := MapL.look (H22.out.2.2.1.below (Below.refl _ _).drew).m keyN und_map (z := .agg #[.string ByteArray.empty, .int .i64 0]) (Tryz.zeroValue71 _) true s
        rw [hg] at h5
        exact h5
      refine wp_region_K (fun w' => w'.cell? ⟨w.heap.size, 0, none⟩ = some (.pointer (some ⟨db, 0, none⟩)) ∧ w'.cell? ⟨w.heap.size + 1, 0, none⟩ = some (.string s) ∧ w'.cell? ⟨db, 0, none⟩ = some (.map (some mb)) ∧ (Instr.lookup 62 (.map (some mb)) (.string s) true).run Tryz.prog w' = .ok (.tuple #[.agg #[.string fd, .int .i64 (fs : Int)], .bool true]) w') 11 12 (by kernel_rfl) (by kernel_rfl) ⟨kd1, kd2, kd3, hlk⟩ (fun hH => ?_)
      refine wpAnyK_take (i := 0) [11] (v := ?v74) rfl (by kernel_rfl) (by kernel_rfl) (by kernel_rfl) (by kernel_rfl) (fun _ _ _ h => h) (Or.inl ⟨by rfl, ?hy74⟩) hH ?rest74
      case hy74 => (intro w hSw; (try dsimp only at hSw); go_simp; with_reducible rfl)
      try simp only [Act.put, List.setIfInBounds_toArray, List.set_cons_zero, List.set_cons_succ]
      refine wpAnyK_take (i := 1) [11] (v := ?v75) rfl (by kernel_rfl) (by kernel_rfl) (by kernel_rfl) (by kernel_rfl) (fun _ _ _ h => h) (Or.inl ⟨by rfl, ?hy75⟩) hH ?rest75
      case hy75 => (intro w hSw; (try dsimp only at hSw); go_simp; with_reducible rfl)
      try simp only [Act.put, List.setIfInBounds_toArray, List.set_cons_zero, List.set_cons_succ]
      refine wpAnyK_take (i := 2) [11] (v := ?v76) rfl (by kernel_rfl) (by kernel_rfl) (by kernel_rfl) (by kernel_rfl) (fun _ _ _ h => h) (Or.inl ⟨by rfl, ?hy76⟩) hH ?rest76
      case hy76 => (intro w hSw; (try dsimp only at hSw); go_simp; with_reducible rfl)
      try simp only [Act.put, List.setIfInBounds_toArray, List.set_cons_zero, List.set_cons_succ]
      refine wpAnyK_take (i := 3) [11] (v := ?v77) rfl (by kernel_rfl) (by kernel_rfl) (by kernel_rfl) (by kernel_rfl) (fun _ _ _ h => h) (Or.inl ⟨by rfl, ?hy77⟩) hH ?rest77
      case hy77 => (intro w hSw; (try dsimp only at hSw); go_simp; with_reducible rfl)
      try simp only [Act.put, List.setIfInBounds_toArray, List.set_cons_zero, List.set_cons_succ]
      refine wpAnyK_take (i := 4) [11] (v := ?v78) rfl (by kernel_rfl) (by kernel_rfl) (by kernel_rfl) (by kernel_rfl) (fun _ _ _ h => h) (Or.inl ⟨by rfl, ?hy78⟩) hH ?rest78
      case hy78 => (intro w hSw; (try dsimp only at hSw); go_simp; with_reducible rfl)
      try simp only [Act.put, List.setIfInBounds_toArray, List.set_cons_zero, List.set_cons_succ]
      refine wpAnyK_take (i := 5) [11] (v := ?v79) rfl (by kernel_rfl) (by kernel_rfl) (by kernel_rfl) (by kernel_rfl) (fun _ _ _ h => h) (Or.inl ⟨by rfl, ?hy79⟩) hH ?rest79
      case hy79 => (intro w hSw; (try dsimp only at hSw); go_simp; with_reducible rfl)
      try simp only [Act.put, List.setIfInBounds_toArray, List.set_cons_zero, List.set_cons_succ]
      refine wpAnyK_take (i := 6) [11] (v := ?v80) rfl (by kernel_rfl) (by kernel_rfl) (by kernel_rfl) (by kernel_rfl) (fun _ _ _ h => h) (Or.inl ⟨by rfl, ?hy80⟩) hH ?rest80
      case hy80 => (intro w hSw; (try dsimp only at hSw); go_simp; with_reducible rfl)
      try simp only [Act.put, List.setIfInBounds_toArray, List.set_cons_zero, List.set_cons_succ]
      refine wpAnyK_take (i := 7) [11] (v := ?v81) rfl (by kernel_rfl) (by kernel_rfl) (by kernel_rfl) (by kernel_rfl) (fun _ _ _ h => h) (Or.inl ⟨by rfl, ?hy81⟩) hH ?rest81
      case hy81 => (intro w hSw; (try dsimp only at hSw); go_simp; with_reducible rfl)
      try simp only [Act.put, List.setIfInBounds_toArray, List.set_cons_zero, List.set_cons_succ]
      refine wpAnyK_take (i := 8) [11] (v := ?v82) rfl (by kernel_rfl) (by kernel_rfl) (by kernel_rfl) (by kernel_rfl) (fun _ _ _ h => h) (Or.inl ⟨by rfl, ?hy82⟩) hH ?rest82
      case hy82 => (intro w hSw; (try dsimp only at hSw); go_simp; with_reducible rfl)
      try simp only [Act.put, List.setIfInBounds_toArray, List.set_cons_zero, List.set_cons_succ]
      refine wpAnyK_one (i := 9) (by kernel_rfl) rfl (fun K hK => ?_) (by kernel_rfl)
      go_simp
      have hS3 : ∀ (x : Obj) (W : World), W = (w2.alloc x).drew → W.cell? ⟨w.heap.size, 0, none⟩ = some (.pointer (some ⟨db, 0, none⟩)) ∧ W.cell? ⟨w.heap.size + 1, 0, none⟩ = some (.string s) ∧ W.cell? ⟨db, 0, none⟩ = some (.map (some mb)) ∧ (Instr.lookup 62 (.map (some mb)) (.string s) true).run Tryz.prog W = .ok (.tuple #[.agg #[.string fd, .int .i64 (fs : Int)], .bool true]) W := by
        intro x W hW
        subst hW
        have hb : Below w2.heap.size w2 (w2.alloc x).drew := ((Below.refl _ _).alloc (Nat.le_refl _) _).drew
        refine ⟨(hb.cell (p := ⟨w.heap.size, 0, none⟩) (World.block_lt_of_cell? _ _ g1)).trans g1, (hb.cell (p := ⟨w.heap.size + 1, 0, none⟩) (World.block_lt_of_cell? _ _ gN)).trans gN, (hb.cell (p := ⟨db, 0, none⟩) (World.block_lt_of_cell? _ _ g3)).trans g3, ?_⟩
        have h5 := MapL.look (H22.out.2.2.1.below hb).m keyN und_map (z := .agg #[.string ByteArray.empty, .int .i64 0]) (Tryz.zeroValue71 _) true s
        rw [hg] at h5
        exact h5
      have HS3 := Lib.hid hS3
      clear hS3
      refine hK.out _ _ (HS3.out _ _ rfl) (fun hH => ?_)
      clear hK K
      try simp only [Act.put, List.setIfInBounds_toArray, List.set_cons_zero, List.set_cons_succ]
      refine wpAnyK_one (i := 10) (by kernel_rfl) rfl (fun K hK => ?_) (by kernel_rfl)
      go_simp
      refine hK.out _ _ (HS3.out _ _ rfl) (fun hH => ?_)
      clear hK K
      try simp only [Act.put, List.setIfInBounds_toArray, List.set_cons_zero, List.set_cons_succ]
      refine wpAnyK_last (by kernel_rfl) rfl (fun K hK => ?_) (by kernel_rfl)
      go_simp
      refine hK.out _ _ (wpAnyK_done (by kernel_rfl) ?_ _)
      clear hK K hH
      obtain ⟨w4, hw4⟩ : ∃ w4, w4 = (w2.alloc (.cells #[.string fd, .int .i64 (fs : Int)] 71)).drew := ⟨_, rfl⟩
      have hb24 : Below w2.heap.size w2 w4 := by rw [hw4]; exact ((Below.refl _ _).alloc (Nat.le_refl _) _).drew
      have q0 : w4.cell? ⟨w2.heap.size, 0, none⟩ = some (.string fd) := by rw [hw4]; simp [go_sem]
      have q1 : w4.cell? ⟨w2.heap.size, 1, none⟩ = some (.int .i64 (fs : Int)) := by rw [hw4]; simp [go_sem]
      have qf : ∀ j, w4.frozen? ⟨w2.heap.size, j, none⟩ = false := fun j => by rw [hw4]; simp [go_sem]
      have qz : w4.heap.size = w2.heap.size + 1 := by rw [hw4]; simp
      rw [← hw4]
      clear hw4 hlk kd1 kd2 kd3 HS3
      have e1 := (hb24.cell (p := ⟨w.heap.size, 0, none⟩) (World.block_lt_of_cell? _ _ g1)).trans g1
      have eN := (hb24.cell (p := ⟨w.heap.size + 1, 0, none⟩) (World.block_lt_of_cell? _ _ gN)).trans gN
      have hb04 : Below w.heap.size w w4 := H22.out.1.trans (hb24.mono H22.out.1.size)
      have e3 := (hb04.cell (p := ⟨db, 0, none⟩) hlt).trans H.out.1.c0
      have H4 := Lib.hid (And.intro hb04 (And.intro (H.out.1.below hb04) (And.intro q0 (And.intro q1 (And.intro qf (And.intro qz hb24))))))
      clear hb24 hb04 qf qz
      have hres : D.remove s = D.act (fun m => delL m s) := by
        unfold Dk.remove
        rw [H.out.2.2, HE.out.1, if_neg (by decide)]
        rw [hg]
      have HR := Lib.hid hres
      clear hres
      have h4 : DkAt (fun q => F q ∨ q = w2.heap.size) w4 db mb D := H22.out.2.2.1.more (fun q hq => .inl hq) (fun q hq => hq.elim .inl (fun e => .inr (by omega))) (fun q hq => hq.elim (fun h => Nat.lt_of_lt_of_le (H22.out.2.2.1.lt q h) (by have := H4.out.2.2.2.2.2.1; omega)) (fun e => by have := H4.out.2.2.2.2.2.1; omega)) H4.out.2.2.2.2.2.2
      have n0 : ∀ k, ¬ two db mb (w.heap.size + k) := fun k hq => by
        have := H.out.1.m.lt
        rcases hq with e | e <;> omega
      have nF : ¬ two db mb w2.heap.size := fun hq => by
        have := H.out.1.m.lt
        have := H22.out.2.2.2
        rcases hq with e | e <;> omega
      have hd : Does (fun q => F q ∨ q = w2.heap.size) (fun _ => False) 122 #[.pointer (some ⟨w.heap.size, 0, none⟩), .pointer (some ⟨w.heap.size + 1, 0, none⟩)] w4 db mb D (fun m => delL m s) := remove1_does e1 eN (n0 0) (n0 1)
      have HD := Lib.hid (And.intro h4 hd)
      clear h4 hd n0 nF g1 g3 gN
      go_wp2_with fail
      refine (act_any HD.out.1 H.out.2.1 ha (enters_of Tryz.func122 (by kernel_rfl) rfl) HD.out.2).mono ?_
      rintro e w5 ⟨rfl, hd5, ht5⟩
      have H5 := Lib.hid (And.intro hd5 ht5)
      clear hd5 ht5
      go_wp2
      go_ret
      refine ⟨by rw [HR.out]; rfl, ?_, (Tn.ofBelow H4.out.1).andThen H5.out.2 (fun q hq => ?_)⟩
      · rw [HR.out]
        exact H5.out.1.less (fun q hq => .inl hq) H.out.1.fd H.out.1.fm
      · rcases hq with hq | hq
        · exact .inl hq
        · exact hq.elim

set_option maxRecDepth 100000 in
set_option maxHeartbeats 4000000 in
theorem rename_any (h : DkAt F w db mb D) (hon : D.on = true) (ha : D.acts < 1000000) (s : ByteArray) (t : ByteArray) (hs : s.size ≤ 140737488351232) (ht : t.size ≤ 140737488351232) :
    Calls Tryz.prog 26 #[.pointer (some ⟨db, 0, none⟩), .string s, .string t] w fun e w' => e = .returned (.int .i64 (D.rename s t).1) ∧ DkAt F w' db mb (D.rename s t).2 ∧ Tn (two db mb) w w' := by
  have hask : D.asked [s, t] = askE true [s, t] := by unfold Dk.asked askE; rw [hon]
  have c1 := h.c1
  rw [hon] at c1
  have hlt := h.ltd
  have hmf : ∀ (fn : Fn) (first cap : Array Value) (w : World), (Instr.makeFunc fn first cap).run Tryz.prog w = .ok (.func fn first cap) w := fun _ _ _ _ => rfl
  have H := Lib.hid (And.intro h (And.intro hon hask))
  clear h hon hask
  obtain ⟨W1, hW1⟩ : ∃ W1, ((w.alloc (.cells #[.pointer (some ⟨db, 0, none⟩)] 43)).alloc (.cells #[.string s] 9)).alloc (.cells #[.string t] 9) = W1 := ⟨_, rfl⟩
  have b1 : Below w.heap.size w W1 := by rw [← hW1]; exact (((Below.refl _ _).alloc (Nat.le_refl _) _).alloc (by simp) _).alloc (by simp; omega) _
  have z1 : W1.heap.size = w.heap.size + 3 := by rw [← hW1]; simp
  have dD : W1.cell? ⟨w.heap.size, 0, none⟩ = some (.pointer (some ⟨db, 0, none⟩)) := by rw [← hW1]; simp [go_sem]
  have dN : W1.cell? ⟨w.heap.size + 1, 0, none⟩ = some (.string s) := by rw [← hW1]; simp [go_sem]
  have dT : W1.cell? ⟨w.heap.size + 2, 0, none⟩ = some (.string t) := by rw [← hW1]; simp [go_sem]
  have on1 : OnAt W1 (some ⟨db, 0, none⟩) true := .inr ⟨db, rfl, (b1.cell (p := ⟨db, 1, none⟩) hlt).trans c1⟩
  have hr1 : RdT (W1.alloc (.cells #[.string s, .string t] 9)) (.slice (some ⟨W1.heap.size, 0, none⟩) 2 2) [s, t] := rdT_two (by simp [go_sem]) (by simp [go_sem]) 2
  have hA := asked_any (on1.below ((Below.refl _ _).alloc (Nat.le_refl _) _)) hr1 (by simp) (fun x hx => by simp only [List.mem_cons, List.not_mem_nil, or_false] at hx; rcases hx with rfl | rfl <;> omega)
  have H1 := Lib.hid (And.intro b1 z1)
  clear on1 hr1 b1 z1
  cases hnm : [s, t].all nmB
  · have he : askE true [s, t] = 21 := by simp only [askE, hnm]; rfl
    rw [he] at hA
    have hres : D.rename s t = (21, D) := by
      unfold Dk.rename
      rw [H.out.2.2, he, if_pos (by decide)]
    rw [hres]
    clear he hres hnm
    go_enter Tryz.func26, Tryz.ntmps26
    go_wp2_with (go_at_call 103; refine hA.mono ?_; rintro e w2 ⟨rfl, hb2⟩; have H2 := Lib.hid hb2; clear hb2)
    go_ret
    have hb : Below w.heap.size w w2 := H1.out.1.trans ((((Below.refl _ _).alloc (Nat.le_refl _) _).trans (H2.out.mono (by simp))).mono H1.out.1.size)
    exact ⟨rfl, H.out.1.below hb, Tn.ofBelow hb⟩
  · have he : askE true [s, t] = 0 := by simp only [askE, hnm]; rfl
    rw [he] at hA
    simp only [List.all_cons, List.all_nil, Bool.and_true, Bool.and_eq_true] at hnm
    have hl64 := nm_le hnm.1
    have hl64b := nm_le hnm.2
    have HE := Lib.hid (And.intro he (And.intro hl64 hl64b))
    clear he hnm hl64 hl64b
    go_enter Tryz.func26, Tryz.ntmps26
    go_wp2_with (go_at_call 103; refine hA.mono ?_; rintro e w2 ⟨rfl, hb2⟩; have H2 := Lib.hid hb2; clear hb2)
    have hb12 : Below w.heap.size w w2 := H1.out.1.trans ((((Below.refl _ _).alloc (Nat.le_refl _) _).trans (H2.out.mono (by simp))).mono H1.out.1.size)
    have hb2' : Below W1.heap.size W1 w2 := ((Below.refl _ _).alloc (Nat.le_refl _) _).trans (H2.out.mono (by simp))
    have g1 : w2.cell? ⟨w.heap.size, 0, none⟩ = some (.pointer (some ⟨db, 0, none⟩)) := (hb2'.cell (p := ⟨w.heap.size, 0, none⟩) (by have := H1.out.2; simp; omega)).trans dD
    have gN : w2.cell? ⟨w.heap.size + 1, 0, none⟩ = some (.string s) := (hb2'.cell (p := ⟨w.heap.size + 1, 0, none⟩) (by have := H1.out.2; simp; omega)).trans dN
    have gT : w2.cell? ⟨w.heap.size + 2, 0, none⟩ = some (.string t) := (hb2'.cell (p := ⟨w.heap.size + 2, 0, none⟩) (by have := H1.out.2; simp; omega)).trans dT
    have h2 := H.out.1.below hb12
    have g3 := h2.c0
    have hz2 : w.heap.size + 3 ≤ w2.heap.size := by have := hb2'.size; have := H1.out.2; omega
    have H22 := Lib.hid (And.intro hb12 (And.intro hb2' (And.intro h2 hz2)))
    clear dD dN dT hb12 hb2' h2 hA hW1
    have kd1 : w2.drew.cell? ⟨w.heap.size, 0, none⟩ = some (.pointer (some ⟨db, 0, none⟩)) := g1
    have kd2 : w2.drew.cell? ⟨w.heap.size + 1, 0, none⟩ = some (.string s) := gN
    have kd3 : w2.drew.cell? ⟨db, 0, none⟩ = some (.map (some mb)) := g3
    cases hg : getL D.m s with
    | none =>
      have hlk : (Instr.lookup 62 (.map (some mb)) (.string s) true).run Tryz.prog w2.drew = .ok (.tuple #[.agg #[.string ByteArray.empty, .int .i64 0], .bool false]) w2.drew := by
        have h5 := MapL.look (H22.out.2.2.1.below (Below.refl _ _).drew).m keyN und_map (z := .agg #[.string ByteArray.empty, .int .i64 0]) (Tryz.zeroValue71 _) true s
        rw [hg] at h5
        exact h5
      refine wp_region_K (fun w' => w'.cell? ⟨w.heap.size, 0, none⟩ = some (.pointer (some ⟨db, 0, none⟩)) ∧ w'.cell? ⟨w.heap.size + 1, 0, none⟩ = some (.string s) ∧ w'.cell? ⟨db, 0, none⟩ = some (.map (some mb)) ∧ (Instr.lookup 62 (.map (some mb)) (.string s) true).run Tryz.prog w' = .ok (.tuple #[.agg #[.string ByteArray.empty, .int .i64 0], .bool false]) w') 11 12 (by kernel_rfl) (by kernel_rfl) ⟨kd1, kd2, kd3, hlk⟩ (fun hH => ?_)
      refine wpAnyK_take (i := 0) [11] (v := ?v83) rfl (by kernel_rfl) (by kernel_rfl) (by kernel_rfl) (by kernel_rfl) (fun _ _ _ h => h) (Or.inl ⟨by rfl, ?hy83⟩) hH ?rest83
      case hy83 => (intro w hSw; (try dsimp only at hSw); go_simp; with_reducible rfl)
      try simp only [Act.put, List.setIfInBounds_toArray, List.set_cons_zero, List.set_cons_succ]
      refine wpAnyK_take (i := 1) [11] (v := ?v84) rfl (by kernel_rfl) (by kernel_rfl) (by kernel_rfl) (by kernel_rfl) (fun _ _ _ h => h) (Or.inl ⟨by rfl, ?hy84⟩) hH ?rest84
      case hy84 => (intro w hSw; (try dsimp only at hSw); go_simp; with_reducible rfl)
      try simp only [Act.put, List.setIfInBounds_toArray, List.set_cons_zero, List.set_cons_succ]
      refine wpAnyK_take (i := 2) [11] (v := ?v85) rfl (by kernel_rfl) (by kernel_rfl) (by kernel_rfl) (by kernel_rfl) (fun _ _ _ h => h) (Or.inl ⟨by rfl, ?hy85⟩) hH ?rest85
      case hy85 => (intro w hSw; (try dsimp only at hSw); go_simp; with_reducible rfl)
      try simp only [Act.put, List.setIfInBounds_toArray, List.set_cons_zero, List.set_cons_succ]
      refine wpAnyK_take (i := 3) [11] (v := ?v86) rfl (by kernel_rfl) (by kernel_rfl) (by kernel_rfl) (by kernel_rfl) (fun _ _ _ h => h) (Or.inl ⟨by rfl, ?hy86⟩) hH ?rest86
      case hy86 => (intro w hSw; (try dsimp only at hSw); go_simp; with_reducible rfl)
      try simp only [Act.put, List.setIfInBounds_toArray, List.set_cons_zero, List.set_cons_succ]
      refine wpAnyK_take (i := 4) [11] (v := ?v87) rfl (by kernel_rfl) (by kernel_rfl) (by kernel_rfl) (by kernel_rfl) (fun _ _ _ h => h) (Or.inl ⟨by rfl, ?hy87⟩) hH ?rest87
      case hy87 => (intro w hSw; (try dsimp only at hSw); go_simp; with_reducible rfl)
      try simp only [Act.put, List.setIfInBounds_toArray, List.set_cons_zero, List.set_cons_succ]
      refine wpAnyK_take (i := 5) [11] (v := ?v88) rfl (by kernel_rfl) (by kernel_rfl) (by kernel_rfl) (by kernel_rfl) (fun _ _ _ h => h) (Or.inl ⟨by rfl, ?hy88⟩) hH ?rest88
      case hy88 => (intro w hSw; (try dsimp only at hSw); go_simp; with_reducible rfl)
      try simp only [Act.put, List.setIfInBounds_toArray, List.set_cons_zero, List.set_cons_succ]
      refine wpAnyK_take (i := 6) [11] (v := ?v89) rfl (by kernel_rfl) (by kernel_rfl) (by kernel_rfl) (by kernel_rfl) (fun _ _ _ h => h) (Or.inl ⟨by rfl, ?hy89⟩) hH ?rest89
      case hy89 => (intro w hSw; (try dsimp only at hSw); go_simp; with_reducible rfl)
      try simp only [Act.put, List.setIfInBounds_toArray, List.set_cons_zero, List.set_cons_succ]
      refine wpAnyK_take (i := 7) [11] (v := ?v90) rfl (by kernel_rfl) (by kernel_rfl) (by kernel_rfl) (by kernel_rfl) (fun _ _ _ h => h) (Or.inl ⟨by rfl, ?hy90⟩) hH ?rest90
      case hy90 => (intro w hSw; (try dsimp only at hSw); go_simp; with_reducible rfl)
      try simp only [Act.put, List.setIfInBounds_toArray, List.set_cons_zero, List.set_cons_succ]
      refine wpAnyK_take (i := 8) [11] (v := ?v91) rfl (by kernel_rfl) (by kernel_rfl) (by kernel_rfl) (by kernel_rfl) (fun _ _ _ h => h) (Or.inl ⟨by rfl, ?hy91⟩) hH ?rest91
      case hy91 => (intro w hSw; (try dsimp only at hSw); go_simp; with_reducible rfl)
      try simp only [Act.put, List.setIfInBounds_toArray, List.set_cons_zero, List.set_cons_succ]
      refine wpAnyK_one (i := 9) (by kernel_rfl) rfl (fun K hK => ?_) (by kernel_rfl)
      go_simp
      have hS3 : ∀ (x : Obj) (W : World), W = (w2.alloc x).drew → W.cell? ⟨w.heap.size, 0, none⟩ = some (.pointer (some ⟨db, 0, none⟩)) ∧ W.cell? ⟨w.heap.size + 1, 0, none⟩ = some (.string s) ∧ W.cell? ⟨db, 0, none⟩ = some (.map (some mb)) ∧ (Instr.lookup 62 (.map (some mb)) (.string s) true).run Tryz.prog W = .ok (.tuple #[.agg #[.string ByteArray.empty, .int .i64 0], .bool false]) W := by
        intro x W hW
        subst hW
        have hb : Below w2.heap.size w2 (w2.alloc x).drew := ((Below.refl _ _).alloc (Nat.le_refl _) _).drew
        refine ⟨(hb.cell (p := ⟨w.heap.size, 0, none⟩) (World.block_lt_of_cell? _ _ g1)).trans g1, (hb.cell (p := ⟨w.heap.size + 1, 0, none⟩) (World.block_lt_of_cell? _ _ gN)).trans gN, (hb.cell (p := ⟨db, 0, none⟩) (World.block_lt_of_cell? _ _ g3)).trans g3, ?_⟩
        have h5 := MapL.look (H22.out.2.2.1.below hb).m keyN und_map (z := .agg #[.string ByteArray.empty, .int .i64 0]) (Tryz.zeroValue71 _) true s
        rw [hg] at h5
        exact h5
      have HS3 := Lib.hid hS3
      clear hS3
      refine hK.out _ _ (HS3.out _ _ rfl) (fun hH => ?_)
      clear hK K
      try simp only [Act.put, List.setIfInBounds_toArray, List.set_cons_zero, List.set_cons_succ]
      refine wpAnyK_one (i := 10) (by kernel_rfl) rfl (fun K hK => ?_) (by kernel_rfl)
      go_simp
      refine hK.out _ _ (HS3.out _ _ rfl) (fun hH => ?_)
      clear hK K
      try simp only [Act.put, List.setIfInBounds_toArray, List.set_cons_zero, List.set_cons_succ]
      refine wpAnyK_last (by kernel_rfl) rfl (fun K hK => ?_) (by kernel_rfl)
      go_simp
      refine hK.out _ _ (wpAnyK_done (by kernel_rfl) ?_ _)
      clear hK K hH
      obtain ⟨w4, hw4⟩ : ∃ w4, w4 = (w2.alloc (.cells #[.string ByteArray.empty, .int .i64 0] 71)).drew := ⟨_, rfl⟩
      have hb24 : Below w2.heap.size w2 w4 := by rw [hw4]; exact ((Below.refl _ _).alloc (Nat.le_refl _) _).drew
      have q0 : w4.cell? ⟨w2.heap.size, 0, none⟩ = some (.string ByteArray.empty) := by rw [hw4]; simp [go_sem]
      have q1 : w4.cell? ⟨w2.heap.size, 1, none⟩ = some (.int .i64 0) := by rw [hw4]; simp [go_sem]
      have qf : ∀ j, w4.frozen? ⟨w2.heap.size, j, none⟩ = false := fun j => by rw [hw4]; simp [go_sem]
      have qz : w4.heap.size = w2.heap.size + 1 := by rw [hw4]; simp
      rw [← hw4]
      clear hw4 hlk kd1 kd2 kd3 HS3
      have e1 := (hb24.cell (p := ⟨w.heap.size, 0, none⟩) (World.block_lt_of_cell? _ _ g1)).trans g1
      have eN := (hb24.cell (p := ⟨w.heap.size + 1, 0, none⟩) (World.block_lt_of_cell? _ _ gN)).trans gN
      have eT := (hb24.cell (p := ⟨w.heap.size + 2, 0, none⟩) (World.block_lt_of_cell? _ _ gT)).trans gT
      have hb04 : Below w.heap.size w w4 := H22.out.1.trans (hb24.mono H22.out.1.size)
      have e3 := (hb04.cell (p := ⟨db, 0, none⟩) hlt).trans H.out.1.c0
      have H4 := Lib.hid (And.intro hb04 (And.intro (H.out.1.below hb04) (And.intro q0 (And.intro q1 (And.intro qf (And.intro qz hb24))))))
      clear hb24 hb04 qf qz
      have hres : D.rename s t = (22, D) := by
        unfold Dk.rename
        rw [H.out.2.2, HE.out.1, if_neg (by decide)]
        rw [hg]
      have HR := Lib.hid hres
      clear hres
      go_wp2
      go_ret
      exact ⟨by rw [HR.out]; rfl, by rw [HR.out]; exact H4.out.2.1, Tn.ofBelow H4.out.1⟩
    | some f =>
      obtain ⟨fd, fs⟩ := f
      have hfs := H.out.1.ok.syn _ (getL_mem hg)
      simp only at hfs
      have hlk : (Instr.lookup 62 (.map (some mb)) (.string s) true).run Tryz.prog w2.drew = .ok (.tuple #[.agg #[.string fd, .int .i64 (fs : Int)], .bool true]) w2.drew := by
        have h5 := MapL.look (H22.out.2.2.1.below (Below.refl _ _).drew).m keyN und_map (z := .agg #[.string ByteArray.empty, .int .i64 0]) (Tryz.zeroValue71 _) true s
        rw [hg] at h5
        exact h5
      refine wp_region_K (fun w' => w'.cell? ⟨w.heap.size, 0, none⟩ = some (.pointer (some ⟨db, 0, none⟩)) ∧ w'.cell? ⟨w.heap.size + 1, 0, none⟩ = some (.string s) ∧ w'.cell? ⟨db, 0, none⟩ = some (.map (some mb)) ∧ (Instr.lookup 62 (.map (some mb)) (.string s) true).run Tryz.prog w' = .ok (.tuple #[.agg #[.string fd, .int .i64 (fs : Int)], .bool true]) w') 11 12 (by kernel_rfl) (by kernel_rfl) ⟨kd1, kd2, kd3, hlk⟩ (fun hH => ?_)
      refine wpAnyK_take (i := 0) [11] (v := ?v92) rfl (by kernel_rfl) (by kernel_rfl) (by kernel_rfl) (by kernel_rfl) (fun _ _ _ h => h) (Or.inl ⟨by rfl, ?hy92⟩) hH ?rest92
      case hy92 => (intro w hSw; (try dsimp only at hSw); go_simp; with_reducible rfl)
      try simp only [Act.put, List.setIfInBounds_toArray, List.set_cons_zero, List.set_cons_succ]
      refine wpAnyK_take (i := 1) [11] (v := ?v93) rfl (by kernel_rfl) (by kernel_rfl) (by kernel_rfl) (by kernel_rfl) (fun _ _ _ h => h) (Or.inl ⟨by rfl, ?hy93⟩) hH ?rest93
      case hy93 => (intro w hSw; (try dsimp only at hSw); go_simp; with_reducible rfl)
      try simp only [Act.put, List.setIfInBounds_toArray, List.set_cons_zero, List.set_cons_succ]
      refine wpAnyK_take (i := 2) [11] (v := ?v94) rfl (by kernel_rfl) (by kernel_rfl) (by kernel_rfl) (by kernel_rfl) (fun _ _ _ h => h) (Or.inl ⟨by rfl, ?hy94⟩) hH ?rest94
      case hy94 => (intro w hSw; (try dsimp only at hSw); go_simp; with_reducible rfl)
      try simp only [Act.put, List.setIfInBounds_toArray, List.set_cons_zero, List.set_cons_succ]
      refine wpAnyK_take (i := 3) [11] (v := ?v95) rfl (by kernel_rfl) (by kernel_rfl) (by kernel_rfl) (by kernel_rfl) (fun _ _ _ h => h) (Or.inl ⟨by rfl, ?hy95⟩) hH ?rest95
      case hy95 => (intro w hSw; (try dsimp only at hSw); go_simp; with_reducible rfl)
      try simp only [Act.put, List.setIfInBounds_toArray, List.set_cons_zero, List.set_cons_succ]
      refine wpAnyK_take (i := 4) [11] (v := ?v96) rfl (by kernel_rfl) (by kernel_rfl) (by kernel_rfl) (by kernel_rfl) (fun _ _ _ h => h) (Or.inl ⟨by rfl, ?hy96⟩) hH ?rest96
      case hy96 => (intro w hSw; (try dsimp only at hSw); go_simp; with_reducible rfl)
      try simp only [Act.put, List.setIfInBounds_toArray, List.set_cons_zero, List.set_cons_succ]
      refine wpAnyK_take (i := 5) [11] (v := ?v97) rfl (by kernel_rfl) (by kernel_rfl) (by kernel_rfl) (by kernel_rfl) (fun _ _ _ h => h) (Or.inl ⟨by rfl, ?hy97⟩) hH ?rest97
      case hy97 => (intro w hSw; (try dsimp only at hSw); go_simp; with_reducible rfl)
      try simp only [Act.put, List.setIfInBounds_toArray, List.set_cons_zero, List.set_cons_succ]
      refine wpAnyK_take (i := 6) [11] (v := ?v98) rfl (by kernel_rfl) (by kernel_rfl) (by kernel_rfl) (by kernel_rfl) (fun _ _ _ h => h) (Or.inl ⟨by rfl, ?hy98⟩) hH ?rest98
      case hy98 => (intro w hSw; (try dsimp only at hSw); go_simp; with_reducible rfl)
      try simp only [Act.put, List.setIfInBounds_toArray, List.set_cons_zero, List.set_cons_succ]
      refine wpAnyK_take (i := 7) [11] (v := ?v99) rfl (by kernel_rfl) (by kernel_rfl) (by kernel_rfl) (by kernel_rfl) (fun _ _ _ h => h) (Or.inl ⟨by rfl, ?hy99⟩) hH ?rest99
      case hy99 => (intro w hSw; (try dsimp only at hSw); go_simp; with_reducible rfl)
      try simp only [Act.put, List.setIfInBounds_toArray, List.set_cons_zero, List.set_cons_succ]
      refine wpAnyK_take (i := 8) [11] (v := ?v100) rfl (by kernel_rfl) (by kernel_rfl) (by kernel_rfl) (by kernel_rfl) (fun _ _ _ h => h) (Or.inl ⟨by rfl, ?hy100⟩) hH ?rest100
      case hy100 => (intro w hSw; (try dsimp only at hSw); go_simp; with_reducible rfl)
      try simp only [Act.put, List.setIfInBounds_toArray, List.set_cons_zero, List.set_cons_succ]
      refine wpAnyK_one (i := 9) (by kernel_rfl) rfl (fun K hK => ?_) (by kernel_rfl)
      go_simp
      have hS3 : ∀ (x : Obj) (W : World), W = (w2.alloc x).drew → W.cell? ⟨w.heap.size, 0, none⟩ = some (.pointer (some ⟨db, 0, none⟩)) ∧ W.cell? ⟨w.heap.size + 1, 0, none⟩ = some (.string s) ∧ W.cell? ⟨db, 0, none⟩ = some (.map (some mb)) ∧ (Instr.lookup 62 (.map (some mb)) (.string s) true).run Tryz.prog W = .ok (.tuple #[.agg #[.string fd, .int .i64 (fs : Int)], .bool true]) W := by
        intro x W hW
        subst hW
        have hb : Below w2.heap.size w2 (w2.alloc x).drew := ((Below.refl _ _).alloc (Nat.le_refl _) _).drew
        refine ⟨(hb.cell (p := ⟨w.heap.size, 0, none⟩) (World.block_lt_of_cell? _ _ g1)).trans g1, (hb.cell (p := ⟨w.heap.size + 1, 0, none⟩) (World.block_lt_of_cell? _ _ gN)).trans gN, (hb.cell (p := ⟨db, 0, none⟩) (World.block_lt_of_cell? _ _ g3)).trans g3, ?_⟩
        have h5 := MapL.look (H22.out.2.2.1.below hb).m keyN und_map (z := .agg #[.string ByteArray.empty, .int .i64 0]) (Tryz.zeroValue71 _) true s
        rw [hg] at h5
        exact h5
      have HS3 := Lib.hid hS3
      clear hS3
      refine hK.out _ _ (HS3.out _ _ rfl) (fun hH => ?_)
      clear hK K
      try simp only [Act.put, List.setIfInBounds_toArray, List.set_cons_zero, List.set_cons_succ]
      refine wpAnyK_one (i := 10) (by kernel_rfl) rfl (fun K hK => ?_) (by kernel_rfl)
      go_simp
      refine hK.out _ _ (HS3.out _ _ rfl) (fun hH => ?_)
      clear hK K
      try simp only [Act.put, List.setIfInBounds_toArray, List.set_cons_zero, List.set_cons_succ]
      refine wpAnyK_last (by kernel_rfl) rfl (fun K hK => ?_) (by kernel_rfl)
      go_simp
      refine hK.out _ _ (wpAnyK_done (by kernel_rfl) ?_ _)
      clear hK K hH
      obtain ⟨w4, hw4⟩ : ∃ w4, w4 = (w2.alloc (.cells #[.string fd, .int .i64 (fs : Int)] 71)).drew := ⟨_, rfl⟩
      have hb24 : Below w2.heap.size w2 w4 := by rw [hw4]; exact ((Below.refl _ _).alloc (Nat.le_refl _) _).drew
      have q0 : w4.cell? ⟨w2.heap.size, 0, none⟩ = some (.string fd) := by rw [hw4]; simp [go_sem]
      have q1 : w4.cell? ⟨w2.heap.size, 1, none⟩ = some (.int .i64 (fs : Int)) := by rw [hw4]; simp [go_sem]
      have qf : ∀ j, w4.frozen? ⟨w2.heap.size, j, none⟩ = false := fun j => by rw [hw4]; simp [go_sem]
      have qz : w4.heap.size = w2.heap.size + 1 := by rw [hw4]; simp
      rw [← hw4]
      clear hw4 hlk kd1 kd2 kd3 HS3
      have e1 := (hb24.cell (p := ⟨w.heap.size, 0, none⟩) (World.block_lt_of_cell? _ _ g1)).trans g1
      have eN := (hb24.cell (p := ⟨w.heap.size + 1, 0, none⟩) (World.block_lt_of_cell? _ _ gN)).trans gN
      have eT := (hb24.cell (p := ⟨w.heap.size + 2, 0, none⟩) (World.block_lt_of_cell? _ _ gT)).trans gT
      have hb04 : Below w.heap.size w w4 := H22.out.1.trans (hb24.mono H22.out.1.size)
      have e3 := (hb04.cell (p := ⟨db, 0, none⟩) hlt).trans H.out.1.c0
      have H4 := Lib.hid (And.intro hb04 (And.intro (H.out.1.below hb04) (And.intro q0 (And.intro q1 (And.intro qf (And.intro qz hb24))))))
      clear hb24 hb04 qf qz
      have hres : D.rename s t = D.act (fun m => setL (delL m s) t ⟨fd, fs⟩) := by
        unfold Dk.rename
        rw [H.out.2.2, HE.out.1, if_neg (by decide)]
        rw [hg]
      have HR := Lib.hid hres
      clear hres
      have h4 : DkAt (fun q => F q ∨ q = w2.heap.size) w4 db mb D := H22.out.2.2.1.more (fun q hq => .inl hq) (fun q hq => hq.elim .inl (fun e => .inr (by omega))) (fun q hq => hq.elim (fun h => Nat.lt_of_lt_of_le (H22.out.2.2.1.lt q h) (by have := H4.out.2.2.2.2.2.1; omega)) (fun e => by have := H4.out.2.2.2.2.2.1; omega)) H4.out.2.2.2.2.2.2
      have n0 : ∀ k, ¬ two db mb (w.heap.size + k) := fun k hq => by
        have := H.out.1.m.lt
        rcases hq with e | e <;> omega
      have nF : ¬ two db mb w2.heap.size := fun hq => by
        have := H.out.1.m.lt
        have := H22.out.2.2.2
        rcases hq with e | e <;> omega
      have hd : Does (fun q => F q ∨ q = w2.heap.size) (fun _ => False) 119 #[.pointer (some ⟨w.heap.size, 0, none⟩), .pointer (some ⟨w.heap.size + 1, 0, none⟩), .pointer (some ⟨w2.heap.size, 0, none⟩), .pointer (some ⟨w.heap.size + 2, 0, none⟩)] w4 db mb D (fun m => setL (delL m s) t ⟨fd, fs⟩) := rename1_does e1 eN eT q0 q1 (n0 0) (n0 1) nF (n0 2) HE.out.2.2 hg
      have HD := Lib.hid (And.intro h4 hd)
      clear h4 hd n0 nF g1 g3 gN gT
      go_wp2_with fail
      refine (act_any HD.out.1 H.out.2.1 ha (enters_of Tryz.func119 (by kernel_rfl) rfl) HD.out.2).mono ?_
      rintro e w5 ⟨rfl, hd5, ht5⟩
      have H5 := Lib.hid (And.intro hd5 ht5)
      clear hd5 ht5
      go_wp2
      go_ret
      refine ⟨by rw [HR.out]; rfl, ?_, (Tn.ofBelow H4.out.1).andThen H5.out.2 (fun q hq => ?_)⟩
      · rw [HR.out]
        exact H5.out.1.less (fun q hq => .inl hq) H.out.1.fd H.out.1.fm
      · rcases hq with hq | hq
        · exact .inl hq
        · exact hq.elim
end Go.Proofs.YtceamkcaokdgaaaGreatDoor
/-
  Disk: Append.
-/
namespace Go.Proofs.YtceamkcaokdgaaaGreatDoor
open Go.RowKit
variable {F G : Nat → Prop} {w w' : World} {db mb : Nat} {D D' : Dk}

set_option maxRecDepth 100000 in
set_option maxHeartbeats 4000000 in
theorem append_any (h : DkAt F w db mb D) (hon : D.on = true) (ha : D.acts < 1000000) (s : ByteArray) (data : ByteArray) (hs : s.size ≤ 140737488351232) (hdata : data.size ≤ 140737488351232) :
    Calls Tryz.prog 14 #[.pointer (some ⟨db, 0, none⟩), .string s, .string data] w fun e w' => e = .returned (.int .i64 (D.app s data).1) ∧ DkAt F w' db mb (D.app s data).2 ∧ Tn (two db mb) w w' := by
  have hask : D.asked [s] = askE true [s] := by unfold Dk.asked askE; rw [hon]
  have c1 := h.c1
  rw [hon] at c1
  have hlt := h.ltd
  have hmf : ∀ (fn : Fn) (first cap : Array Value) (w : World), (Instr.makeFunc fn first cap).run Tryz.prog w = .ok (.func fn first cap) w := fun _ _ _ _ => rfl
  have H := Lib.hid (And.intro h (And.intro hon hask))
  clear h hon hask
  obtain ⟨W1, hW1⟩ : ∃ W1, ((w.alloc (.cells #[.pointer (some ⟨db, 0, none⟩)] 43)).alloc (.cells #[.string s] 9)).alloc (.cells #[.string data] 9) = W1 := ⟨_, rfl⟩
  have b1 : Below w.heap.size w W1 := by rw [← hW1]; exact (((Below.refl _ _).alloc (Nat.le_refl _) _).alloc (by simp) _).alloc (by simp; omega) _
  have z1 : W1.heap.size = w.heap.size + 3 := by rw [← hW1]; simp
  have dD : W1.cell? ⟨w.heap.size, 0, none⟩ = some (.pointer (some ⟨db, 0, none⟩)) := by rw [← hW1]; simp [go_sem]
  have dN : W1.cell? ⟨w.heap.size + 1, 0, none⟩ = some (.string s) := by rw [← hW1]; simp [go_sem]
  have dA : W1.cell? ⟨w.heap.size + 2, 0, none⟩ = some (.string data) := by rw [← hW1]; simp [go_sem]
  have on1 : OnAt W1 (some ⟨db, 0, none⟩) true := .inr ⟨db, rfl, (b1.cell (p := ⟨db, 1, none⟩) hlt).trans c1⟩
  have hr1 : RdT (W1.alloc (.cells #[.string s] 9)) (.slice (some ⟨W1.heap.size, 0, none⟩) 1 1) [s] := rdT_one (by simp [go_sem]) 1
  have hA := asked_any (on1.below ((Below.refl _ _).alloc (Nat.le_refl _) _)) hr1 (by simp) (fun x hx => by rw [List.mem_singleton] at hx; subst hx; omega)
  have H1 := Lib.hid (And.intro b1 z1)
  clear on1 hr1 b1 z1
  cases hnm : [s].all nmB
  · have he : askE true [s] = 21 := by simp only [askE, hnm]; rfl
    rw [he] at hA
    have hres : D.app s data = (21, D) := by
      unfold Dk.app
      rw [H.out.2.2, he, if_pos (by decide)]
    rw [hres]
    clear he hres hnm
    go_enter Tryz.func14, Tryz.ntmps14
    go_wp2_with (go_at_call 103; refine hA.mono ?_; rintro e w2 ⟨rfl, hb2⟩; have H2 := Lib.hid hb2; clear hb2)
    go_ret
    have hb : Below w.heap.size w w2 := H1.out.1.trans ((((Below.refl _ _).alloc (Nat.le_refl _) _).trans (H2.out.mono (by simp))).mono H1.out.1.size)
    exact ⟨rfl, H.out.1.below hb, Tn.ofBelow hb⟩
  · have he : askE true [s] = 0 := by simp only [askE, hnm]; rfl
    rw [he] at hA
    simp only [List.all_cons, List.all_nil, Bool.and_true, Bool.and_eq_true] at hnm
    have hl64 := nm_le hnm
    have HE := Lib.hid (And.intro he hl64)
    clear he hnm hl64
    go_enter Tryz.func14, Tryz.ntmps14
    go_wp2_with (go_at_call 103; refine hA.mono ?_; rintro e w2 ⟨rfl, hb2⟩; have H2 := Lib.hid hb2; clear hb2)
    have hb12 : Below w.heap.size w w2 := H1.out.1.trans ((((Below.refl _ _).alloc (Nat.le_refl _) _).trans (H2.out.mono (by simp))).mono H1.out.1.size)
    have hb2' : Below W1.heap.size W1 w2 := ((Below.refl _ _).alloc (Nat.le_refl _) _).trans (H2.out.mono (by simp))
    have g1 : w2.cell? ⟨w.heap.size, 0, none⟩ = some (.pointer (some ⟨db, 0, none⟩)) := (hb2'.cell (p := ⟨w.heap.size, 0, none⟩) (by have := H1.out.2; simp; omega)).trans dD
    have gN : w2.cell? ⟨w.heap.size + 1, 0, none⟩ = some (.string s) := (hb2'.cell (p := ⟨w.heap.size + 1, 0, none⟩) (by have := H1.out.2; simp; omega)).trans dN
    have gA : w2.cell? ⟨w.heap.size + 2, 0, none⟩ = some (.string data) := (hb2'.cell (p := ⟨w.heap.size + 2, 0, none⟩) (by have := H1.out.2; simp; omega)).trans dA
    have h2 := H.out.1.below hb12
    have g3 := h2.c0
    have hz2 : w.heap.size + 3 ≤ w2.heap.size := by have := hb2'.size; have := H1.out.2; omega
    have H22 := Lib.hid (And.intro hb12 (And.intro hb2' (And.intro h2 hz2)))
    clear dD dN dA hb12 hb2' h2 hA hW1
    have kd1 : w2.drew.cell? ⟨w.heap.size, 0, none⟩ = some (.pointer (some ⟨db, 0, none⟩)) := g1
    have kd2 : w2.drew.cell? ⟨w.heap.size + 1, 0, none⟩ = some (.string s) := gN
    have kd3 : w2.drew.cell? ⟨db, 0, none⟩ = some (.map (some mb)) := g3
    cases hg : getL D.m s with
    | none =>
      have hlk : (Instr.lookup 62 (.map (some mb)) (.string s) true).run Tryz.prog w2.drew = .ok (.tuple #[.agg #[.string ByteArray.empty, .int .i64 0], .bool false]) w2.drew := by
        have h5 := MapL.look (H22.out.2.2.1.below (Below.refl _ _).drew).m keyN und_map (z := .agg #[.string ByteArray.empty, .int .i64 0]) (Tryz.zeroValue71 _) true s
        rw [hg] at h5
        exact h5
      refine wp_region_K (fun w' => w'.cell? ⟨w.heap.size, 0, none⟩ = some (.pointer (some ⟨db, 0, none⟩)) ∧ w'.cell? ⟨w.heap.size + 1, 0, none⟩ = some (.string s) ∧ w'.cell? ⟨db, 0, none⟩ = some (.map (some mb)) ∧ (Instr.lookup 62 (.map (some mb)) (.string s) true).run Tryz.prog w' = .ok (.tuple #[.agg #[.string ByteArray.empty, .int .i64 0], .bool false]) w') 11 12 (by kernel_rfl) (by kernel_rfl) ⟨kd1, kd2, kd3, hlk⟩ (fun hH => ?_)
      refine wpAnyK_take (i := 0) [11] (v := ?v101) rfl (by kernel_rfl) (by kernel_rfl) (by kernel_rfl) (by kernel_rfl) (fun _ _ _ h => h) (Or.inl ⟨by rfl, ?hy101⟩) hH ?rest101
      case hy101 => (intro w hSw; (try dsimp only at hSw); go_simp; with_reducible rfl)
      try simp only [Act.put, List.setIfInBounds_toArray, List.set_cons_zero, List.set_cons_succ]
      refine wpAnyK_take (i := 1) [11] (v := ?v102) rfl (by kernel_rfl) (by kernel_rfl) (by kernel_rfl) (by kernel_rfl) (fun _ _ _ h => h) (Or.inl ⟨by rfl, ?hy102⟩) hH ?rest102
      case hy102 => (intro w hSw; (try dsimp only at hSw); go_simp; with_reducible rfl)
      try simp only [Act.put, List.setIfInBounds_toArray, List.set_cons_zero, List.set_cons_succ]
      refine wpAnyK_take (i := 2) [11] (v := ?v103) rfl (by kernel_rfl) (by kernel_rfl) (by kernel_rfl) (by kernel_rfl) (fun _ _ _ h => h) (Or.inl ⟨by rfl, ?hy103⟩) hH ?rest103
      case hy103 => (intro w hSw; (try dsimp only at hSw); go_simp; with_reducible rfl)
      try simp only [Act.put, List.setIfInBounds_toArray, List.set_cons_zero, List.set_cons_succ]
      refine wpAnyK_take (i := 3) [11] (v := ?v104) rfl (by kernel_rfl) (by kernel_rfl) (by kernel_rfl) (by kernel_rfl) (fun _ _ _ h => h) (Or.inl ⟨by rfl, ?hy104⟩) hH ?rest104
      case hy104 => (intro w hSw; (try dsimp only at hSw); go_simp; with_reducible rfl)
      try simp only [Act.put, List.setIfInBounds_toArray, List.set_cons_zero, List.set_cons_succ]
      refine wpAnyK_take (i := 4) [11] (v := ?v105) rfl (by kernel_rfl) (by kernel_rfl) (by kernel_rfl) (by kernel_rfl) (fun _ _ _ h => h) (Or.inl ⟨by rfl, ?hy105⟩) hH ?rest105
      case hy105 => (intro w hSw; (try dsimp only at hSw); go_simp; with_reducible rfl)
      try simp only [Act.put, List.setIfInBounds_toArray, List.set_cons_zero, List.set_cons_succ]
      refine wpAnyK_take (i := 5) [11] (v := ?v106) rfl (by kernel_rfl) (by kernel_rfl) (by kernel_rfl) (by kernel_rfl) (fun _ _ _ h => h) (Or.inl ⟨by rfl, ?hy106⟩) hH ?rest106
      case hy106 => (intro w hSw; (try dsimp only at hSw); go_simp; with_reducible rfl)
      try simp only [Act.put, List.setIfInBounds_toArray, List.set_cons_zero, List.set_cons_succ]
      refine wpAnyK_take (i := 6) [11] (v := ?v107) rfl (by kernel_rfl) (by kernel_rfl) (by kernel_rfl) (by kernel_rfl) (fun _ _ _ h => h) (Or.inl ⟨by rfl, ?hy107⟩) hH ?rest107
      case hy107 => (intro w hSw; (try dsimp only at hSw); go_simp; with_reducible rfl)
      try simp only [Act.put, List.setIfInBounds_toArray, List.set_cons_zero, List.set_cons_succ]
      refine wpAnyK_take (i := 7) [11] (v := ?v108) rfl (by kernel_rfl) (by kernel_rfl) (by kernel_rfl) (by kernel_rfl) (fun _ _ _ h => h) (Or.inl ⟨by rfl, ?hy108⟩) hH ?rest108
      case hy108 => (intro w hSw; (try dsimp only at hSw); go_simp; with_reducible rfl)
      try simp only [Act.put, List.setIfInBounds_toArray, List.set_cons_zero, List.set_cons_succ]
      refine wpAnyK_take (i := 8) [11] (v := ?v109) rfl (by kernel_rfl) (by kernel_rfl) (by kernel_rfl) (by kernel_rfl) (fun _ _ _ h => h) (Or.inl ⟨by rfl, ?hy109⟩) hH ?rest109
      case hy109 => (intro w hSw; (try dsimp only at hSw); go_simp; with_reducible rfl)
      try simp only [Act.put, List.setIfInBounds_toArray, List.set_cons_zero, List.set_cons_succ]
      refine wpAnyK_one (i := 9) (by kernel_rfl) rfl (fun K hK => ?_) (by kernel_rfl)
      go_simp
      have hS3 : ∀ (x : Obj) (W : World), W = (w2.alloc x).drew → W.cell? ⟨w.heap.size, 0, none⟩ = some (.pointer (some ⟨db, 0, none⟩)) ∧ W.cell? ⟨w.heap.size + 1, 0, none⟩ = some (.string s) ∧ W.cell? ⟨db, 0, none⟩ = some (.map (some mb)) ∧ (Instr.lookup 62 (.map (some mb)) (.string s) true).run Tryz.prog W = .ok (.tuple #[.agg #[.string ByteArray.empty, .int .i64 0], .bool false]) W := by
        intro x W hW
        subst hW
        have hb : Below w2.heap.size w2 (w2.alloc x).drew := ((Below.refl _ _).alloc (Nat.le_refl _) _).drew
        refine ⟨(hb.cell (p := ⟨w.heap.size, 0, none⟩) (World.block_lt_of_cell? _ _ g1)).trans g1, (hb.cell (p := ⟨w.heap.size + 1, 0, none⟩) (World.block_lt_of_cell? _ _ gN)).trans gN, (hb.cell (p := ⟨db, 0, none⟩) (World.block_lt_of_cell? _ _ g3)).trans g3, ?_⟩
        have h5 := MapL.look (H22.out.2.2.1.below hb).m keyN und_map (z := .agg #[.string ByteArray.empty, .int .i64 0]) (Tryz.zeroValue71 _) true s
        rw [hg] at h5
        exact h5
      have HS3 := Lib.hid hS3
      clear hS3
      refine hK.out _ _ (HS3.out _ _ rfl) (fun hH => ?_)
      clear hK K
      try simp only [Act.put, List.setIfInBounds_toArray, List.set_cons_zero, List.set_cons_succ]
      refine wpAnyK_one (i := 10) (by kernel_rfl) rfl (fun K hK => ?_) (by kernel_rfl)
      go_simp
      refine hK.out _ _ (HS3.out _ _ rfl) (fun hH => ?_)
      clear hK K
      try simp only [Act.put, List.setIfInBounds_toArray, List.set_cons_zero, List.set_cons_succ]
      refine wpAnyK_last (by kernel_rfl) rfl (fun K hK => ?_) (by kernel_rfl)
      go_simp
      refine hK.out _ _ (wpAnyK_done (by kernel_rfl) ?_ _)
      clear hK K hH
      obtain ⟨w4, hw4⟩ : ∃ w4, w4 = (w2.alloc (.cells #[.string ByteArray.empty, .int .i64 0] 71)).drew := ⟨_, rfl⟩
      have hb24 : Below w2.heap.size w2 w4 := by rw [hw4]; exact ((Below.refl _ _).alloc (Nat.le_refl _) _).drew
      have q0 : w4.cell? ⟨w2.heap.size, 0, none⟩ = some (.string ByteArray.empty) := by rw [hw4]; simp [go_sem]
      have q1 : w4.cell? ⟨w2.heap.size, 1, none⟩ = some (.int .i64 0) := by rw [hw4]; simp [go_sem]
      have qf : ∀ j, w4.frozen? ⟨w2.heap.size, j, none⟩ = false := fun j => by rw [hw4]; simp [go_sem]
      have qz : w4.heap.size = w2.heap.size + 1 := by rw [hw4]; simp
      rw [← hw4]
      clear hw4 hlk kd1 kd2 kd3 HS3
      have e1 := (hb24.cell (p := ⟨w.heap.size, 0, none⟩) (World.block_lt_of_cell? _ _ g1)).trans g1
      have eN := (hb24.cell (p := ⟨w.heap.size + 1, 0, none⟩) (World.block_lt_of_cell? _ _ gN)).trans gN
      have eA := (hb24.cell (p := ⟨w.heap.size + 2, 0, none⟩) (World.block_lt_of_cell? _ _ gA)).trans gA
      have hb04 : Below w.heap.size w w4 := H22.out.1.trans (hb24.mono H22.out.1.size)
      have e3 := (hb04.cell (p := ⟨db, 0, none⟩) hlt).trans H.out.1.c0
      have H4 := Lib.hid (And.intro hb04 (And.intro (H.out.1.below hb04) (And.intro q0 (And.intro q1 (And.intro qf (And.intro qz hb24))))))
      clear hb24 hb04 qf qz
      have hres : D.app s data = (22, D) := by
        unfold Dk.app
        rw [H.out.2.2, HE.out.1, if_neg (by decide)]
        rw [hg]
      have HR := Lib.hid hres
      clear hres
      go_wp2
      go_ret
      exact ⟨by rw [HR.out]; rfl, by rw [HR.out]; exact H4.out.2.1, Tn.ofBelow H4.out.1⟩
    | some f =>
      obtain ⟨fd, fs⟩ := f
      have hfs := H.out.1.ok.syn _ (getL_mem hg)
      simp only at hfs
      have hlk : (Instr.lookup 62 (.map (some mb)) (.string s) true).run Tryz.prog w2.drew = .ok (.tuple #[.agg #[.string fd, .int .i64 (fs : Int)], .bool true]) w2.drew := by
        have h5 := MapL.look (H22.out.2.2.1.below (Below.refl _ _).drew).m keyN und_map (z := .agg #[.string ByteArray.empty, .int .i64 0]) (Tryz.zeroValue71 _) true s
        rw [hg] at h5
        exact h5
      refine wp_region_K (fun w' => w'.cell? ⟨w.heap.size, 0, none⟩ = some (.pointer (some ⟨db, 0, none⟩)) ∧ w'.cell? ⟨w.heap.size + 1, 0, none⟩ = some (.string s) ∧ w'.cell? ⟨db, 0, none⟩ = some (.map (some mb)) ∧ (Instr.lookup 62 (.map (some mb)) (.string s) true).run Tryz.prog w' = .ok (.tuple #[.agg #[.string fd, .int .i64 (fs : Int)], .bool true]) w') 11 12 (by kernel_rfl) (by kernel_rfl) ⟨kd1, kd2, kd3, hlk⟩ (fun hH => ?_)
      refine wpAnyK_take (i := 0) [11] (v := ?v110) rfl (by kernel_rfl) (by kernel_rfl) (by kernel_rfl) (by kernel_rfl) (fun _ _ _ h => h) (Or.inl ⟨by rfl, ?hy110⟩) hH ?rest110
      case hy110 => (intro w hSw; (try dsimp only at hSw); go_simp; with_reducible rfl)
      try simp only [Act.put, List.setIfInBounds_toArray, List.set_cons_zero, List.set_cons_succ]
      refine wpAnyK_take (i := 1) [11] (v := ?v111) rfl (by kernel_rfl) (by kernel_rfl) (by kernel_rfl) (by kernel_rfl) (fun _ _ _ h => h) (Or.inl ⟨by rfl, ?hy111⟩) hH ?rest111
      case hy111 => (intro w hSw; (try dsimp only at hSw); go_simp; with_reducible rfl)
      try simp only [Act.put, List.setIfInBounds_toArray, List.set_cons_zero, List.set_cons_succ]
      refine wpAnyK_take (i := 2) [11] (v := ?v112) rfl (by kernel_rfl) (by kernel_rfl) (by kernel_rfl) (by kernel_rfl) (fun _ _ _ h => h) (Or.inl ⟨by rfl, ?hy112⟩) hH ?rest112
      case hy112 => (intro w hSw; (try dsimp only at hSw); go_simp; with_reducible rfl)
      try simp only [Act.put, List.setIfInBounds_toArray, List.set_cons_zero, List.set_cons_succ]
      refine wpAnyK_take (i := 3) [11] (v := ?v113) rfl (by kernel_rfl) (by kernel_rfl) (by kernel_rfl) (by kernel_rfl) (fun _ _ _ h => h) (Or.inl ⟨by rfl, ?hy113⟩) hH ?rest113
      case hy113 => (intro w hSw; (try dsimp only at hSw); go_simp; with_reducible rfl)
      try simp only [Act.put, List.setIfInBounds_toArray, List.set_cons_zero, List.set_cons_succ]
      refine wpAnyK_take (i := 4) [11] (v := ?v114) rfl (by kernel_rfl) (by kernel_rfl) (by kernel_rfl) (by kernel_rfl) (fun _ _ _ h => h) (Or.inl ⟨by rfl, ?hy114⟩) hH ?rest114
      case hy114 => (intro w hSw; (try dsimp only at hSw); go_simp; with_reducible rfl)
      try simp only [Act.put, List.setIfInBounds_toArray, List.set_cons_zero, List.set_cons_succ]
      refine wpAnyK_take (i := 5) [11] (v := ?v115) rfl (by kernel_rfl) (by kernel_rfl) (by kernel_rfl) (by kernel_rfl) (fun _ _ _ h => h) (Or.inl ⟨by rfl, ?hy115⟩) hH ?rest115
      case hy115 => (intro w hSw; (try dsimp only at hSw); go_simp; with_reducible rfl)
      try simp only [Act.put, List.setIfInBounds_toArray, List.set_cons_zero, List.set_cons_succ]
      refine wpAnyK_take (i := 6) [11] (v := ?v116) rfl (by kernel_rfl) (by kernel_rfl) (by kernel_rfl) (by kernel_rfl) (fun _ _ _ h => h) (Or.inl ⟨by rfl, ?hy116⟩) hH ?rest116
      case hy116 => (intro w hSw; (try dsimp only at hSw); go_simp; with_reducible rfl)
      try simp only [Act.put, List.setIfInBounds_toArray, List.set_cons_zero, List.set_cons_succ]
      refine wpAnyK_take (i := 7) [11] (v := ?v117) rfl (by kernel_rfl) (by kernel_rfl) (by kernel_rfl) (by kernel_rfl) (fun _ _ _ h => h) (Or.inl ⟨by rfl, ?hy117⟩) hH ?rest117
      case hy117 => (intro w hSw; (try dsimp only at hSw); go_simp; with_reducible rfl)
      try simp only [Act.put, List.setIfInBounds_toArray, List.set_cons_zero, List.set_cons_succ]
      refine wpAnyK_take (i := 8) [11] (v := ?v118) rfl (by kernel_rfl) (by kernel_rfl) (by kernel_rfl) (by kernel_rfl) (fun _ _ _ h => h) (Or.inl ⟨by rfl, ?hy118⟩) hH ?rest118
      case hy118 => (intro w hSw; (try dsimp only at hSw); go_simp; with_reducible rfl)
      try simp only [Act.put, List.setIfInBounds_toArray, List.set_cons_zero, List.set_cons_succ]
      refine wpAnyK_one (i := 9) (by kernel_rfl) rfl (fun K hK => ?_) (by kernel_rfl)
      go_simp
      have hS3 : ∀ (x : Obj) (W : World), W = (w2.alloc x).drew → W.cell? ⟨w.heap.size, 0, none⟩ = some (.pointer (some ⟨db, 0, none⟩)) ∧ W.cell? ⟨w.heap.size + 1, 0, none⟩ = some (.string s) ∧ W.cell? ⟨db, 0, none⟩ = some (.map (some mb)) ∧ (Instr.lookup 62 (.map (some mb)) (.string s) true).run Tryz.prog W = .ok (.tuple #[.agg #[.string fd, .int .i64 (fs : Int)], .bool true]) W := by
        intro x W hW
        subst hW
        have hb : Below w2.heap.size w2 (w2.alloc x).drew := ((Below.refl _ _).alloc (Nat.le_refl _) _).drew
        refine ⟨(hb.cell (p := ⟨w.heap.size, 0, none⟩) (World.block_lt_of_cell? _ _ g1)).trans g1, (hb.cell (p := ⟨w.heap.size + 1, 0, none⟩) (World.block_lt_of_cell? _ _ gN)).trans gN, (hb.cell (p := ⟨db, 0, none⟩) (World.block_lt_of_cell? _ _ g3)).trans g3, ?_⟩
        have h5 := MapL.look (H22.out.2.2.1.below hb).m keyN und_map (z := .agg #[.string ByteArray.empty, .int .i64 0]) (Tryz.zeroValue71 _) true s
        rw [hg] at h5
        exact h5
      have HS3 := Lib.hid hS3
      clear hS3
      refine hK.out _ _ (HS3.out _ _ rfl) (fun hH => ?_)
      clear hK K
      try simp only [Act.put, List.setIfInBounds_toArray, List.set_cons_zero, List.set_cons_succ]
      refine wpAnyK_one (i := 10) (by kernel_rfl) rfl (fun K hK => ?_) (by kernel_rfl)
      go_simp
      refine hK.out _ _ (HS3.out _ _ rfl) (fun hH => ?_)
      clear hK K
      try simp only [Act.put, List.setIfInBounds_toArray, List.set_cons_zero, List.set_cons_succ]
      refine wpAnyK_last (by kernel_rfl) rfl (fun K hK => ?_) (by kernel_rfl)
      go_simp
      refine hK.out _ _ (wpAnyK_done (by kernel_rfl) ?_ _)
      clear hK K hH
      obtain ⟨w4, hw4⟩ : ∃ w4, w4 = (w2.alloc (.cells #[.string fd, .int .i64 (fs : Int)] 71)).drew := ⟨_, rfl⟩
      have hb24 : Below w2.heap.size w2 w4 := by rw [hw4]; exact ((Below.refl _ _).alloc (Nat.le_refl _) _).drew
      have q0 : w4.cell? ⟨w2.heap.size, 0, none⟩ = some (.string fd) := by rw [hw4]; simp [go_sem]
      have q1 : w4.cell? ⟨w2.heap.size, 1, none⟩ = some (.int .i64 (fs : Int)) := by rw [hw4]; simp [go_sem]
      have qf : ∀ j, w4.frozen? ⟨w2.heap.size, j, none⟩ = false := fun j => by rw [hw4]; simp [go_sem]
      have qz : w4.heap.size = w2.heap.size + 1 := by rw [hw4]; simp
      rw [← hw4]
      clear hw4 hlk kd1 kd2 kd3 HS3
      have e1 := (hb24.cell (p := ⟨w.heap.size, 0, none⟩) (World.block_lt_of_cell? _ _ g1)).trans g1
      have eN := (hb24.cell (p := ⟨w.heap.size + 1, 0, none⟩) (World.block_lt_of_cell? _ _ gN)).trans gN
      have eA := (hb24.cell (p := ⟨w.heap.size + 2, 0, none⟩) (World.block_lt_of_cell? _ _ gA)).trans gA
      have hb04 : Below w.heap.size w w4 := H22.out.1.trans (hb24.mono H22.out.1.size)
      have e3 := (hb04.cell (p := ⟨db, 0, none⟩) hlt).trans H.out.1.c0
      have H4 := Lib.hid (And.intro hb04 (And.intro (H.out.1.below hb04) (And.intro q0 (And.intro q1 (And.intro qf (And.intro qz hb24))))))
      clear hb24 hb04 qf qz
      have hde := isEmpty_iff data
      by_cases hlong : 1048576 < fd.size + data.size
      · have r1 : (1048576 : Int) < (fd.size : Int) + (data.size : Int) := by omega
        have hres : D.app s data = (2, D) := by
          unfold Dk.app
          rw [H.out.2.2, HE.out.1, if_neg (by decide)]
          rw [hg]; show (if 1048576 < fd.size + data.size then ((2 : Int), D) else if 0 ≤ D.quota ∧ data.size ≠ 0 ∧ D.quota < (used D.m : Int) + data.size then (24, D) else D.act (fun m => setL m s ⟨fd ++ data, fs⟩)) = _; rw [if_pos hlong]
        have HR := Lib.hid hres
        clear hres
        go_wp2
        go_ret
        exact ⟨by rw [HR.out]; rfl, by rw [HR.out]; exact H4.out.2.1, Tn.ofBelow H4.out.1⟩
      · have r1 : ¬ (1048576 : Int) < (fd.size : Int) + (data.size : Int) := by omega
        have hok2 : (fd ++ data).size ≤ 1048576 := by rw [ByteArray.size_append]; omega
        have hok1 : fs ≤ (fd ++ data).size := by rw [ByteArray.size_append]; have := hfs.1; omega
        by_cases hq : 0 ≤ D.quota
        · by_cases hd0 : data.size = 0
          · have hde1 : data.toList.isEmpty = true := by rw [hde]; exact decide_eq_true hd0
            have HDQ := Lib.hid (And.intro hok1 (And.intro hok2 (And.intro hfs hd0)))
            clear hde hok1 hok2 hfs hd0
            have e9 : w4.cell? ⟨db, 2, none⟩ = some (.int .i64 D.quota) := H4.out.2.1.c2
            have y1 : w4.drew.cell? ⟨w.heap.size, 0, none⟩ = some (.pointer (some ⟨db, 0, none⟩)) := e1
            have yA : w4.drew.cell? ⟨w.heap.size + 2, 0, none⟩ = some (.string data) := eA
            have y2 : w4.drew.cell? ⟨db, 2, none⟩ = some (.int .i64 D.quota) := e9
            go_wp2_with fail
            refine wp_region_K (fun w' => w'.cell? ⟨w.heap.size, 0, none⟩ = some (.pointer (some ⟨db, 0, none⟩)) ∧ w'.cell? ⟨w.heap.size + 2, 0, none⟩ = some (.string data) ∧ w'.cell? ⟨db, 2, none⟩ = some (.int .i64 D.quota)) 21 22 (by kernel_rfl) (by kernel_rfl) ⟨y1, yA, y2⟩ (fun hH => ?_)
            refine wpAnyK_take (i := 0) [1, 2, 3, 4, 5, 9, 11, 21] (v := ?v119) rfl (by kernel_rfl) (by kernel_rfl) (by kernel_rfl) (by kernel_rfl) (fun _ _ _ h => h) (Or.inl ⟨by rfl, ?hy119⟩) hH ?rest119
            case hy119 => (intro w hSw; (try dsimp only at hSw); go_simp; with_reducible rfl)
            try simp only [Act.put, List.setIfInBounds_toArray, List.set_cons_zero, List.set_cons_succ]
            refine wpAnyK_take (i := 1) [2, 3, 4, 5, 9, 11, 21] (v := ?v120) rfl (by kernel_rfl) (by kernel_rfl) (by kernel_rfl) (by kernel_rfl) (fun _ _ _ h => h) (Or.inl ⟨by rfl, ?hy120⟩) hH ?rest120
            case hy120 => (intro w hSw; (try dsimp only at hSw); go_simp; with_reducible rfl)
            try simp only [Act.put, List.setIfInBounds_toArray, List.set_cons_zero, List.set_cons_succ]
            refine wpAnyK_take (i := 2) [3, 4, 5, 9, 11, 21] (v := ?v121) rfl (by kernel_rfl) (by kernel_rfl) (by kernel_rfl) (by kernel_rfl) (fun _ _ _ h => h) (Or.inl ⟨by rfl, ?hy121⟩) hH ?rest121
            case hy121 => (intro w hSw; (try dsimp only at hSw); go_simp; with_reducible rfl)
            try simp only [Act.put, List.setIfInBounds_toArray, List.set_cons_zero, List.set_cons_succ]
            refine wpAnyK_take (i := 3) [4, 5, 9, 11, 21] (v := ?v122) rfl (by kernel_rfl) (by kernel_rfl) (by kernel_rfl) (by kernel_rfl) (fun _ _ _ h => h) (Or.inl ⟨by rfl, ?hy122⟩) hH ?rest122
            case hy122 => (intro w hSw; (try dsimp only at hSw); go_simp; with_reducible rfl)
            try simp only [Act.put, List.setIfInBounds_toArray, List.set_cons_zero, List.set_cons_succ]
            refine wpAnyK_take (i := 4) [5, 9, 11, 21] (v := ?v123) rfl (by kernel_rfl) (by kernel_rfl) (by kernel_rfl) (by kernel_rfl) (fun _ _ _ h => h) (Or.inl ⟨by rfl, ?hy123⟩) hH ?rest123
            case hy123 => (intro w hSw; (try dsimp only at hSw); go_simp; with_reducible rfl)
            try simp only [Act.put, List.setIfInBounds_toArray, List.set_cons_zero, List.set_cons_succ]
            refine wpAnyK_take (i := 5) [9, 11, 21] (v := ?v124) rfl (by kernel_rfl) (by kernel_rfl) (by kernel_rfl) (by kernel_rfl) (fun _ _ _ h => h) (Or.inl ⟨by rfl, ?hy124⟩) hH ?rest124
            case hy124 => (intro w hSw; (try dsimp only at hSw); go_simp; with_reducible rfl)
            try simp only [Act.put, List.setIfInBounds_toArray, List.set_cons_zero, List.set_cons_succ]
            refine wpAnyK_take (i := 6) [7, 8, 9, 11, 21] (v := ?v125) rfl (by kernel_rfl) (by kernel_rfl) (by kernel_rfl) (by kernel_rfl) (fun _ _ _ h => h) (Or.inl ⟨by rfl, ?hy125⟩) hH ?rest125
            case hy125 => (intro w hSw; (try dsimp only at hSw); go_simp; with_reducible rfl)
            try simp only [Act.put, List.setIfInBounds_toArray, List.set_cons_zero, List.set_cons_succ]
            refine wpAnyK_take (i := 7) [8, 9, 11, 21] (v := ?v126) rfl (by kernel_rfl) (by kernel_rfl) (by kernel_rfl) (by kernel_rfl) (fun _ _ _ h => h) (Or.inl ⟨by rfl, ?hy126⟩) hH ?rest126
            case hy126 => (intro w hSw; (try dsimp only at hSw); go_simp; with_reducible rfl)
            try simp only [Act.put, List.setIfInBounds_toArray, List.set_cons_zero, List.set_cons_succ]
            refine wpAnyK_take (i := 8) [9, 11, 21] (v := ?v127) rfl (by kernel_rfl) (by kernel_rfl) (by kernel_rfl) (by kernel_rfl) (fun _ _ _ h => h) (Or.inl ⟨by rfl, ?hy127⟩) hH ?rest127
            case hy127 => (intro w hSw; (try dsimp only at hSw); go_simp; with_reducible rfl)
            try simp only [Act.put, List.setIfInBounds_toArray, List.set_cons_zero, List.set_cons_succ]
            refine wpAnyK_take (i := 9) [11, 21] (v := ?v128) rfl (by kernel_rfl) (by kernel_rfl) (by kernel_rfl) (by kernel_rfl) (fun _ _ _ h => h) (Or.inl ⟨by rfl, ?hy128⟩) hH ?rest128
            case hy128 => (intro w hSw; (try dsimp only at hSw); go_simp; with_reducible rfl)
            try simp only [Act.put, List.setIfInBounds_toArray, List.set_cons_zero, List.set_cons_succ]
            refine wpAnyK_take (i := 10) [11, 21] (v := undef) rfl (by kernel_rfl) (by kernel_rfl) (by kernel_rfl) (by kernel_rfl) (fun _ _ _ h => h) (Or.inr ⟨by rfl, rfl⟩) hH ?rest129
            try simp only [Act.put, List.setIfInBounds_toArray, List.set_cons_zero, List.set_cons_succ]
            refine wpAnyK_take (i := 12) [13, 14, 19, 20, 21] (v := undef) rfl (by kernel_rfl) (by kernel_rfl) (by kernel_rfl) (by kernel_rfl) (fun _ _ _ h => h) (Or.inr ⟨by rfl, rfl⟩) hH ?rest130
            try simp only [Act.put, List.setIfInBounds_toArray, List.set_cons_zero, List.set_cons_succ]
            refine wpAnyK_take (i := 13) [14, 19, 20, 21] (v := undef) rfl (by kernel_rfl) (by kernel_rfl) (by kernel_rfl) (by kernel_rfl) (fun _ _ _ h => h) (Or.inr ⟨by rfl, rfl⟩) hH ?rest131
            try simp only [Act.put, List.setIfInBounds_toArray, List.set_cons_zero, List.set_cons_succ]
            refine wpAnyK_take (i := 15) [16, 17, 18, 19, 20, 21] (v := undef) rfl (by kernel_rfl) (by kernel_rfl) (by kernel_rfl) (by kernel_rfl) (fun _ _ _ h => h) (Or.inr ⟨by rfl, rfl⟩) hH ?rest132
            try simp only [Act.put, List.setIfInBounds_toArray, List.set_cons_zero, List.set_cons_succ]
            refine wpAnyK_take (i := 16) [17, 18, 19, 20, 21] (v := undef) rfl (by kernel_rfl) (by kernel_rfl) (by kernel_rfl) (by kernel_rfl) (fun _ _ _ h => h) (Or.inr ⟨by rfl, rfl⟩) hH ?rest133
            try simp only [Act.put, List.setIfInBounds_toArray, List.set_cons_zero, List.set_cons_succ]
            refine wpAnyK_take (i := 17) [18, 19, 20, 21] (v := undef) rfl (by kernel_rfl) (by kernel_rfl) (by kernel_rfl) (by kernel_rfl) (fun _ _ _ h => h) (Or.inr ⟨by rfl, rfl⟩) hH ?rest134
            try simp only [Act.put, List.setIfInBounds_toArray, List.set_cons_zero, List.set_cons_succ]
            refine wpAnyK_take (i := 18) [19, 20, 21] (v := undef) rfl (by kernel_rfl) (by kernel_rfl) (by kernel_rfl) (by kernel_rfl) (fun _ _ _ h => h) (Or.inr ⟨by rfl, rfl⟩) hH ?rest135
            try simp only [Act.put, List.setIfInBounds_toArray, List.set_cons_zero, List.set_cons_succ]
            refine wpAnyK_one (i := 11) (by kernel_rfl) rfl (fun K hK => ?_) (by kernel_rfl)
            go_simp
            refine hK.out _ _ hH (fun hH => ?_)
            clear hK K
            try simp only [Act.put, List.setIfInBounds_toArray, List.set_cons_zero, List.set_cons_succ]
            refine wpAnyK_take (i := 14) [19, 20, 21] (v := undef) rfl (by kernel_rfl) (by kernel_rfl) (by kernel_rfl) (by kernel_rfl) (fun _ _ _ h => h) (Or.inr ⟨by rfl, rfl⟩) hH ?rest136
            try simp only [Act.put, List.setIfInBounds_toArray, List.set_cons_zero, List.set_cons_succ]
            refine wpAnyK_take (i := 19) [20, 21] (v := undef) rfl (by kernel_rfl) (by kernel_rfl) (by kernel_rfl) (by kernel_rfl) (fun _ _ _ h => h) (Or.inr ⟨by rfl, rfl⟩) hH ?rest137
            try simp only [Act.put, List.setIfInBounds_toArray, List.set_cons_zero, List.set_cons_succ]
            refine wpAnyK_take (i := 20) [21] (v := ?v138) rfl (by kernel_rfl) (by kernel_rfl) (by kernel_rfl) (by kernel_rfl) (fun _ _ _ h => h) (Or.inl ⟨by rfl, ?hy138⟩) hH ?rest138
            case hy138 => (intro w hSw; (try dsimp only at hSw); go_simp; with_reducible rfl)
            try simp only [Act.put, List.setIfInBounds_toArray, List.set_cons_zero, List.set_cons_succ]
            refine wpAnyK_last (by kernel_rfl) rfl (fun K hK => ?_) (by kernel_rfl)
            go_simp
            refine hK.out _ _ (wpAnyK_done (by kernel_rfl) ?_ _)
            clear hK K hH y1 yA y2 e9
            obtain ⟨w7, hw7⟩ : ∃ w7, w4.drew = w7 := ⟨_, rfl⟩
            have hb47 : Below w4.heap.size w4 w7 := by rw [← hw7]; exact (Below.refl _ _).drew
            rw [hw7]
            clear hw7
            have e1 := (hb47.cell (p := ⟨w.heap.size, 0, none⟩) (World.block_lt_of_cell? _ _ e1)).trans e1
            have eN := (hb47.cell (p := ⟨w.heap.size + 1, 0, none⟩) (World.block_lt_of_cell? _ _ eN)).trans eN
            have eA := (hb47.cell (p := ⟨w.heap.size + 2, 0, none⟩) (World.block_lt_of_cell? _ _ eA)).trans eA
            have hq0 := World.block_lt_of_cell? _ _ q0
            have hqf : ∀ j, w7.frozen? ⟨w2.heap.size, j, none⟩ = false := fun j => (hb47.frozen (p := ⟨w2.heap.size, j, none⟩) hq0).trans (H4.out.2.2.2.2.1 j)
            have q0 := (hb47.cell (p := ⟨w2.heap.size, 0, none⟩) (World.block_lt_of_cell? _ _ q0)).trans q0
            have q1 := (hb47.cell (p := ⟨w2.heap.size, 1, none⟩) (World.block_lt_of_cell? _ _ q1)).trans q1
            have H4' := Lib.hid (And.intro (H4.out.1.trans (hb47.mono H4.out.1.size)) (And.intro (H4.out.2.1.below hb47) (And.intro q0 (And.intro q1 (And.intro hqf (And.intro hb47 (H4.out.2.2.2.2.2.2.trans (hb47.mono H4.out.2.2.2.2.2.2.size))))))))
            have hz47 := hb47.size
            clear hb47 hqf
            have hok1 := HDQ.out.1
            have hok2 := HDQ.out.2.1
            have hres : D.app s data = D.act (fun m => setL m s ⟨fd ++ data, fs⟩) := by
              unfold Dk.app
              rw [H.out.2.2, HE.out.1, if_neg (by decide)]
              rw [hg]; show (if 1048576 < fd.size + data.size then ((2 : Int), D) else if 0 ≤ D.quota ∧ data.size ≠ 0 ∧ D.quota < (used D.m : Int) + data.size then (24, D) else D.act (fun m => setL m s ⟨fd ++ data, fs⟩)) = _; rw [if_neg hlong, if_neg (fun h => h.2.1 HDQ.out.2.2.2)]
            have HR := Lib.hid hres
            clear hres
            have h4 : DkAt (fun q => F q ∨ q = w2.heap.size) w7 db mb D := H22.out.2.2.1.more (fun q hq => .inl hq) (fun q hq => hq.elim .inl (fun e => .inr (by omega))) (fun q hq => hq.elim (fun h => Nat.lt_of_lt_of_le (H22.out.2.2.1.lt q h) (by have := H4.out.2.2.2.2.2.1; omega)) (fun e => by have := H4.out.2.2.2.2.2.1; omega)) H4'.out.2.2.2.2.2.2
            have n0 : ∀ k, ¬ two db mb (w.heap.size + k) := fun k hq => by
              have := H.out.1.m.lt
              rcases hq with e | e <;> omega
            have nF : ¬ two db mb w2.heap.size := fun hq => by
              have := H.out.1.m.lt
              have := H22.out.2.2.2
              rcases hq with e | e <;> omega
            have hd : Does (fun q => F q ∨ q = w2.heap.size) (fun q => q = w2.heap.size) 105 #[.pointer (some ⟨w2.heap.size, 0, none⟩), .pointer (some ⟨w.heap.size + 2, 0, none⟩), .pointer (some ⟨w.heap.size, 0, none⟩), .pointer (some ⟨w.heap.size + 1, 0, none⟩)] w7 db mb D (fun m => setL m s ⟨fd ++ data, fs⟩) := append1_does e1 eN q0 q1 H4'.out.2.2.2.2.1 eA (n0 0) (n0 1) nF (n0 2) (by have := H22.out.2.2.2; omega) (by have := H22.out.2.2.2; omega) (.inr rfl) HE.out.2 (by rw [hg]; rfl) ⟨hok1, hok2⟩
            have HD := Lib.hid (And.intro h4 hd)
            clear h4 hd n0 nF g1 g3 gN gA
            go_wp2_with fail
            refine (act_any HD.out.1 H.out.2.1 ha (enters_of Tryz.func105 (by kernel_rfl) rfl) HD.out.2).mono ?_
            rintro e w5 ⟨rfl, hd5, ht5⟩
            have H5 := Lib.hid (And.intro hd5 ht5)
            clear hd5 ht5
            go_wp2
            go_ret
            refine ⟨by rw [HR.out]; rfl, ?_, (Tn.ofBelow H4'.out.1).andThen H5.out.2 (fun q hq => ?_)⟩
            · rw [HR.out]
              exact H5.out.1.less (fun q hq => .inl hq) H.out.1.fd H.out.1.fm
            · rcases hq with hq | hq
              · exact .inl hq
              · exact .inr (by have := H22.out.2.2.2; omega)
          · have hde1 : data.toList.isEmpty = false := by rw [hde]; exact decide_eq_false hd0
            have hub : used D.m ≤ 20971520000 := by
              have h1 := used_le D.m (fun p hp => (H.out.1.ok.syn p hp).2)
              have h2 := H.out.1.ok.few
              have h3 : D.m.length * 1048576 ≤ 20000 * 1048576 := Nat.mul_le_mul_right _ h2
              omega
            have hwr : IntKind.i64.wrap ((used D.m : Int) + (data.size : Int)) = (used D.m : Int) + (data.size : Int) := IntWalk.i64_in _ (by omega)
            by_cases hov : D.quota < (used D.m : Int) + (data.size : Int)
            · have HDQ := Lib.hid (And.intro hok1 (And.intro hok2 (And.intro hfs hd0)))
              clear hde hok1 hok2 hfs hd0
              have e9 : w4.cell? ⟨db, 2, none⟩ = some (.int .i64 D.quota) := H4.out.2.1.c2
              have y1 : w4.drew.cell? ⟨w.heap.size, 0, none⟩ = some (.pointer (some ⟨db, 0, none⟩)) := e1
              have yA : w4.drew.cell? ⟨w.heap.size + 2, 0, none⟩ = some (.string data) := eA
              have y2 : w4.drew.cell? ⟨db, 2, none⟩ = some (.int .i64 D.quota) := e9
              go_wp2_with fail
              refine wp_region_K (fun w' => w'.cell? ⟨w.heap.size, 0, none⟩ = some (.pointer (some ⟨db, 0, none⟩)) ∧ w'.cell? ⟨w.heap.size + 2, 0, none⟩ = some (.string data) ∧ w'.cell? ⟨db, 2, none⟩ = some (.int .i64 D.quota)) 21 22 (by kernel_rfl) (by kernel_rfl) ⟨y1, yA, y2⟩ (fun hH => ?_)
              refine wpAnyK_take (i := 0) [1, 2, 3, 4, 5, 9, 11, 21] (v := ?v139) rfl (by kernel_rfl) (by kernel_rfl) (by kernel_rfl) (by kernel_rfl) (fun _ _ _ h => h) (Or.inl ⟨by rfl, ?hy139⟩) hH ?rest139
              case hy139 => (intro w hSw; (try dsimp only at hSw); go_simp; with_reducible rfl)
              try simp only [Act.put, List.setIfInBounds_toArray, List.set_cons_zero, List.set_cons_succ]
              refine wpAnyK_take (i := 1) [2, 3, 4, 5, 9, 11, 21] (v := ?v140) rfl (by kernel_rfl) (by kernel_rfl) (by kernel_rfl) (by kernel_rfl) (fun _ _ _ h => h) (Or.inl ⟨by rfl, ?hy140⟩) hH ?rest140
              case hy140 => (intro w hSw; (try dsimp only at hSw); go_simp; with_reducible rfl)
              try simp only [Act.put, List.setIfInBounds_toArray, List.set_cons_zero, List.set_cons_succ]
              refine wpAnyK_take (i := 2) [3, 4, 5, 9, 11, 21] (v := ?v141) rfl (by kernel_rfl) (by kernel_rfl) (by kernel_rfl) (by kernel_rfl) (fun _ _ _ h => h) (Or.inl ⟨by rfl, ?hy141⟩) hH ?rest141
              case hy141 => (intro w hSw; (try dsimp only at hSw); go_simp; with_reducible rfl)
              try simp only [Act.put, List.setIfInBounds_toArray, List.set_cons_zero, List.set_cons_succ]
              refine wpAnyK_take (i := 3) [4, 5, 9, 11, 21] (v := ?v142) rfl (by kernel_rfl) (by kernel_rfl) (by kernel_rfl) (by kernel_rfl) (fun _ _ _ h => h) (Or.inl ⟨by rfl, ?hy142⟩) hH ?rest142
              case hy142 => (intro w hSw; (try dsimp only at hSw); go_simp; with_reducible rfl)
              try simp only [Act.put, List.setIfInBounds_toArray, List.set_cons_zero, List.set_cons_succ]
              refine wpAnyK_take (i := 4) [5, 9, 11, 21] (v := ?v143) rfl (by kernel_rfl) (by kernel_rfl) (by kernel_rfl) (by kernel_rfl) (fun _ _ _ h => h) (Or.inl ⟨by rfl, ?hy143⟩) hH ?rest143
              case hy143 => (intro w hSw; (try dsimp only at hSw); go_simp; with_reducible rfl)
              try simp only [Act.put, List.setIfInBounds_toArray, List.set_cons_zero, List.set_cons_succ]
              refine wpAnyK_take (i := 5) [9, 11, 21] (v := ?v144) rfl (by kernel_rfl) (by kernel_rfl) (by kernel_rfl) (by kernel_rfl) (fun _ _ _ h => h) (Or.inl ⟨by rfl, ?hy144⟩) hH ?rest144
              case hy144 => (intro w hSw; (try dsimp only at hSw); go_simp; with_reducible rfl)
              try simp only [Act.put, List.setIfInBounds_toArray, List.set_cons_zero, List.set_cons_succ]
              refine wpAnyK_take (i := 6) [7, 8, 9, 11, 21] (v := ?v145) rfl (by kernel_rfl) (by kernel_rfl) (by kernel_rfl) (by kernel_rfl) (fun _ _ _ h => h) (Or.inl ⟨by rfl, ?hy145⟩) hH ?rest145
              case hy145 => (intro w hSw; (try dsimp only at hSw); go_simp; with_reducible rfl)
              try simp only [Act.put, List.setIfInBounds_toArray, List.set_cons_zero, List.set_cons_succ]
              refine wpAnyK_take (i := 7) [8, 9, 11, 21] (v := ?v146) rfl (by kernel_rfl) (by kernel_rfl) (by kernel_rfl) (by kernel_rfl) (fun _ _ _ h => h) (Or.inl ⟨by rfl, ?hy146⟩) hH ?rest146
              case hy146 => (intro w hSw; (try dsimp only at hSw); go_simp; with_reducible rfl)
              try simp only [Act.put, List.setIfInBounds_toArray, List.set_cons_zero, List.set_cons_succ]
              refine wpAnyK_take (i := 8) [9, 11, 21] (v := ?v147) rfl (by kernel_rfl) (by kernel_rfl) (by kernel_rfl) (by kernel_rfl) (fun _ _ _ h => h) (Or.inl ⟨by rfl, ?hy147⟩) hH ?rest147
              case hy147 => (intro w hSw; (try dsimp only at hSw); go_simp; with_reducible rfl)
              try simp only [Act.put, List.setIfInBounds_toArray, List.set_cons_zero, List.set_cons_succ]
              refine wpAnyK_take (i := 9) [11, 21] (v := ?v148) rfl (by kernel_rfl) (by kernel_rfl) (by kernel_rfl) (by kernel_rfl) (fun _ _ _ h => h) (Or.inl ⟨by rfl, ?hy148⟩) hH ?rest148
              case hy148 => (intro w hSw; (try dsimp only at hSw); go_simp; with_reducible rfl)
              try simp only [Act.put, List.setIfInBounds_toArray, List.set_cons_zero, List.set_cons_succ]
              refine wpAnyK_take (i := 10) [11, 21] (v := ?v149) rfl (by kernel_rfl) (by kernel_rfl) (by kernel_rfl) (by kernel_rfl) (fun _ _ _ h => h) (Or.inl ⟨by rfl, ?hy149⟩) hH ?rest149
              case hy149 => (intro w hSw; (try dsimp only at hSw); go_simp; with_reducible rfl)
              try simp only [Act.put, List.setIfInBounds_toArray, List.set_cons_zero, List.set_cons_succ]
              refine wpAnyK_take (i := 12) [13, 14, 19, 20, 21] (v := ?v150) rfl (by kernel_rfl) (by kernel_rfl) (by kernel_rfl) (by kernel_rfl) (fun _ _ _ h => h) (Or.inl ⟨by rfl, ?hy150⟩) hH ?rest150
              case hy150 => (intro w hSw; (try dsimp only at hSw); go_simp; with_reducible rfl)
              try simp only [Act.put, List.setIfInBounds_toArray, List.set_cons_zero, List.set_cons_succ]
              refine wpAnyK_take (i := 13) [14, 19, 20, 21] (v := ?v151) rfl (by kernel_rfl) (by kernel_rfl) (by kernel_rfl) (by kernel_rfl) (fun _ _ _ h => h) (Or.inl ⟨by rfl, ?hy151⟩) hH ?rest151
              case hy151 => (intro w hSw; (try dsimp only at hSw); go_simp; with_reducible rfl)
              try simp only [Act.put, List.setIfInBounds_toArray, List.set_cons_zero, List.set_cons_succ]
              refine wpAnyK_take (i := 15) [16, 17, 18, 19, 20, 21] (v := ?v152) rfl (by kernel_rfl) (by kernel_rfl) (by kernel_rfl) (by kernel_rfl) (fun _ _ _ h => h) (Or.inl ⟨by rfl, ?hy152⟩) hH ?rest152
              case hy152 => (intro w hSw; (try dsimp only at hSw); go_simp; with_reducible rfl)
              try simp only [Act.put, List.setIfInBounds_toArray, List.set_cons_zero, List.set_cons_succ]
              refine wpAnyK_take (i := 16) [17, 18, 19, 20, 21] (v := ?v153) rfl (by kernel_rfl) (by kernel_rfl) (by kernel_rfl) (by kernel_rfl) (fun _ _ _ h => h) (Or.inl ⟨by rfl, ?hy153⟩) hH ?rest153
              case hy153 => (intro w hSw; (try dsimp only at hSw); go_simp; with_reducible rfl)
              try simp only [Act.put, List.setIfInBounds_toArray, List.set_cons_zero, List.set_cons_succ]
              refine wpAnyK_take (i := 17) [18, 19, 20, 21] (v := ?v154) rfl (by kernel_rfl) (by kernel_rfl) (by kernel_rfl) (by kernel_rfl) (fun _ _ _ h => h) (Or.inl ⟨by rfl, ?hy154⟩) hH ?rest154
              case hy154 => (intro w hSw; (try dsimp only at hSw); go_simp; with_reducible rfl)
              try simp only [Act.put, List.setIfInBounds_toArray, List.set_cons_zero, List.set_cons_succ]
              refine wpAnyK_take (i := 18) [19, 20, 21] (v := ?v155) rfl (by kernel_rfl) (by kernel_rfl) (by kernel_rfl) (by kernel_rfl) (fun _ _ _ h => h) (Or.inl ⟨by rfl, ?hy155⟩) hH ?rest155
              case hy155 => (intro w hSw; (try dsimp only at hSw); go_simp; with_reducible rfl)
              try simp only [Act.put, List.setIfInBounds_toArray, List.set_cons_zero, List.set_cons_succ]
              refine wpAnyK_one (i := 11) (by kernel_rfl) rfl (fun K hK => ?_) (by kernel_rfl)
              go_simp
              go_at_call 19
              refine (used_any (H4.out.2.1.below (Below.refl _ _).drew)).mono ?_
              rintro e w6 ⟨rfl, hb6⟩
              have hb46 : Below w4.heap.size w4 w6 := (Below.refl _ _).drew.trans hb6
              have x1 := (hb46.cell (p := ⟨w.heap.size, 0, none⟩) (World.block_lt_of_cell? _ _ e1)).trans e1
              have xA := (hb46.cell (p := ⟨w.heap.size + 2, 0, none⟩) (World.block_lt_of_cell? _ _ eA)).trans eA
              have x2 := (hb46.cell (p := ⟨db, 2, none⟩) (World.block_lt_of_cell? _ _ e9)).trans e9
              refine hK.out _ _ ⟨x1, xA, x2⟩ (fun hH => ?_)
              clear hK K
              try simp only [Act.put, List.setIfInBounds_toArray, List.set_cons_zero, List.set_cons_succ]
              refine wpAnyK_take (i := 14) [19, 20, 21] (v := ?v156) rfl (by kernel_rfl) (by kernel_rfl) (by kernel_rfl) (by kernel_rfl) (fun _ _ _ h => h) (Or.inl ⟨by rfl, ?hy156⟩) hH ?rest156
              case hy156 => (intro w hSw; (try dsimp only at hSw); go_simp; with_reducible rfl)
              try simp only [Act.put, List.setIfInBounds_toArray, List.set_cons_zero, List.set_cons_succ]
              refine wpAnyK_take (i := 19) [20, 21] (v := ?v157) rfl (by kernel_rfl) (by kernel_rfl) (by kernel_rfl) (by kernel_rfl) (fun _ _ _ h => h) (Or.inl ⟨by rfl, ?hy157⟩) hH ?rest157
              case hy157 => (intro w hSw; (try dsimp only at hSw); go_simp; with_reducible rfl)
              try simp only [Act.put, List.setIfInBounds_toArray, List.set_cons_zero, List.set_cons_succ]
              refine wpAnyK_take (i := 20) [21] (v := ?v158) rfl (by kernel_rfl) (by kernel_rfl) (by kernel_rfl) (by kernel_rfl) (fun _ _ _ h => h) (Or.inl ⟨by rfl, ?hy158⟩) hH ?rest158
              case hy158 => (intro w hSw; (try dsimp only at hSw); go_simp; with_reducible rfl)
              try simp only [Act.put, List.setIfInBounds_toArray, List.set_cons_zero, List.set_cons_succ]
              refine wpAnyK_last (by kernel_rfl) rfl (fun K hK => ?_) (by kernel_rfl)
              go_simp
              refine hK.out _ _ (wpAnyK_done (by kernel_rfl) ?_ _)
              clear hK K hH y1 yA y2 e9
              have hres : D.app s data = (24, D) := by
                unfold Dk.app
                rw [H.out.2.2, HE.out.1, if_neg (by decide)]
                rw [hg]; show (if 1048576 < fd.size + data.size then ((2 : Int), D) else if 0 ≤ D.quota ∧ data.size ≠ 0 ∧ D.quota < (used D.m : Int) + data.size then (24, D) else D.act (fun m => setL m s ⟨fd ++ data, fs⟩)) = _; rw [if_neg hlong, if_pos ⟨hq, HDQ.out.2.2.2, hov⟩]
              have HR := Lib.hid (And.intro hres hb46)
              clear hres hb46
              go_wp2
              go_ret
              exact ⟨by rw [HR.out.1]; rfl, by rw [HR.out.1]; exact H4.out.2.1.below HR.out.2, Tn.ofBelow (H4.out.1.trans (HR.out.2.mono H4.out.1.size))⟩
            · have HDQ := Lib.hid (And.intro hok1 (And.intro hok2 (And.intro hfs hd0)))
              clear hde hok1 hok2 hfs hd0
              have e9 : w4.cell? ⟨db, 2, none⟩ = some (.int .i64 D.quota) := H4.out.2.1.c2
              have y1 : w4.drew.cell? ⟨w.heap.size, 0, none⟩ = some (.pointer (some ⟨db, 0, none⟩)) := e1
              have yA : w4.drew.cell? ⟨w.heap.size + 2, 0, none⟩ = some (.string data) := eA
              have y2 : w4.drew.cell? ⟨db, 2, none⟩ = some (.int .i64 D.quota) := e9
              go_wp2_with fail
              refine wp_region_K (fun w' => w'.cell? ⟨w.heap.size, 0, none⟩ = some (.pointer (some ⟨db, 0, none⟩)) ∧ w'.cell? ⟨w.heap.size + 2, 0, none⟩ = some (.string data) ∧ w'.cell? ⟨db, 2, none⟩ = some (.int .i64 D.quota)) 21 22 (by kernel_rfl) (by kernel_rfl) ⟨y1, yA, y2⟩ (fun hH => ?_)
              refine wpAnyK_take (i := 0) [1, 2, 3, 4, 5, 9, 11, 21] (v := ?v159) rfl (by kernel_rfl) (by kernel_rfl) (by kernel_rfl) (by kernel_rfl) (fun _ _ _ h => h) (Or.inl ⟨by rfl, ?hy159⟩) hH ?rest159
              case hy159 => (intro w hSw; (try dsimp only at hSw); go_simp; with_reducible rfl)
              try simp only [Act.put, List.setIfInBounds_toArray, List.set_cons_zero, List.set_cons_succ]
              refine wpAnyK_take (i := 1) [2, 3, 4, 5, 9, 11, 21] (v := ?v160) rfl (by kernel_rfl) (by kernel_rfl) (by kernel_rfl) (by kernel_rfl) (fun _ _ _ h => h) (Or.inl ⟨by rfl, ?hy160⟩) hH ?rest160
              case hy160 => (intro w hSw; (try dsimp only at hSw); go_simp; with_reducible rfl)
              try simp only [Act.put, List.setIfInBounds_toArray, List.set_cons_zero, List.set_cons_succ]
              refine wpAnyK_take (i := 2) [3, 4, 5, 9, 11, 21] (v := ?v161) rfl (by kernel_rfl) (by kernel_rfl) (by kernel_rfl) (by kernel_rfl) (fun _ _ _ h => h) (Or.inl ⟨by rfl, ?hy161⟩) hH ?rest161
              case hy161 => (intro w hSw; (try dsimp only at hSw); go_simp; with_reducible rfl)
              try simp only [Act.put, List.setIfInBounds_toArray, List.set_cons_zero, List.set_cons_succ]
              refine wpAnyK_take (i := 3) [4, 5, 9, 11, 21] (v := ?v162) rfl (by kernel_rfl) (by kernel_rfl) (by kernel_rfl) (by kernel_rfl) (fun _ _ _ h => h) (Or.inl ⟨by rfl, ?hy162⟩) hH ?rest162
              case hy162 => (intro w hSw; (try dsimp only at hSw); go_simp; with_reducible rfl)
              try simp only [Act.put, List.setIfInBounds_toArray, List.set_cons_zero, List.set_cons_succ]
              refine wpAnyK_take (i := 4) [5, 9, 11, 21] (v := ?v163) rfl (by kernel_rfl) (by kernel_rfl) (by kernel_rfl) (by kernel_rfl) (fun _ _ _ h => h) (Or.inl ⟨by rfl, ?hy163⟩) hH ?rest163
              case hy163 => (intro w hSw; (try dsimp only at hSw); go_simp; with_reducible rfl)
              try simp only [Act.put, List.setIfInBounds_toArray, List.set_cons_zero, List.set_cons_succ]
              refine wpAnyK_take (i := 5) [9, 11, 21] (v := ?v164) rfl (by kernel_rfl) (by kernel_rfl) (by kernel_rfl) (by kernel_rfl) (fun _ _ _ h => h) (Or.inl ⟨by rfl, ?hy164⟩) hH ?rest164
              case hy164 => (intro w hSw; (try dsimp only at hSw); go_simp; with_reducible rfl)
              try simp only [Act.put, List.setIfInBounds_toArray, List.set_cons_zero, List.set_cons_succ]
              refine wpAnyK_take (i := 6) [7, 8, 9, 11, 21] (v := ?v165) rfl (by kernel_rfl) (by kernel_rfl) (by kernel_rfl) (by kernel_rfl) (fun _ _ _ h => h) (Or.inl ⟨by rfl, ?hy165⟩) hH ?rest165
              case hy165 => (intro w hSw; (try dsimp only at hSw); go_simp; with_reducible rfl)
              try simp only [Act.put, List.setIfInBounds_toArray, List.set_cons_zero, List.set_cons_succ]
              refine wpAnyK_take (i := 7) [8, 9, 11, 21] (v := ?v166) rfl (by kernel_rfl) (by kernel_rfl) (by kernel_rfl) (by kernel_rfl) (fun _ _ _ h => h) (Or.inl ⟨by rfl, ?hy166⟩) hH ?rest166
              case hy166 => (intro w hSw; (try dsimp only at hSw); go_simp; with_reducible rfl)
              try simp only [Act.put, List.setIfInBounds_toArray, List.set_cons_zero, List.set_cons_succ]
              refine wpAnyK_take (i := 8) [9, 11, 21] (v := ?v167) rfl (by kernel_rfl) (by kernel_rfl) (by kernel_rfl) (by kernel_rfl) (fun _ _ _ h => h) (Or.inl ⟨by rfl, ?hy167⟩) hH ?rest167
              case hy167 => (intro w hSw; (try dsimp only at hSw); go_simp; with_reducible rfl)
              try simp only [Act.put, List.setIfInBounds_toArray, List.set_cons_zero, List.set_cons_succ]
              refine wpAnyK_take (i := 9) [11, 21] (v := ?v168) rfl (by kernel_rfl) (by kernel_rfl) (by kernel_rfl) (by kernel_rfl) (fun _ _ _ h => h) (Or.inl ⟨by rfl, ?hy168⟩) hH ?rest168
              case hy168 => (intro w hSw; (try dsimp only at hSw); go_simp; with_reducible rfl)
              try simp only [Act.put, List.setIfInBounds_toArray, List.set_cons_zero, List.set_cons_succ]
              refine wpAnyK_take (i := 10) [11, 21] (v := ?v169) rfl (by kernel_rfl) (by kernel_rfl) (by kernel_rfl) (by kernel_rfl) (fun _ _ _ h => h) (Or.inl ⟨by rfl, ?hy169⟩) hH ?rest169
              case hy169 => (intro w hSw; (try dsimp only at hSw); go_simp; with_reducible rfl)
              try simp only [Act.put, List.setIfInBounds_toArray, List.set_cons_zero, List.set_cons_succ]
              refine wpAnyK_take (i := 12) [13, 14, 19, 20, 21] (v := ?v170) rfl (by kernel_rfl) (by kernel_rfl) (by kernel_rfl) (by kernel_rfl) (fun _ _ _ h => h) (Or.inl ⟨by rfl, ?hy170⟩) hH ?rest170
              case hy170 => (intro w hSw; (try dsimp only at hSw); go_simp; with_reducible rfl)
              try simp only [Act.put, List.setIfInBounds_toArray, List.set_cons_zero, List.set_cons_succ]
              refine wpAnyK_take (i := 13) [14, 19, 20, 21] (v := ?v171) rfl (by kernel_rfl) (by kernel_rfl) (by kernel_rfl) (by kernel_rfl) (fun _ _ _ h => h) (Or.inl ⟨by rfl, ?hy171⟩) hH ?rest171
              case hy171 => (intro w hSw; (try dsimp only at hSw); go_simp; with_reducible rfl)
              try simp only [Act.put, List.setIfInBounds_toArray, List.set_cons_zero, List.set_cons_succ]
              refine wpAnyK_take (i := 15) [16, 17, 18, 19, 20, 21] (v := ?v172) rfl (by kernel_rfl) (by kernel_rfl) (by kernel_rfl) (by kernel_rfl) (fun _ _ _ h => h) (Or.inl ⟨by rfl, ?hy172⟩) hH ?rest172
              case hy172 => (intro w hSw; (try dsimp only at hSw); go_simp; with_reducible rfl)
              try simp only [Act.put, List.setIfInBounds_toArray, List.set_cons_zero, List.set_cons_succ]
              refine wpAnyK_take (i := 16) [17, 18, 19, 20, 21] (v := ?v173) rfl (by kernel_rfl) (by kernel_rfl) (by kernel_rfl) (by kernel_rfl) (fun _ _ _ h => h) (Or.inl ⟨by rfl, ?hy173⟩) hH ?rest173
              case hy173 => (intro w hSw; (try dsimp only at hSw); go_simp; with_reducible rfl)
              try simp only [Act.put, List.setIfInBounds_toArray, List.set_cons_zero, List.set_cons_succ]
              refine wpAnyK_take (i := 17) [18, 19, 20, 21] (v := ?v174) rfl (by kernel_rfl) (by kernel_rfl) (by kernel_rfl) (by kernel_rfl) (fun _ _ _ h => h) (Or.inl ⟨by rfl, ?hy174⟩) hH ?rest174
              case hy174 => (intro w hSw; (try dsimp only at hSw); go_simp; with_reducible rfl)
              try simp only [Act.put, List.setIfInBounds_toArray, List.set_cons_zero, List.set_cons_succ]
              refine wpAnyK_take (i := 18) [19, 20, 21] (v := ?v175) rfl (by kernel_rfl) (by kernel_rfl) (by kernel_rfl) (by kernel_rfl) (fun _ _ _ h => h) (Or.inl ⟨by rfl, ?hy175⟩) hH ?rest175
              case hy175 => (intro w hSw; (try dsimp only at hSw); go_simp; with_reducible rfl)
              try simp only [Act.put, List.setIfInBounds_toArray, List.set_cons_zero, List.set_cons_succ]
              refine wpAnyK_one (i := 11) (by kernel_rfl) rfl (fun K hK => ?_) (by kernel_rfl)
              go_simp
              go_at_call 19
              refine (used_any (H4.out.2.1.below (Below.refl _ _).drew)).mono ?_
              rintro e w6 ⟨rfl, hb6⟩
              have hb46 : Below w4.heap.size w4 w6 := (Below.refl _ _).drew.trans hb6
              have x1 := (hb46.cell (p := ⟨w.heap.size, 0, none⟩) (World.block_lt_of_cell? _ _ e1)).trans e1
              have xA := (hb46.cell (p := ⟨w.heap.size + 2, 0, none⟩) (World.block_lt_of_cell? _ _ eA)).trans eA
              have x2 := (hb46.cell (p := ⟨db, 2, none⟩) (World.block_lt_of_cell? _ _ e9)).trans e9
              refine hK.out _ _ ⟨x1, xA, x2⟩ (fun hH => ?_)
              clear hK K
              try simp only [Act.put, List.setIfInBounds_toArray, List.set_cons_zero, List.set_cons_succ]
              refine wpAnyK_take (i := 14) [19, 20, 21] (v := ?v176) rfl (by kernel_rfl) (by kernel_rfl) (by kernel_rfl) (by kernel_rfl) (fun _ _ _ h => h) (Or.inl ⟨by rfl, ?hy176⟩) hH ?rest176
              case hy176 => (intro w hSw; (try dsimp only at hSw); go_simp; with_reducible rfl)
              try simp only [Act.put, List.setIfInBounds_toArray, List.set_cons_zero, List.set_cons_succ]
              refine wpAnyK_take (i := 19) [20, 21] (v := ?v177) rfl (by kernel_rfl) (by kernel_rfl) (by kernel_rfl) (by kernel_rfl) (fun _ _ _ h => h) (Or.inl ⟨by rfl, ?hy177⟩) hH ?rest177
              case hy177 => (intro w hSw; (try dsimp only at hSw); go_simp; with_reducible rfl)
              try simp only [Act.put, List.setIfInBounds_toArray, List.set_cons_zero, List.set_cons_succ]
              refine wpAnyK_take (i := 20) [21] (v := ?v178) rfl (by kernel_rfl) (by kernel_rfl) (by kernel_rfl) (by kernel_rfl) (fun _ _ _ h => h) (Or.inl ⟨by rfl, ?hy178⟩) hH ?rest178
              case hy178 => (intro w hSw; (try dsimp only at hSw); go_simp; with_reducible rfl)
              try simp only [Act.put, List.setIfInBounds_toArray, List.set_cons_zero, List.set_cons_succ]
              refine wpAnyK_last (by kernel_rfl) rfl (fun K hK => ?_) (by kernel_rfl)
              go_simp
              refine hK.out _ _ (wpAnyK_done (by kernel_rfl) ?_ _)
              clear hK K hH y1 yA y2 e9
              obtain ⟨w7, hw7⟩ : ∃ w7, w6 = w7 := ⟨_, rfl⟩
              have hb47 : Below w4.heap.size w4 w7 := by rw [← hw7]; exact hb46
              rw [hw7]
              clear hw7
              have e1 := (hb47.cell (p := ⟨w.heap.size, 0, none⟩) (World.block_lt_of_cell? _ _ e1)).trans e1
              have eN := (hb47.cell (p := ⟨w.heap.size + 1, 0, none⟩) (World.block_lt_of_cell? _ _ eN)).trans eN
              have eA := (hb47.cell (p := ⟨w.heap.size + 2, 0, none⟩) (World.block_lt_of_cell? _ _ eA)).trans eA
              have hq0 := World.block_lt_of_cell? _ _ q0
              have hqf : ∀ j, w7.frozen? ⟨w2.heap.size, j, none⟩ = false := fun j => (hb47.frozen (p := ⟨w2.heap.size, j, none⟩) hq0).trans (H4.out.2.2.2.2.1 j)
              have q0 := (hb47.cell (p := ⟨w2.heap.size, 0, none⟩) (World.block_lt_of_cell? _ _ q0)).trans q0
              have q1 := (hb47.cell (p := ⟨w2.heap.size, 1, none⟩) (World.block_lt_of_cell? _ _ q1)).trans q1
              have H4' := Lib.hid (And.intro (H4.out.1.trans (hb47.mono H4.out.1.size)) (And.intro (H4.out.2.1.below hb47) (And.intro q0 (And.intro q1 (And.intro hqf (And.intro hb47 (H4.out.2.2.2.2.2.2.trans (hb47.mono H4.out.2.2.2.2.2.2.size))))))))
              have hz47 := hb47.size
              clear hb47 hqf
              have hok1 := HDQ.out.1
              have hok2 := HDQ.out.2.1
              have hres : D.app s data = D.act (fun m => setL m s ⟨fd ++ data, fs⟩) := by
                unfold Dk.app
                rw [H.out.2.2, HE.out.1, if_neg (by decide)]
                rw [hg]; show (if 1048576 < fd.size + data.size then ((2 : Int), D) else if 0 ≤ D.quota ∧ data.size ≠ 0 ∧ D.quota < (used D.m : Int) + data.size then (24, D) else D.act (fun m => setL m s ⟨fd ++ data, fs⟩)) = _; rw [if_neg hlong, if_neg (fun h => by have := h.2.2; omega)]
              have HR := Lib.hid hres
              clear hres
              have h4 : DkAt (fun q => F q ∨ q = w2.heap.size) w7 db mb D := H22.out.2.2.1.more (fun q hq => .inl hq) (fun q hq => hq.elim .inl (fun e => .inr (by omega))) (fun q hq => hq.elim (fun h => Nat.lt_of_lt_of_le (H22.out.2.2.1.lt q h) (by have := H4.out.2.2.2.2.2.1; omega)) (fun e => by have := H4.out.2.2.2.2.2.1; omega)) H4'.out.2.2.2.2.2.2
              have n0 : ∀ k, ¬ two db mb (w.heap.size + k) := fun k hq => by
                have := H.out.1.m.lt
                rcases hq with e | e <;> omega
              have nF : ¬ two db mb w2.heap.size := fun hq => by
                have := H.out.1.m.lt
                have := H22.out.2.2.2
                rcases hq with e | e <;> omega
              have hd : Does (fun q => F q ∨ q = w2.heap.size) (fun q => q = w2.heap.size) 105 #[.pointer (some ⟨w2.heap.size, 0, none⟩), .pointer (some ⟨w.heap.size + 2, 0, none⟩), .pointer (some ⟨w.heap.size, 0, none⟩), .pointer (some ⟨w.heap.size + 1, 0, none⟩)] w7 db mb D (fun m => setL m s ⟨fd ++ data, fs⟩) := append1_does e1 eN q0 q1 H4'.out.2.2.2.2.1 eA (n0 0) (n0 1) nF (n0 2) (by have := H22.out.2.2.2; omega) (by have := H22.out.2.2.2; omega) (.inr rfl) HE.out.2 (by rw [hg]; rfl) ⟨hok1, hok2⟩
              have HD := Lib.hid (And.intro h4 hd)
              clear h4 hd n0 nF g1 g3 gN gA
              go_wp2_with fail
              refine (act_any HD.out.1 H.out.2.1 ha (enters_of Tryz.func105 (by kernel_rfl) rfl) HD.out.2).mono ?_
              rintro e w5 ⟨rfl, hd5, ht5⟩
              have H5 := Lib.hid (And.intro hd5 ht5)
              clear hd5 ht5
              go_wp2
              go_ret
              refine ⟨by rw [HR.out]; rfl, ?_, (Tn.ofBelow H4'.out.1).andThen H5.out.2 (fun q hq => ?_)⟩
              · rw [HR.out]
                exact H5.out.1.less (fun q hq => .inl hq) H.out.1.fd H.out.1.fm
              · rcases hq with hq | hq
                · exact .inl hq
                · exact .inr (by have := H22.out.2.2.2; omega)
        · have HDQ := Lib.hid (And.intro hok1 (And.intro hok2 hfs))
          have hqf : decide (0 ≤ D.quota) = false := decide_eq_false hq
          have HNQ := Lib.hid hq
          clear hde hok1 hok2 hfs hq
          have e9 : w4.cell? ⟨db, 2, none⟩ = some (.int .i64 D.quota) := H4.out.2.1.c2
          have y1 : w4.drew.cell? ⟨w.heap.size, 0, none⟩ = some (.pointer (some ⟨db, 0, none⟩)) := e1
          have yA : w4.drew.cell? ⟨w.heap.size + 2, 0, none⟩ = some (.string data) := eA
          have y2 : w4.drew.cell? ⟨db, 2, none⟩ = some (.int .i64 D.quota) := e9
          go_wp2_with fail
          refine wp_region_K (fun w' => w'.cell? ⟨w.heap.size, 0, none⟩ = some (.pointer (some ⟨db, 0, none⟩)) ∧ w'.cell? ⟨w.heap.size + 2, 0, none⟩ = some (.string data) ∧ w'.cell? ⟨db, 2, none⟩ = some (.int .i64 D.quota)) 21 22 (by kernel_rfl) (by kernel_rfl) ⟨y1, yA, y2⟩ (fun hH => ?_)
          refine wpAnyK_take (i := 0) [1, 2, 3, 4, 5, 9, 11, 21] (v := ?v179) rfl (by kernel_rfl) (by kernel_rfl) (by kernel_rfl) (by kernel_rfl) (fun _ _ _ h => h) (Or.inl ⟨by rfl, ?hy179⟩) hH ?rest179
          case hy179 => (intro w hSw; (try dsimp only at hSw); go_simp; with_reducible rfl)
          try simp only [Act.put, List.setIfInBounds_toArray, List.set_cons_zero, List.set_cons_succ]
          refine wpAnyK_take (i := 1) [2, 3, 4, 5, 9, 11, 21] (v := ?v180) rfl (by kernel_rfl) (by kernel_rfl) (by kernel_rfl) (by kernel_rfl) (fun _ _ _ h => h) (Or.inl ⟨by rfl, ?hy180⟩) hH ?rest180
          case hy180 => (intro w hSw; (try dsimp only at hSw); go_simp; with_reducible rfl)
          try simp only [Act.put, List.setIfInBounds_toArray, List.set_cons_zero, List.set_cons_succ]
          refine wpAnyK_take (i := 2) [3, 4, 5, 9, 11, 21] (v := ?v181) rfl (by kernel_rfl) (by kernel_rfl) (by kernel_rfl) (by kernel_rfl) (fun _ _ _ h => h) (Or.inl ⟨by rfl, ?hy181⟩) hH ?rest181
          case hy181 => (intro w hSw; (try dsimp only at hSw); go_simp; with_reducible rfl)
          try simp only [Act.put, List.setIfInBounds_toArray, List.set_cons_zero, List.set_cons_succ]
          refine wpAnyK_take (i := 3) [4, 5, 9, 11, 21] (v := ?v182) rfl (by kernel_rfl) (by kernel_rfl) (by kernel_rfl) (by kernel_rfl) (fun _ _ _ h => h) (Or.inl ⟨by rfl, ?hy182⟩) hH ?rest182
          case hy182 => (intro w hSw; (try dsimp only at hSw); go_simp; with_reducible rfl)
          try simp only [Act.put, List.setIfInBounds_toArray, List.set_cons_zero, List.set_cons_succ]
          refine wpAnyK_take (i := 4) [5, 9, 11, 21] (v := ?v183) rfl (by kernel_rfl) (by kernel_rfl) (by kernel_rfl) (by kernel_rfl) (fun _ _ _ h => h) (Or.inl ⟨by rfl, ?hy183⟩) hH ?rest183
          case hy183 => (intro w hSw; (try dsimp only at hSw); go_simp; with_reducible rfl)
          try simp only [Act.put, List.setIfInBounds_toArray, List.set_cons_zero, List.set_cons_succ]
          refine wpAnyK_take (i := 5) [9, 11, 21] (v := ?v184) rfl (by kernel_rfl) (by kernel_rfl) (by kernel_rfl) (by kernel_rfl) (fun _ _ _ h => h) (Or.inl ⟨by rfl, ?hy184⟩) hH ?rest184
          case hy184 => (intro w hSw; (try dsimp only at hSw); go_simp; with_reducible rfl)
          try simp only [Act.put, List.setIfInBounds_toArray, List.set_cons_zero, List.set_cons_succ]
          refine wpAnyK_take (i := 6) [7, 8, 9, 11, 21] (v := undef) rfl (by kernel_rfl) (by kernel_rfl) (by kernel_rfl) (by kernel_rfl) (fun _ _ _ h => h) (Or.inr ⟨by rfl, rfl⟩) hH ?rest185
          try simp only [Act.put, List.setIfInBounds_toArray, List.set_cons_zero, List.set_cons_succ]
          refine wpAnyK_take (i := 7) [8, 9, 11, 21] (v := undef) rfl (by kernel_rfl) (by kernel_rfl) (by kernel_rfl) (by kernel_rfl) (fun _ _ _ h => h) (Or.inr ⟨by rfl, rfl⟩) hH ?rest186
          try simp only [Act.put, List.setIfInBounds_toArray, List.set_cons_zero, List.set_cons_succ]
          refine wpAnyK_take (i := 8) [9, 11, 21] (v := ?v187) rfl (by kernel_rfl) (by kernel_rfl) (by kernel_rfl) (by kernel_rfl) (fun _ _ _ h => h) (Or.inl ⟨by rfl, ?hy187⟩) hH ?rest187
          case hy187 => (intro w hSw; (try dsimp only at hSw); go_simp; with_reducible rfl)
          try simp only [Act.put, List.setIfInBounds_toArray, List.set_cons_zero, List.set_cons_succ]
          refine wpAnyK_take (i := 9) [11, 21] (v := ?v188) rfl (by kernel_rfl) (by kernel_rfl) (by kernel_rfl) (by kernel_rfl) (fun _ _ _ h => h) (Or.inl ⟨by rfl, ?hy188⟩) hH ?rest188
          case hy188 => (intro w hSw; (try dsimp only at hSw); go_simp; with_reducible rfl)
          try simp only [Act.put, List.setIfInBounds_toArray, List.set_cons_zero, List.set_cons_succ]
          refine wpAnyK_take (i := 10) [11, 21] (v := undef) rfl (by kernel_rfl) (by kernel_rfl) (by kernel_rfl) (by kernel_rfl) (fun _ _ _ h => h) (Or.inr ⟨by rfl, rfl⟩) hH ?rest189
          try simp only [Act.put, List.setIfInBounds_toArray, List.set_cons_zero, List.set_cons_succ]
          refine wpAnyK_take (i := 12) [13, 14, 19, 20, 21] (v := undef) rfl (by kernel_rfl) (by kernel_rfl) (by kernel_rfl) (by kernel_rfl) (fun _ _ _ h => h) (Or.inr ⟨by rfl, rfl⟩) hH ?rest190
          try simp only [Act.put, List.setIfInBounds_toArray, List.set_cons_zero, List.set_cons_succ]
          refine wpAnyK_take (i := 13) [14, 19, 20, 21] (v := undef) rfl (by kernel_rfl) (by kernel_rfl) (by kernel_rfl) (by kernel_rfl) (fun _ _ _ h => h) (Or.inr ⟨by rfl, rfl⟩) hH ?rest191
          try simp only [Act.put, List.setIfInBounds_toArray, List.set_cons_zero, List.set_cons_succ]
          refine wpAnyK_take (i := 15) [16, 17, 18, 19, 20, 21] (v := undef) rfl (by kernel_rfl) (by kernel_rfl) (by kernel_rfl) (by kernel_rfl) (fun _ _ _ h => h) (Or.inr ⟨by rfl, rfl⟩) hH ?rest192
          try simp only [Act.put, List.setIfInBounds_toArray, List.set_cons_zero, List.set_cons_succ]
          refine wpAnyK_take (i := 16) [17, 18, 19, 20, 21] (v := undef) rfl (by kernel_rfl) (by kernel_rfl) (by kernel_rfl) (by kernel_rfl) (fun _ _ _ h => h) (Or.inr ⟨by rfl, rfl⟩) hH ?rest193
          try simp only [Act.put, List.setIfInBounds_toArray, List.set_cons_zero, List.set_cons_succ]
          refine wpAnyK_take (i := 17) [18, 19, 20, 21] (v := undef) rfl (by kernel_rfl) (by kernel_rfl) (by kernel_rfl) (by kernel_rfl) (fun _ _ _ h => h) (Or.inr ⟨by rfl, rfl⟩) hH ?rest194
          try simp only [Act.put, List.setIfInBounds_toArray, List.set_cons_zero, List.set_cons_succ]
          refine wpAnyK_take (i := 18) [19, 20, 21] (v := undef) rfl (by kernel_rfl) (by kernel_rfl) (by kernel_rfl) (by kernel_rfl) (fun _ _ _ h => h) (Or.inr ⟨by rfl, rfl⟩) hH ?rest195
          try simp only [Act.put, List.setIfInBounds_toArray, List.set_cons_zero, List.set_cons_succ]
          refine wpAnyK_one (i := 11) (by kernel_rfl) rfl (fun K hK => ?_) (by kernel_rfl)
          go_simp
          refine hK.out _ _ hH (fun hH => ?_)
          clear hK K
          try simp only [Act.put, List.setIfInBounds_toArray, List.set_cons_zero, List.set_cons_succ]
          refine wpAnyK_take (i := 14) [19, 20, 21] (v := undef) rfl (by kernel_rfl) (by kernel_rfl) (by kernel_rfl) (by kernel_rfl) (fun _ _ _ h => h) (Or.inr ⟨by rfl, rfl⟩) hH ?rest196
          try simp only [Act.put, List.setIfInBounds_toArray, List.set_cons_zero, List.set_cons_succ]
          refine wpAnyK_take (i := 19) [20, 21] (v := undef) rfl (by kernel_rfl) (by kernel_rfl) (by kernel_rfl) (by kernel_rfl) (fun _ _ _ h => h) (Or.inr ⟨by rfl, rfl⟩) hH ?rest197
          try simp only [Act.put, List.setIfInBounds_toArray, List.set_cons_zero, List.set_cons_succ]
          refine wpAnyK_take (i := 20) [21] (v := ?v198) rfl (by kernel_rfl) (by kernel_rfl) (by kernel_rfl) (by kernel_rfl) (fun _ _ _ h => h) (Or.inl ⟨by rfl, ?hy198⟩) hH ?rest198
          case hy198 => (intro w hSw; (try dsimp only at hSw); go_simp; with_reducible rfl)
          try simp only [Act.put, List.setIfInBounds_toArray, List.set_cons_zero, List.set_cons_succ]
          refine wpAnyK_last (by kernel_rfl) rfl (fun K hK => ?_) (by kernel_rfl)
          go_simp
          refine hK.out _ _ (wpAnyK_done (by kernel_rfl) ?_ _)
          clear hK K hH y1 yA y2 e9
          obtain ⟨w7, hw7⟩ : ∃ w7, w4.drew = w7 := ⟨_, rfl⟩
          have hb47 : Below w4.heap.size w4 w7 := by rw [← hw7]; exact (Below.refl _ _).drew
          rw [hw7]
          clear hw7
          have e1 := (hb47.cell (p := ⟨w.heap.size, 0, none⟩) (World.block_lt_of_cell? _ _ e1)).trans e1
          have eN := (hb47.cell (p := ⟨w.heap.size + 1, 0, none⟩) (World.block_lt_of_cell? _ _ eN)).trans eN
          have eA := (hb47.cell (p := ⟨w.heap.size + 2, 0, none⟩) (World.block_lt_of_cell? _ _ eA)).trans eA
          have hq0 := World.block_lt_of_cell? _ _ q0
          have hqf : ∀ j, w7.frozen? ⟨w2.heap.size, j, none⟩ = false := fun j => (hb47.frozen (p := ⟨w2.heap.size, j, none⟩) hq0).trans (H4.out.2.2.2.2.1 j)
          have q0 := (hb47.cell (p := ⟨w2.heap.size, 0, none⟩) (World.block_lt_of_cell? _ _ q0)).trans q0
          have q1 := (hb47.cell (p := ⟨w2.heap.size, 1, none⟩) (World.block_lt_of_cell? _ _ q1)).trans q1
          have H4' := Lib.hid (And.intro (H4.out.1.trans (hb47.mono H4.out.1.size)) (And.intro (H4.out.2.1.below hb47) (And.intro q0 (And.intro q1 (And.intro hqf (And.intro hb47 (H4.out.2.2.2.2.2.2.trans (hb47.mono H4.out.2.2.2.2.2.2.size))))))))
          have hz47 := hb47.size
          clear hb47 hqf
          have hok1 := HDQ.out.1
          have hok2 := HDQ.out.2.1
          have hres : D.app s data = D.act (fun m => setL m s ⟨fd ++ data, fs⟩) := by
            unfold Dk.app
            rw [H.out.2.2, HE.out.1, if_neg (by decide)]
            rw [hg]; show (if 1048576 < fd.size + data.size then ((2 : Int), D) else if 0 ≤ D.quota ∧ data.size ≠ 0 ∧ D.quota < (used D.m : Int) + data.size then (24, D) else D.act (fun m => setL m s ⟨fd ++ data, fs⟩)) = _; rw [if_neg hlong, if_neg (fun h => by have := h.1; have := HNQ.out; omega)]
          have HR := Lib.hid hres
          clear hres
          have h4 : DkAt (fun q => F q ∨ q = w2.heap.size) w7 db mb D := H22.out.2.2.1.more (fun q hq => .inl hq) (fun q hq => hq.elim .inl (fun e => .inr (by omega))) (fun q hq => hq.elim (fun h => Nat.lt_of_lt_of_le (H22.out.2.2.1.lt q h) (by have := H4.out.2.2.2.2.2.1; omega)) (fun e => by have := H4.out.2.2.2.2.2.1; omega)) H4'.out.2.2.2.2.2.2
          have n0 : ∀ k, ¬ two db mb (w.heap.size + k) := fun k hq => by
            have := H.out.1.m.lt
            rcases hq with e | e <;> omega
          have nF : ¬ two db mb w2.heap.size := fun hq => by
            have := H.out.1.m.lt
            have := H22.out.2.2.2
            rcases hq with e | e <;> omega
          have hd : Does (fun q => F q ∨ q = w2.heap.size) (fun q => q = w2.heap.size) 105 #[.pointer (some ⟨w2.heap.size, 0, none⟩), .pointer (some ⟨w.heap.size + 2, 0, none⟩), .pointer (some ⟨w.heap.size, 0, none⟩), .pointer (some ⟨w.heap.size + 1, 0, none⟩)] w7 db mb D (fun m => setL m s ⟨fd ++ data, fs⟩) := append1_does e1 eN q0 q1 H4'.out.2.2.2.2.1 eA (n0 0) (n0 1) nF (n0 2) (by have := H22.out.2.2.2; omega) (by have := H22.out.2.2.2; omega) (.inr rfl) HE.out.2 (by rw [hg]; rfl) ⟨hok1, hok2⟩
          have HD := Lib.hid (And.intro h4 hd)
          clear h4 hd n0 nF g1 g3 gN gA
          go_wp2_with fail
          refine (act_any HD.out.1 H.out.2.1 ha (enters_of Tryz.func105 (by kernel_rfl) rfl) HD.out.2).mono ?_
          rintro e w5 ⟨rfl, hd5, ht5⟩
          have H5 := Lib.hid (And.intro hd5 ht5)
          clear hd5 ht5
          go_wp2
          go_ret
          refine ⟨by rw [HR.out]; rfl, ?_, (Tn.ofBelow H4'.out.1).andThen H5.out.2 (fun q hq => ?_)⟩
          · rw [HR.out]
            exact H5.out.1.less (fun q hq => .inl hq) H.out.1.fd H.out.1.fm
          · rcases hq with hq | hq
            · exact .inl hq
            · exact .inr (by have := H22.out.2.2.2; omega)
end Go.Proofs.YtceamkcaokdgaaaGreatDoor
/-
  Disk: Read, Restore, Quota, Fuse, Acts, Twin.
-/
namespace Go.Proofs.YtceamkcaokdgaaaGreatDoor
open Go.RowKit
variable {F G : Nat → Prop} {w w' : World} {db mb : Nat} {D D' : Dk}

theorem rdT_at {w : World} {s : ByteArray} (hs : s.size ≤ 140737488351232) {o : Option Addr} {on : Bool} (h : OnAt w o on) : Calls Tryz.prog 103 #[.pointer o, .slice (some ⟨w.heap.size, 0, none⟩) 1 1] (w.alloc (.cells #[.string s] 9)) fun e w' =>
    e = .returned (.int .i64 (askE on [s])) ∧ Below w.heap.size w w' := by
  have h1 := asked_any (h.below ((Below.refl _ _).alloc (Nat.le_refl _) (.cells #[.string s] 9))) (rdT_one (w := w.alloc (.cells #[.string s] 9)) (b := w.heap.size) (s := s) (by simp [go_sem]) 1) (by simp) (fun x hx => by rw [List.mem_singleton] at hx; subst hx; omega)
  refine h1.mono ?_
  rintro e w' ⟨rfl, hb⟩
  exact ⟨rfl, ((Below.refl _ _).alloc (Nat.le_refl _) _).trans (hb.mono (by simp))⟩

set_option maxRecDepth 100000 in
set_option maxHeartbeats 2000000 in
theorem read_any (h : DkAt F w db mb D) (hon : D.on = true) (s : ByteArray) (hs : s.size ≤ 140737488351232) :
    Calls Tryz.prog 16 #[.pointer (some ⟨db, 0, none⟩), .string s] w fun e w' => e = .returned (.tuple #[.string (D.read s).1, .int .i64 (D.read s).2]) ∧ Below w.heap.size w w' := by
  have hask : D.asked [s] = askE true [s] := by unfold Dk.asked askE; rw [hon]
  have c1 := h.c1
  rw [hon] at c1
  have hlt := h.ltd
  have hA := rdT_at (w := w) hs (o := some ⟨db, 0, none⟩) (on := true) (.inr ⟨db, rfl, c1⟩)
  have H := Lib.hid (And.intro h (And.intro hask hlt))
  clear h hon hask hlt c1
  cases hnm : nmB s
  · have he : askE true [s] = 21 := by simp [askE, hnm]
    rw [he] at hA
    have hres : D.read s = (ByteArray.empty, 21) := by
      unfold Dk.read
      rw [H.out.2.1, he, if_pos (by decide)]
    rw [hres]
    clear he hres hnm
    go_enter Tryz.func16, Tryz.ntmps16
    go_wp2_with (go_at_call 103; refine hA.mono ?_; rintro e w2 ⟨rfl, hb2⟩; have H2 := Lib.hid hb2; clear hb2)
    go_ret2
    exact ⟨rfl, H2.out⟩
  · have he : askE true [s] = 0 := by simp [askE, hnm]
    rw [he] at hA
    have hres : D.read s = match getL D.m s with | none => (ByteArray.empty, 22) | some f => (f.data, 0) := by
      unfold Dk.read
      rw [H.out.2.1, he, if_neg (by decide)]
      rfl
    have HE := Lib.hid (And.intro he hres)
    clear he hnm hres
    go_enter Tryz.func16, Tryz.ntmps16
    go_wp2_with (go_at_call 103; refine hA.mono ?_; rintro e w2 ⟨rfl, hb2⟩; have H2 := Lib.hid hb2; clear hb2 hA; have g3 := (H.out.1.below H2.out).c0)
    cases hg : getL D.m s with
    | none =>
      have hlk : (Instr.lookup 62 (.map (some mb)) (.string s) true).run Tryz.prog w2 = .ok (.tuple #[.agg #[.string ByteArray.empty, .int .i64 0], .bool false]) w2 := by
        have h5 := MapL.look (H.out.1.below H2.out).m keyN und_map (z := .agg #[.string ByteArray.empty, .int .i64 0]) (Tryz.zeroValue71 _) true s
        rw [hg] at h5
        exact h5
      have HL := Lib.hid (And.intro HE.out.2 hg)
      clear hg
      rw [hlk]
      go_simp
      go_wp2_with fail
      go_ret2
      have hr := HL.out.1
      rw [HL.out.2] at hr
      rw [hr]
      exact ⟨rfl, H2.out.trans (((Below.refl _ _).alloc (Nat.le_refl _) _).mono H2.out.size)⟩
    | some f =>
      have hlk : (Instr.lookup 62 (.map (some mb)) (.string s) true).run Tryz.prog w2 = .ok (.tuple #[.agg #[.string f.data, .int .i64 (f.syn : Int)], .bool true]) w2 := by
        have h5 := MapL.look (H.out.1.below H2.out).m keyN und_map (z := .agg #[.string ByteArray.empty, .int .i64 0]) (Tryz.zeroValue71 _) true s
        rw [hg] at h5
        exact h5
      have HL := Lib.hid (And.intro HE.out.2 hg)
      clear hg
      rw [hlk]
      go_simp
      go_wp2_with fail
      go_ret2
      have hr := HL.out.1
      rw [HL.out.2] at hr
      rw [hr]
      exact ⟨rfl, H2.out.trans (((Below.refl _ _).alloc (Nat.le_refl _) _).mono H2.out.size)⟩


set_option maxRecDepth 100000 in
theorem restore_any (h : DkAt F w db mb D) : Calls Tryz.prog 36 #[.pointer (some ⟨db, 0, none⟩)] w fun e w' => e = .returned (.tuple #[]) ∧ DkAt F w' db mb D.restore ∧ Tn (two db mb) w w' := by
  have c0 := h.c0
  have c1 := h.c1
  have hq : ∀ (w : World) (r : Option Nat), (binOp .neq 62 (.map r) (.map none)).run Tryz.prog w = .ok (.bool (!r.isNone)) w := fun w r => run_neq_map_nil w _ _ _ r und_map
  have f1 := h.fz 1
  have H := Lib.hid h
  clear h
  go_enter Tryz.func36, Tryz.ntmps36
  go_wp2_with fail
  go_end0
  exact ⟨rfl, H.out.set1 true, Tn.setCell _ _ _ (.inl rfl)⟩

set_option maxRecDepth 100000 in
theorem quota_any (h : DkAt F w db mb D) (n : Int) (hn : n ≤ 9223372036854775807) : Calls Tryz.prog 37 #[.pointer (some ⟨db, 0, none⟩), .int .i64 n] w fun e w' => e = .returned (.tuple #[]) ∧ DkAt F w' db mb (D.setQuota n) ∧ Tn (two db mb) w w' := by
  have c0 := h.c0
  have c2 := h.c2
  have hq : ∀ (w : World) (r : Option Nat), (binOp .neq 62 (.map r) (.map none)).run Tryz.prog w = .ok (.bool (!r.isNone)) w := fun w r => run_neq_map_nil w _ _ _ r und_map
  have f1 := h.fz 2
  have H := Lib.hid h
  clear h
  go_enter Tryz.func37, Tryz.ntmps37
  go_wp2_with fail
  go_end0
  exact ⟨rfl, H.out.set2 (n := max n (-1)) (by omega), Tn.setCell _ _ _ (.inl rfl)⟩

theorem acts_any (h : DkAt F w db mb D) : Calls Tryz.prog 18 #[.pointer (some ⟨db, 0, none⟩)] w fun e w' => e = .returned (.int .i64 (D.acts : Int)) ∧ w' = w := by
  have c4 := h.c4
  go_enter Tryz.func18, Tryz.ntmps18
  go_wp2_with fail
  go_ret
  exact ⟨rfl, rfl⟩

theorem rdC_own {B n : Nat} {v : Value} {l : List Int} (h : w.ownsRow B 3 1 v l.length (l.map (Value.int .i64))) {G : Nat → Prop} (hG : ∀ q, G q → q < B) : RdC G w v l := by
  obtain ⟨h1, ⟨rfl, h2⟩ | ⟨g, cap, cur, rfl, hB, hh, hn, hc, hz, ht⟩⟩ := h
  · have : l = [] := List.eq_nil_of_length_eq_zero h2
    subst this
    exact ⟨none, 0, rfl, .inl rfl⟩
  · refine ⟨some ⟨g, 0, none⟩, cap, rfl, .inr ⟨g, 0, rfl, fun hg => by have := hG g hg; omega, (Array.getElem?_eq_some_iff.1 hh).1, fun i hi => ?_⟩⟩
    have h3 : cur[0 + i]? = some (.int .i64 l[i]) := by
      have h4 : (cur.toList.take (l.length * 1))[i]? = some (.int .i64 l[i]) := by rw [ht]; simp [hi]
      rw [List.getElem?_take_of_lt (by omega)] at h4
      rw [Nat.zero_add, ← Array.getElem?_toList]
      exact h4
    exact (cell_of_row w g _ _ _ _ hh).trans h3
theorem cloneC {v : Value} {l : List Int} (h : RdC F w v l) (hl : l.length ≤ 1000000) : Calls Tryz.prog 125 #[v] w fun e w' =>
    ∃ v', e = .returned v' ∧ (∀ G : Nat → Prop, (∀ q, G q → q < w.heap.size) → RdC G w' v' l) ∧ Below w.heap.size w w' := by
  obtain ⟨a, c, rfl, h⟩ := h
  rcases h with rfl | ⟨b, off, rfl, hf, hlt, hc⟩
  · cases a with
    | none =>
      refine (Tryz.slices_Clone_int_nil _ c w).mono ?_
      rintro e w' ⟨rfl, rfl⟩
      exact ⟨_, rfl, fun G _ => ⟨none, 0, rfl, .inl rfl⟩, Below.refl _ _⟩
    | some a =>
      refine (Tryz.slices_Clone_int_zero a c w).mono ?_
      rintro e w' ⟨v', rfl, h1, h2, hb⟩
      exact ⟨_, rfl, fun G hG => rdC_own (n := 0) h1 hG, hb⟩
  · refine (Tryz.slices_Clone_int b off l.length c l w (Nat.le_refl _) (by omega) (fun j hj => by rw [hc j hj]; simp [hj])).mono ?_
    rintro e w' ⟨v', rfl, h1, h2, hb⟩
    rw [List.take_length] at h1
    exact ⟨_, rfl, fun G hG => rdC_own (n := 0) h1 hG, hb⟩

set_option maxRecDepth 100000 in
theorem fuse_any (h : DkAt F w db mb D) (n : Int) (hn : n ≤ 9223372036854775807) {v : Value} {cuts : List Int} (hr : RdC (two db mb) w v cuts) (hl : cuts.length ≤ 1000000) (flip : Int) :
    Calls Tryz.prog 39 #[.pointer (some ⟨db, 0, none⟩), .int .i64 n, v, .int .i64 flip] w fun e w' => e = .returned (.tuple #[]) ∧ DkAt F w' db mb (D.setFuse n cuts flip) ∧ Tn (two db mb) w w' := by
  have hq : ∀ (w : World) (r : Option Nat), (binOp .eql 62 (.map r) (.map none)).run Tryz.prog w = .ok (.bool r.isNone) w := fun w r => run_eql_map_nil w _ _ _ r und_map
  obtain ⟨c3, k3, _⟩ := h.c3
  have c0 := h.c0
  have f1 := h.fz 3
  have h1 : DkAt F (w.setCell ⟨db, 3, none⟩ (.pointer none)) db mb { D with fuse := none } := h.set3 (z := none) rfl (fun _ e => by cases e)
  have t1 : Tn (two db mb) w (w.setCell ⟨db, 3, none⟩ (.pointer none)) := Tn.setCell _ _ _ (.inl rfl)
  obtain ⟨w1, hw1⟩ : ∃ w1, w.setCell ⟨db, 3, none⟩ (.pointer none) = w1 := ⟨_, rfl⟩
  rw [hw1] at h1 t1
  have hr1 := hr.tn t1 (fun q _ hq => hq)
  by_cases h0 : 0 ≤ n
  · have hd : decide (0 ≤ n) = true := by simpa using h0
    have hC := cloneC hr1 hl
    have H := Lib.hid (And.intro h (And.intro h1 (And.intro t1 hl)))
    clear h h1 t1 hr hr1 hl
    go_enter Tryz.func39, Tryz.ntmps39
    go_wp2_with (go_at_call 125; refine hC.mono ?_; rintro e w2 ⟨v', rfl, hv', hb2⟩; obtain ⟨a1, c1, rfl, _⟩ := hv' F (fun q hq => H.out.2.1.lt q hq); have h2 := H.out.2.1.below hb2; obtain ⟨c3b, k3b, _⟩ := h2.c3; have f3b := h2.fz 3; have kA : ∀ x, (w2.alloc x).cell? ⟨db, 3, none⟩ = some c3b := fun x => (((Below.refl _ w2).alloc (Nat.le_refl _) x).cell (p := ⟨db, 3, none⟩) h2.ltd).trans k3b; have fA : ∀ x, (w2.alloc x).frozen? ⟨db, 3, none⟩ = false := fun x => (h2.below ((Below.refl _ w2).alloc (Nat.le_refl _) x)).fz 3; have H2 := Lib.hid (And.intro h2 (And.intro (fun w' (hb : Below w2.heap.size w2 w') => (hv' F (fun q hq => H.out.2.1.lt q hq)).tn (Tn.ofBelow (F := fun _ => False) hb) (fun _ _ e => e.elim)) hb2)); clear h2 hv' hb2 hC)
    go_end0
    obtain ⟨W4, hW4⟩ : ∃ W4, w2.alloc (.cells #[.int .i64 n, .slice a1 cuts.length c1, .int .i64 flip] 127) = W4 := ⟨_, rfl⟩
    rw [hW4]
    have b4 : Below w2.heap.size w2 W4 := by rw [← hW4]; exact (Below.refl _ _).alloc (Nat.le_refl _) _
    have z4 : W4.heap.size = w2.heap.size + 1 := by rw [← hW4]; simp
    have c40 : W4.cell? ⟨w2.heap.size, 0, none⟩ = some (.int .i64 n) := by rw [← hW4]; simp [go_sem]
    have c41 : W4.cell? ⟨w2.heap.size, 1, none⟩ = some (.slice a1 cuts.length c1) := by rw [← hW4]; simp [go_sem]
    have c42 : W4.cell? ⟨w2.heap.size, 2, none⟩ = some (.int .i64 flip) := by rw [← hW4]; simp [go_sem]
    have h4 := H2.out.1.below b4
    have t5 : Tn (two db mb) W4 (W4.setCell ⟨db, 3, none⟩ (.pointer (some ⟨w2.heap.size, 0, none⟩))) := Tn.setCell _ _ _ (.inl rfl)
    have nF : ¬ F w2.heap.size := fun hf => by have := H2.out.1.lt _ hf; omega
    have n2 : ¬ two db mb w2.heap.size := fun h2 => nF (two_F H.out.1 _ h2)
    have hn0 : n = (n.toNat : Int) := by omega
    have hz : FzAt F (W4.setCell ⟨db, 3, none⟩ (.pointer (some ⟨w2.heap.size, 0, none⟩))) (some ⟨n.toNat, cuts, flip⟩) (.pointer (some ⟨w2.heap.size, 0, none⟩)) :=
      ⟨w2.heap.size, .slice a1 cuts.length c1, rfl, nF, by simp [z4], t5.cell (by rw [c40]; exact congrArg (fun n => some (Value.int .i64 n)) hn0) n2, t5.cell c41 n2, t5.cell c42 n2, (H2.out.2.1 W4 b4).tn t5 (fun q _ hq => two_F H.out.1 q hq)⟩
    have hfin := h4.set3 hz (fun y e => by
      injection e with e
      subst e
      exact ⟨by show n.toNat ≤ _; omega, H.out.2.2.2⟩)
    have he : D.setFuse n cuts flip = { ({ D with fuse := none } : Dk) with fuse := some ⟨n.toNat, cuts, flip⟩ } := by unfold Dk.setFuse; rw [if_pos h0]
    rw [he]
    refine ⟨rfl, hfin, H.out.2.2.1.trans (((Tn.ofBelow (F := two db mb) H2.out.2.2).trans (Tn.ofBelow b4)).trans t5)⟩
  · have hd : decide (0 ≤ n) = false := by simpa using h0
    have H := Lib.hid (And.intro h (And.intro h1 t1))
    clear h h1 t1 hr hr1 hl
    go_enter Tryz.func39, Tryz.ntmps39
    go_wp2_with fail
    go_end0
    have he : D.setFuse n cuts flip = { D with fuse := none } := by unfold Dk.setFuse; rw [if_neg (by omega)]
    rw [he]
    exact ⟨rfl, H.out.2.1, H.out.2.2⟩

/-- A twin, and the disk it is one of; both beside one another. -/
theorem twin_any (h : DkAt F w db mb D) : Calls Tryz.prog 9 #[.pointer (some ⟨db, 0, none⟩)] w fun e w' => e = .returned (.pointer (some ⟨w.heap.size, 0, none⟩)) ∧
    DkAt (fun q => F q ∨ two w.heap.size (w.heap.size + 1) q) w' w.heap.size (w.heap.size + 1) D ∧ DkAt (fun q => F q ∨ two w.heap.size (w.heap.size + 1) q) w' db mb D ∧ Below w.heap.size w w' ∧ w'.heap.size = w.heap.size + 2 := by
  obtain ⟨c3, k3, z3⟩ := h.c3
  have c0 := h.c0
  have c1 := h.c1
  have c2 := h.c2
  have c4 := h.c4
  obtain ⟨o3, rfl⟩ : ∃ o, c3 = .pointer o := by
    revert z3
    cases D.fuse with
    | none => exact fun e => ⟨_, e⟩
    | some z => exact fun ⟨fb, v, e, _⟩ => ⟨_, e⟩
  obtain ⟨es, clock, e1, e2, e3⟩ := h.m
  have hltm := h.m.lt
  have kA : ∀ x, (w.alloc x).cell? ⟨db, 0, none⟩ = some (.map (some mb)) := fun x => (((Below.refl _ w).alloc (Nat.le_refl _) x).cell (p := ⟨db, 0, none⟩) h.ltd).trans c0
  have hM : ∀ x, (w.alloc x).heap[mb]? = some (.map es clock) := fun x => (Below.heap_alloc _ _ mb hltm).trans e1
  have H := Lib.hid (And.intro h (And.intro e2 (And.intro e3 z3)))
  clear h e1 e2 e3 hltm z3
  go_enter Tryz.func9, Tryz.ntmps9
  go_wp2_with (go_at_call 21; refine (AnyW.maps_Clone Tryz.gl_clone mb es clock _ (hM _)).mono ?_; rintro e w2 ⟨rfl, rfl⟩)
  go_ret
  have hb : Below w.heap.size w ((w.alloc (.cells #[.map (some (w.heap.size + 1)), .bool D.on, .int .i64 D.quota, .pointer o3, .int .i64 (D.acts : Int)] 65)).alloc (.map es clock)) := ((Below.refl _ _).alloc (Nat.le_refl _) _).alloc (by simp) _
  have hG : ∀ q, (F q ∨ two w.heap.size (w.heap.size + 1) q) → q < ((w.alloc (.cells #[.map (some (w.heap.size + 1)), .bool D.on, .int .i64 D.quota, .pointer o3, .int .i64 (D.acts : Int)] 65)).alloc (.map es clock)).heap.size := by
    rintro q (hq | rfl | rfl)
    · have := H.out.1.lt q hq; simp; omega
    · simp; omega
    · simp
  have hm : DkAt (fun q => F q ∨ two w.heap.size (w.heap.size + 1) q) ((w.alloc (.cells #[.map (some (w.heap.size + 1)), .bool D.on, .int .i64 D.quota, .pointer o3, .int .i64 (D.acts : Int)] 65)).alloc (.map es clock)) db mb D :=
    H.out.1.more (fun q hq => .inl hq) (fun q hq => hq.imp id (fun h => by rcases h with rfl | rfl <;> omega)) hG hb
  refine ⟨rfl, ⟨by simp [go_sem], by simp [go_sem], by simp [go_sem], ⟨.pointer o3, by simp [go_sem], ?_⟩, by simp [go_sem], ⟨es, clock, ?_, H.out.2.1, H.out.2.2.1⟩, fun j => by simp [go_sem], H.out.1.ok, by omega, .inr (.inl rfl), .inr (.inr rfl), hG⟩, hm, hb, by simp⟩
  · obtain ⟨p, hp, hz⟩ := hm.c3
    have e := (hb.cell (p := ⟨db, 3, none⟩) H.out.1.ltd).trans k3
    rw [e] at hp
    injection hp with hp
    subst hp
    exact hz
  · have := heap_alloc_new (w.alloc (.cells #[.map (some (w.heap.size + 1)), .bool D.on, .int .i64 D.quota, .pointer o3, .int .i64 (D.acts : Int)] 65)) (.map es clock)
    simpa using this
end Go.Proofs.YtceamkcaokdgaaaGreatDoor
/-
  Disk: of a disk without power, and of none.
-/
namespace Go.Proofs.YtceamkcaokdgaaaGreatDoor
open Go.RowKit
variable {F G : Nat → Prop} {w w' : World} {db mb : Nat} {D D' : Dk}

set_option maxRecDepth 100000 in
set_option maxHeartbeats 1000000 in
theorem create_off {o : Option Addr} (h : OnAt w o false) (s : ByteArray) (hs : s.size ≤ 140737488351232) :
    Calls Tryz.prog 15 #[.pointer o, .string s] w fun e w' => e = .returned (.int .i64 20) ∧ Below w.heap.size w w' := by
  have hmf : ∀ (fn : Fn) (first cap : Array Value) (w : World), (Instr.makeFunc fn first cap).run Tryz.prog w = .ok (.func fn first cap) w := fun _ _ _ _ => rfl
  obtain ⟨W1, hW1⟩ : ∃ W1, (w.alloc (.cells #[.pointer o] 43)).alloc (.cells #[.string s] 9) = W1 := ⟨_, rfl⟩
  have b1 : Below w.heap.size w W1 := by rw [← hW1]; exact ((Below.refl _ _).alloc (Nat.le_refl _) _).alloc (by simp) _
  have hdD : W1.cell? ⟨w.heap.size, 0, none⟩ = some (.pointer o) := by rw [← hW1]; simp [go_sem]
  have hd0 : W1.cell? ⟨w.heap.size + 1, 0, none⟩ = some (.string s) := by rw [← hW1]; simp [go_sem]
  have hA := asked_any ((h.below b1).below ((Below.refl _ _).alloc (Nat.le_refl _) (.cells #[.string s] 9))) (rdT_one (w := W1.alloc (.cells #[.string s] 9)) (b := W1.heap.size) (s := s) (by simp [go_sem]) 1) (by simp) (fun x hx => by rw [List.mem_singleton] at hx; subst hx; omega)
  have he : askE false [s] = 20 := rfl
  rw [he] at hA
  have HB := Lib.hid b1
  clear h b1 he
  go_enter Tryz.func15, Tryz.ntmps15
  go_wp2_with (go_at_call 103; refine hA.mono ?_; rintro e w2 ⟨rfl, hb2⟩; have H2 := Lib.hid (show Below w.heap.size w w2 from HB.out.trans ((((Below.refl _ _).alloc (Nat.le_refl _) _).trans (hb2.mono (by simp))).mono HB.out.size)); clear hb2)
  go_ret
  exact ⟨rfl, H2.out⟩

set_option maxRecDepth 100000 in
set_option maxHeartbeats 1000000 in
theorem sync_off {o : Option Addr} (h : OnAt w o false) (s : ByteArray) (hs : s.size ≤ 140737488351232) :
    Calls Tryz.prog 24 #[.pointer o, .string s] w fun e w' => e = .returned (.int .i64 20) ∧ Below w.heap.size w w' := by
  have hmf : ∀ (fn : Fn) (first cap : Array Value) (w : World), (Instr.makeFunc fn first cap).run Tryz.prog w = .ok (.func fn first cap) w := fun _ _ _ _ => rfl
  obtain ⟨W1, hW1⟩ : ∃ W1, (w.alloc (.cells #[.pointer o] 43)).alloc (.cells #[.string s] 9) = W1 := ⟨_, rfl⟩
  have b1 : Below w.heap.size w W1 := by rw [← hW1]; exact ((Below.refl _ _).alloc (Nat.le_refl _) _).alloc (by simp) _
  have hdD : W1.cell? ⟨w.heap.size, 0, none⟩ = some (.pointer o) := by rw [← hW1]; simp [go_sem]
  have hd0 : W1.cell? ⟨w.heap.size + 1, 0, none⟩ = some (.string s) := by rw [← hW1]; simp [go_sem]
  have hA := asked_any ((h.below b1).below ((Below.refl _ _).alloc (Nat.le_refl _) (.cells #[.string s] 9))) (rdT_one (w := W1.alloc (.cells #[.string s] 9)) (b := W1.heap.size) (s := s) (by simp [go_sem]) 1) (by simp) (fun x hx => by rw [List.mem_singleton] at hx; subst hx; omega)
  have he : askE false [s] = 20 := rfl
  rw [he] at hA
  have HB := Lib.hid b1
  clear h b1 he
  go_enter Tryz.func24, Tryz.ntmps24
  go_wp2_with (go_at_call 103; refine hA.mono ?_; rintro e w2 ⟨rfl, hb2⟩; have H2 := Lib.hid (show Below w.heap.size w w2 from HB.out.trans ((((Below.refl _ _).alloc (Nat.le_refl _) _).trans (hb2.mono (by simp))).mono HB.out.size)); clear hb2)
  go_ret
  exact ⟨rfl, H2.out⟩

set_option maxRecDepth 100000 in
set_option maxHeartbeats 1000000 in
theorem remove_off {o : Option Addr} (h : OnAt w o false) (s : ByteArray) (hs : s.size ≤ 140737488351232) :
    Calls Tryz.prog 28 #[.pointer o, .string s] w fun e w' => e = .returned (.int .i64 20) ∧ Below w.heap.size w w' := by
  have hmf : ∀ (fn : Fn) (first cap : Array Value) (w : World), (Instr.makeFunc fn first cap).run Tryz.prog w = .ok (.func fn first cap) w := fun _ _ _ _ => rfl
  obtain ⟨W1, hW1⟩ : ∃ W1, (w.alloc (.cells #[.pointer o] 43)).alloc (.cells #[.string s] 9) = W1 := ⟨_, rfl⟩
  have b1 : Below w.heap.size w W1 := by rw [← hW1]; exact ((Below.refl _ _).alloc (Nat.le_refl _) _).alloc (by simp) _
  have hdD : W1.cell? ⟨w.heap.size, 0, none⟩ = some (.pointer o) := by rw [← hW1]; simp [go_sem]
  have hd0 : W1.cell? ⟨w.heap.size + 1, 0, none⟩ = some (.string s) := by rw [← hW1]; simp [go_sem]
  have hA := asked_any ((h.below b1).below ((Below.refl _ _).alloc (Nat.le_refl _) (.cells #[.string s] 9))) (rdT_one (w := W1.alloc (.cells #[.string s] 9)) (b := W1.heap.size) (s := s) (by simp [go_sem]) 1) (by simp) (fun x hx => by rw [List.mem_singleton] at hx; subst hx; omega)
  have he : askE false [s] = 20 := rfl
  rw [he] at hA
  have HB := Lib.hid b1
  clear h b1 he
  go_enter Tryz.func28, Tryz.ntmps28
  go_wp2_with (go_at_call 103; refine hA.mono ?_; rintro e w2 ⟨rfl, hb2⟩; have H2 := Lib.hid (show Below w.heap.size w w2 from HB.out.trans ((((Below.refl _ _).alloc (Nat.le_refl _) _).trans (hb2.mono (by simp))).mono HB.out.size)); clear hb2)
  go_ret
  exact ⟨rfl, H2.out⟩

set_option maxRecDepth 100000 in
set_option maxHeartbeats 1000000 in
theorem rename_off {o : Option Addr} (h : OnAt w o false) (s : ByteArray) (t : ByteArray) (hs : s.size ≤ 140737488351232) (ht : t.size ≤ 140737488351232) :
    Calls Tryz.prog 26 #[.pointer o, .string s, .string t] w fun e w' => e = .returned (.int .i64 20) ∧ Below w.heap.size w w' := by
  have hmf : ∀ (fn : Fn) (first cap : Array Value) (w : World), (Instr.makeFunc fn first cap).run Tryz.prog w = .ok (.func fn first cap) w := fun _ _ _ _ => rfl
  obtain ⟨W1, hW1⟩ : ∃ W1, ((w.alloc (.cells #[.pointer o] 43)).alloc (.cells #[.string s] 9)).alloc (.cells #[.string t] 9) = W1 := ⟨_, rfl⟩
  have b1 : Below w.heap.size w W1 := by rw [← hW1]; exact (((Below.refl _ _).alloc (Nat.le_refl _) _).alloc (by simp) _).alloc (by simp; omega) _
  have hdD : W1.cell? ⟨w.heap.size, 0, none⟩ = some (.pointer o) := by rw [← hW1]; simp [go_sem]
  have hd0 : W1.cell? ⟨w.heap.size + 1, 0, none⟩ = some (.string s) := by rw [← hW1]; simp [go_sem]
  have hd1 : W1.cell? ⟨w.heap.size + 2, 0, none⟩ = some (.string t) := by rw [← hW1]; simp [go_sem]
  have hA := asked_any ((h.below b1).below ((Below.refl _ _).alloc (Nat.le_refl _) (.cells #[.string s, .string t] 9))) (rdT_two (w := W1.alloc (.cells #[.string s, .string t] 9)) (b := W1.heap.size) (s := s) (t := t) (by simp [go_sem]) (by simp [go_sem]) 2) (by simp) (fun x hx => by simp only [List.mem_cons, List.not_mem_nil, or_false] at hx; rcases hx with rfl | rfl <;> omega)
  have he : askE false [s, t] = 20 := rfl
  rw [he] at hA
  have HB := Lib.hid b1
  clear h b1 he
  go_enter Tryz.func26, Tryz.ntmps26
  go_wp2_with (go_at_call 103; refine hA.mono ?_; rintro e w2 ⟨rfl, hb2⟩; have H2 := Lib.hid (show Below w.heap.size w w2 from HB.out.trans ((((Below.refl _ _).alloc (Nat.le_refl _) _).trans (hb2.mono (by simp))).mono HB.out.size)); clear hb2)
  go_ret
  exact ⟨rfl, H2.out⟩

set_option maxRecDepth 100000 in
set_option maxHeartbeats 1000000 in
theorem append_off {o : Option Addr} (h : OnAt w o false) (s : ByteArray) (data : ByteArray) (hs : s.size ≤ 140737488351232) (hdata : data.size ≤ 140737488351232) :
    Calls Tryz.prog 14 #[.pointer o, .string s, .string data] w fun e w' => e = .returned (.int .i64 20) ∧ Below w.heap.size w w' := by
  have hmf : ∀ (fn : Fn) (first cap : Array Value) (w : World), (Instr.makeFunc fn first cap).run Tryz.prog w = .ok (.func fn first cap) w := fun _ _ _ _ => rfl
  obtain ⟨W1, hW1⟩ : ∃ W1, ((w.alloc (.cells #[.pointer o] 43)).alloc (.cells #[.string s] 9)).alloc (.cells #[.string data] 9) = W1 := ⟨_, rfl⟩
  have b1 : Below w.heap.size w W1 := by rw [← hW1]; exact (((Below.refl _ _).alloc (Nat.le_refl _) _).alloc (by simp) _).alloc (by simp; omega) _
  have hdD : W1.cell? ⟨w.heap.size, 0, none⟩ = some (.pointer o) := by rw [← hW1]; simp [go_sem]
  have hd0 : W1.cell? ⟨w.heap.size + 1, 0, none⟩ = some (.string s) := by rw [← hW1]; simp [go_sem]
  have hd1 : W1.cell? ⟨w.heap.size + 2, 0, none⟩ = some (.string data) := by rw [← hW1]; simp [go_sem]
  have hA := asked_any ((h.below b1).below ((Below.refl _ _).alloc (Nat.le_refl _) (.cells #[.string s] 9))) (rdT_one (w := W1.alloc (.cells #[.string s] 9)) (b := W1.heap.size) (s := s) (by simp [go_sem]) 1) (by simp) (fun x hx => by rw [List.mem_singleton] at hx; subst hx; omega)
  have he : askE false [s] = 20 := rfl
  rw [he] at hA
  have HB := Lib.hid b1
  clear h b1 he
  go_enter Tryz.func14, Tryz.ntmps14
  go_wp2_with (go_at_call 103; refine hA.mono ?_; rintro e w2 ⟨rfl, hb2⟩; have H2 := Lib.hid (show Below w.heap.size w w2 from HB.out.trans ((((Below.refl _ _).alloc (Nat.le_refl _) _).trans (hb2.mono (by simp))).mono HB.out.size)); clear hb2)
  go_ret
  exact ⟨rfl, H2.out⟩

set_option maxRecDepth 100000 in
set_option maxHeartbeats 1000000 in
theorem read_off {o : Option Addr} (h : OnAt w o false) (s : ByteArray) (hs : s.size ≤ 140737488351232) :
    Calls Tryz.prog 16 #[.pointer o, .string s] w fun e w' => e = .returned (.tuple #[.string ByteArray.empty, .int .i64 20]) ∧ Below w.heap.size w w' := by
  have hmf : ∀ (fn : Fn) (first cap : Array Value) (w : World), (Instr.makeFunc fn first cap).run Tryz.prog w = .ok (.func fn first cap) w := fun _ _ _ _ => rfl
  have b1 := Below.refl w.heap.size w
  have hA := asked_any ((h.below b1).below ((Below.refl _ _).alloc (Nat.le_refl _) (.cells #[.string s] 9))) (rdT_one (w := w.alloc (.cells #[.string s] 9)) (b := w.heap.size) (s := s) (by simp [go_sem]) 1) (by simp) (fun x hx => by rw [List.mem_singleton] at hx; subst hx; omega)
  have he : askE false [s] = 20 := rfl
  rw [he] at hA
  have HB := Lib.hid b1
  clear h b1 he
  go_enter Tryz.func16, Tryz.ntmps16
  go_wp2_with (go_at_call 103; refine hA.mono ?_; rintro e w2 ⟨rfl, hb2⟩; have H2 := Lib.hid (show Below w.heap.size w w2 from HB.out.trans ((((Below.refl _ _).alloc (Nat.le_refl _) _).trans (hb2.mono (by simp))).mono HB.out.size)); clear hb2)
  go_ret2
  exact ⟨rfl, H2.out⟩

theorem crash_off {o : Option Addr} (h : OnAt w o false) (v : Value) (flip : Int) : Calls Tryz.prog 34 #[.pointer o, v, .int .i64 flip] w fun e w' => e = .returned (.tuple #[]) ∧ w' = w := by
  have hO := on_at h
  clear h
  go_enter Tryz.func34, Tryz.ntmps34
  go_wp2_with (go_at_call 20; refine hO.mono ?_; rintro e w2 ⟨rfl, rfl⟩)
  (try simp only [Exit.inBlock, Exit.then]); exact bodyPost_ret (results_none rfl _ _ _) rfl ⟨rfl, rfl⟩
theorem list_off {o : Option Addr} (h : OnAt w o false) (s : ByteArray) : Calls Tryz.prog 17 #[.pointer o, .string s] w fun e w' => e = .returned (.slice none 0 0) ∧ Below w.heap.size w w' := by
  have hO := on_at (h.below ((Below.refl _ _).alloc (Nat.le_refl _) (.cells #[.string s] 9)))
  clear h
  go_enter Tryz.func17, Tryz.ntmps17
  go_wp2_with (go_at_call 20; refine hO.mono ?_; rintro e w2 ⟨rfl, rfl⟩)
  go_ret
  exact ⟨rfl, (Below.refl _ _).alloc (Nat.le_refl _) _⟩
theorem restore_nil (w : World) : Calls Tryz.prog 36 #[.pointer none] w fun e w' => e = .returned (.tuple #[]) ∧ w' = w := by
  go_enter Tryz.func36, Tryz.ntmps36
  go_wp2
  go_end0
  exact ⟨rfl, rfl⟩
theorem quota_nil (w : World) (n : Int) : Calls Tryz.prog 37 #[.pointer none, .int .i64 n] w fun e w' => e = .returned (.tuple #[]) ∧ w' = w := by
  go_enter Tryz.func37, Tryz.ntmps37
  go_wp2
  go_end0
  exact ⟨rfl, rfl⟩
theorem fuse_nil (w : World) (n : Int) (v : Value) (flip : Int) : Calls Tryz.prog 39 #[.pointer none, .int .i64 n, v, .int .i64 flip] w fun e w' => e = .returned (.tuple #[]) ∧ w' = w := by
  go_enter Tryz.func39, Tryz.ntmps39
  go_wp2
  (try simp only [Exit.inBlock, Exit.then]); exact bodyPost_ret (results_none rfl _ _ _) rfl ⟨rfl, rfl⟩
theorem acts_nil (w : World) : Calls Tryz.prog 18 #[.pointer none] w fun e w' => e = .returned (.int .i64 0) ∧ w' = w := by
  go_enter Tryz.func18, Tryz.ntmps18
  go_wp2
  go_ret
  exact ⟨rfl, rfl⟩
theorem used_nil (w : World) : Calls Tryz.prog 19 #[.pointer none] w fun e w' => e = .returned (.int .i64 0) ∧ w' = w := by
  go_enter Tryz.func19, Tryz.ntmps19
  go_wp2
  go_ret
  exact ⟨rfl, rfl⟩
theorem twin_nil (w : World) : Calls Tryz.prog 9 #[.pointer none] w fun e w' => e = .returned (.pointer none) ∧ w' = w := by
  go_enter Tryz.func9, Tryz.ntmps9
  go_wp2
  go_ret
  exact ⟨rfl, rfl⟩
theorem acts_at {b : Nat} {n : Int} (h : w.cell? ⟨b, 4, none⟩ = some (.int .i64 n)) : Calls Tryz.prog 18 #[.pointer (some ⟨b, 0, none⟩)] w fun e w' => e = .returned (.int .i64 n) ∧ w' = w := by
  go_enter Tryz.func18, Tryz.ntmps18
  go_wp2
  go_ret
  exact ⟨rfl, rfl⟩
end Go.Proofs.YtceamkcaokdgaaaGreatDoor
/-
  Disk: the calls at a disk with power and no fuse, what they make said outright.
-/
namespace Go.Proofs.YtceamkcaokdgaaaGreatDoor
open Go.RowKit
variable {F G : Nat → Prop} {w w' : World} {db mb : Nat} {D D' : Dk} {m m' : Fm} {q : Int} {k : Nat} {s t : ByteArray} {fd : ByteArray} {fs : Nat} {data : ByteArray}

/-- A disk with power and no fuse. -/
abbrev dkL (m : Fm) (q : Int) (k : Nat) : Dk := ⟨m, true, q, none, k⟩
theorem ask1 (hs : nmB s = true) : (dkL m q k).asked [s] = 0 := by simp [Dk.asked, hs]
theorem ask2 (hs : nmB s = true) (ht : nmB t = true) : (dkL m q k).asked [s, t] = 0 := by simp [Dk.asked, hs, ht]
theorem sz_nm (hs : nmB s = true) : s.size ≤ 140737488351232 := by have := nm_le hs; omega

theorem c_create (h : DkAt F w db mb (dkL m q k)) (hs : nmB s = true) (hk : k < 1000000) (hl : m.length < 20000) (hg : getL m s = none) (hm : setL m s ⟨ByteArray.empty, 0⟩ = m') :
    Calls Tryz.prog 15 #[.pointer (some ⟨db, 0, none⟩), .string s] w fun e w' => e = .returned (.int .i64 0) ∧ DkAt F w' db mb (dkL m' q (k + 1)) ∧ Tn (two db mb) w w' := by
  have he : (dkL m q k).create s = (0, dkL m' q (k + 1)) := by
    unfold Dk.create
    rw [ask1 hs, if_neg (by decide), hg]
    show (if 20000 ≤ m.length then _ else _) = _
    rw [if_neg (by omega)]
    show (0, dkL (setL m s ⟨ByteArray.empty, 0⟩) q (k + 1)) = _
    rw [hm]
  refine (create_any h rfl hk s (sz_nm hs)).mono ?_
  rw [he]
  exact fun e w' h => h
theorem c_append (h : DkAt F w db mb (dkL m q k)) (hs : nmB s = true) (hk : k < 1000000) (hd : data.size ≤ 140737488351232) (hg : getL m s = some ⟨fd, fs⟩) (hf : fd.size + data.size ≤ 1048576) (hq : q < 0 ∨ data.size = 0 ∨ (used m : Int) + data.size ≤ q) (hm : setL m s ⟨fd ++ data, fs⟩ = m') :
    Calls Tryz.prog 14 #[.pointer (some ⟨db, 0, none⟩), .string s, .string data] w fun e w' => e = .returned (.int .i64 0) ∧ DkAt F w' db mb (dkL m' q (k + 1)) ∧ Tn (two db mb) w w' := by
  have he : (dkL m q k).app s data = (0, dkL m' q (k + 1)) := by
    unfold Dk.app
    rw [ask1 hs, if_neg (by decide)]
    show (match getL m s with | none => _ | some f => _) = _
    rw [hg]
    show (if 1048576 < fd.size + data.size then _ else if 0 ≤ q ∧ data.size ≠ 0 ∧ q < (used m : Int) + data.size then _ else _) = _
    rw [if_neg (by omega), if_neg (by omega)]
    show (0, dkL (setL m s ⟨fd ++ data, fs⟩) q (k + 1)) = _
    rw [hm]
  refine (append_any h rfl hk s data (sz_nm hs) hd).mono ?_
  rw [he]
  exact fun e w' h => h
theorem c_append_full (h : DkAt F w db mb (dkL m q k)) (hs : nmB s = true) (hk : k < 1000000) (hd : data.size ≤ 140737488351232) (hg : getL m s = some ⟨fd, fs⟩) (hf : fd.size + data.size ≤ 1048576) (hq : 0 ≤ q ∧ data.size ≠ 0 ∧ q < (used m : Int) + data.size) :
    Calls Tryz.prog 14 #[.pointer (some ⟨db, 0, none⟩), .string s, .string data] w fun e w' => e = .returned (.int .i64 24) ∧ DkAt F w' db mb (dkL m q k) ∧ Tn (two db mb) w w' := by
  have he : (dkL m q k).app s data = (24, dkL m q k) := by
    unfold Dk.app
    rw [ask1 hs, if_neg (by decide)]
    show (match getL m s with | none => _ | some f => _) = _
    rw [hg]
    show (if 1048576 < fd.size + data.size then _ else if 0 ≤ q ∧ data.size ≠ 0 ∧ q < (used m : Int) + data.size then _ else _) = _
    rw [if_neg (by omega), if_pos hq]
  refine (append_any h rfl hk s data (sz_nm hs) hd).mono ?_
  rw [he]
  exact fun e w' h => h
theorem c_append_none (h : DkAt F w db mb (dkL m q k)) (hs : nmB s = true) (hk : k < 1000000) (hd : data.size ≤ 140737488351232) (hg : getL m s = none) :
    Calls Tryz.prog 14 #[.pointer (some ⟨db, 0, none⟩), .string s, .string data] w fun e w' => e = .returned (.int .i64 22) ∧ DkAt F w' db mb (dkL m q k) ∧ Tn (two db mb) w w' := by
  have he : (dkL m q k).app s data = (22, dkL m q k) := by
    unfold Dk.app
    rw [ask1 hs, if_neg (by decide)]
    show (match getL m s with | none => _ | some f => _) = _
    rw [hg]
  refine (append_any h rfl hk s data (sz_nm hs) hd).mono ?_
  rw [he]
  exact fun e w' h => h
theorem c_sync (h : DkAt F w db mb (dkL m q k)) (hs : nmB s = true) (hk : k < 1000000) (hg : getL m s = some ⟨fd, fs⟩) (hm : setL m s ⟨fd, fd.size⟩ = m') :
    Calls Tryz.prog 24 #[.pointer (some ⟨db, 0, none⟩), .string s] w fun e w' => e = .returned (.int .i64 0) ∧ DkAt F w' db mb (dkL m' q (k + 1)) ∧ Tn (two db mb) w w' := by
  have he : (dkL m q k).sync s = (0, dkL m' q (k + 1)) := by
    unfold Dk.sync
    rw [ask1 hs, if_neg (by decide)]
    show (match getL m s with | none => _ | some f => _) = _
    rw [hg]
    show (0, dkL (setL m s ⟨fd, fd.size⟩) q (k + 1)) = _
    rw [hm]
  refine (sync_any h rfl hk s (sz_nm hs)).mono ?_
  rw [he]
  exact fun e w' h => h
theorem c_remove (h : DkAt F w db mb (dkL m q k)) (hs : nmB s = true) (hk : k < 1000000) (hg : (getL m s).isSome = true) (hm : delL m s = m') :
    Calls Tryz.prog 28 #[.pointer (some ⟨db, 0, none⟩), .string s] w fun e w' => e = .returned (.int .i64 0) ∧ DkAt F w' db mb (dkL m' q (k + 1)) ∧ Tn (two db mb) w w' := by
  have he : (dkL m q k).remove s = (0, dkL m' q (k + 1)) := by
    obtain ⟨f, hf⟩ := Option.isSome_iff_exists.1 hg
    unfold Dk.remove
    rw [ask1 hs, if_neg (by decide)]
    show (match getL m s with | none => _ | some f => _) = _
    rw [hf]
    show (0, dkL (delL m s) q (k + 1)) = _
    rw [hm]
  refine (remove_any h rfl hk s (sz_nm hs)).mono ?_
  rw [he]
  exact fun e w' h => h
theorem c_rename (h : DkAt F w db mb (dkL m q k)) (hs : nmB s = true) (ht : nmB t = true) (hk : k < 1000000) {f : Fl} (hg : getL m s = some f) (hm : setL (delL m s) t f = m') :
    Calls Tryz.prog 26 #[.pointer (some ⟨db, 0, none⟩), .string s, .string t] w fun e w' => e = .returned (.int .i64 0) ∧ DkAt F w' db mb (dkL m' q (k + 1)) ∧ Tn (two db mb) w w' := by
  have he : (dkL m q k).rename s t = (0, dkL m' q (k + 1)) := by
    unfold Dk.rename
    rw [ask2 hs ht, if_neg (by decide)]
    show (match getL m s with | none => _ | some f => _) = _
    rw [hg]
    show (0, dkL (setL (delL m s) t f) q (k + 1)) = _
    rw [hm]
  refine (rename_any h rfl hk s t (sz_nm hs) (sz_nm ht)).mono ?_
  rw [he]
  exact fun e w' h => h
theorem c_rename_none (h : DkAt F w db mb (dkL m q k)) (hs : nmB s = true) (ht : nmB t = true) (hk : k < 1000000) (hg : getL m s = none) :
    Calls Tryz.prog 26 #[.pointer (some ⟨db, 0, none⟩), .string s, .string t] w fun e w' => e = .returned (.int .i64 22) ∧ DkAt F w' db mb (dkL m q k) ∧ Tn (two db mb) w w' := by
  have he : (dkL m q k).rename s t = (22, dkL m q k) := by
    unfold Dk.rename
    rw [ask2 hs ht, if_neg (by decide)]
    show (match getL m s with | none => _ | some f => _) = _
    rw [hg]
  refine (rename_any h rfl hk s t (sz_nm hs) (sz_nm ht)).mono ?_
  rw [he]
  exact fun e w' h => h
theorem c_read (h : DkAt F w db mb D) (hon : D.on = true) (hs : nmB s = true) (hg : getL D.m s = some ⟨fd, fs⟩) :
    Calls Tryz.prog 16 #[.pointer (some ⟨db, 0, none⟩), .string s] w fun e w' => e = .returned (.tuple #[.string fd, .int .i64 0]) ∧ Below w.heap.size w w' := by
  have he : D.read s = (fd, 0) := by
    unfold Dk.read
    have : D.asked [s] = 0 := by simp [Dk.asked, hs, hon]
    rw [this, if_neg (by decide), hg]
  refine (read_any h hon s (sz_nm hs)).mono ?_
  rw [he]
  exact fun e w' h => h
theorem c_crash (h : DkAt F w db mb (dkL m q k)) {v : Value} {cuts : List Int} (hr : RdC F w v cuts) (hcl : cuts.length ≤ 1000000) (flip : Int) (hm : crashL cuts flip (sortB (m.map (·.1))) 0 m = m') :
    Calls Tryz.prog 34 #[.pointer (some ⟨db, 0, none⟩), v, .int .i64 flip] w fun e w' => e = .returned (.tuple #[]) ∧ DkAt F w' db mb ⟨m', false, q, none, k⟩ ∧ Tn (two db mb) w w' := by
  refine (crash_any h rfl hr hcl flip).mono ?_
  have he : (dkL m q k).crash cuts flip = ⟨m', false, q, none, k⟩ := by
    show (⟨crashL cuts flip (sortB (m.map (·.1))) 0 m, false, q, none, k⟩ : Dk) = _
    rw [hm]
  rw [he]
  exact fun e w' h => h
theorem c_restore {z : Option Fz} {b : Bool} (h : DkAt F w db mb ⟨m, b, q, z, k⟩) : Calls Tryz.prog 36 #[.pointer (some ⟨db, 0, none⟩)] w fun e w' => e = .returned (.tuple #[]) ∧ DkAt F w' db mb ⟨m, true, q, z, k⟩ ∧ Tn (two db mb) w w' := restore_any h
theorem c_quota (h : DkAt F w db mb (dkL m q k)) (n : Int) (hn : -1 ≤ n ∧ n ≤ 9223372036854775807) : Calls Tryz.prog 37 #[.pointer (some ⟨db, 0, none⟩), .int .i64 n] w fun e w' => e = .returned (.tuple #[]) ∧ DkAt F w' db mb (dkL m n k) ∧ Tn (two db mb) w w' := by
  refine (quota_any h n hn.2).mono ?_
  have he : (dkL m q k).setQuota n = dkL m n k := by
    show dkL m (max n (-1)) k = _
    rw [show max n (-1) = n from by omega]
  rw [he]
  exact fun e w' h => h
theorem offAt (h : DkAt F w db mb D) (hoff : D.on = false) : OnAt w (some ⟨db, 0, none⟩) false := .inr ⟨db, rfl, by have := h.c1; rw [hoff] at this; exact this⟩
/-- What a crash finds synced it leaves. -/
theorem cutF_syn (s : ByteArray) (cut flip : Int) : cutF ⟨s, s.size⟩ cut flip = ⟨s, s.size⟩ := by
  have h0 : keep ⟨s, s.size⟩ cut = 0 := by unfold keep; simp
  have hk : kept ⟨s, s.size⟩ cut flip = s.data.toList := by
    unfold kept
    rw [h0]
    simp
    exact List.take_of_length_le (by simp)
  unfold cutF
  rw [hk]
  simp

/-- The letters. -/
abbrev nA : ByteArray := ⟨#[97]⟩
abbrev nB : ByteArray := ⟨#[98]⟩
abbrev nC : ByteArray := ⟨#[99]⟩
abbrev nF : ByteArray := ⟨#[102]⟩
abbrev nG : ByteArray := ⟨#[103]⟩
example (x y z : Fl) : setL [(nA, x), (nB, y)] nB z = [(nA, x), (nB, z)] := rfl
example (x : Fl) : getL [(nA, x)] nB = none := rfl
example (x y : Fl) : getL [(nA, x), (nB, y)] nB = some y := rfl
example : nmB nA = true := rfl
example (x : Fl) : crashL [1] 2 (sortB ([(nF, x)].map (·.1))) 0 [(nF, x)] = [(nF, cutF x 1 2)] := rfl
example (x y : Fl) (c : List Int) : crashL c 2 (sortB ([(nF, x), (nG, y)].map (·.1))) 0 [(nF, x), (nG, y)] = [(nF, cutF x (cutAt c 0) 2), (nG, cutF y (cutAt c 1) 2)] := rfl
end Go.Proofs.YtceamkcaokdgaaaGreatDoor
/-
  Disk: the laws' first call.
-/
namespace Go.Proofs.YtceamkcaokdgaaaGreatDoor
open Go.RowKit
variable {F G : Nat → Prop} {w w' : World} {db mb : Nat} {D D' : Dk} {m m' : Fm} {q : Int} {k : Nat} {s t : ByteArray}

/-- A disk that was made behind the world w0. -/
structure DkB (F : Nat → Prop) (B : Nat) (w0 w : World) (db mb : Nat) (D : Dk) : Prop where
  d : DkAt F w db mb D
  b : Below B w0 w
  hd : B ≤ db
  hm : B ≤ mb
  hz : B ≤ w.heap.size
variable {B : Nat} {w0 : World}
theorem DkB.go (h : DkB F B w0 w db mb D) (h2 : DkAt F w' db mb D') (t : Tn (two db mb) w w') : DkB F B w0 w' db mb D' :=
  ⟨h2, h.b.trans (t.below h.hz (fun k hk => by have := h.hd; have := h.hm; rcases hk with rfl | rfl <;> omega)), h.hd, h.hm, Nat.le_trans h.hz t.size⟩
theorem DkB.stay (h : DkB F B w0 w db mb D) (t : Below w.heap.size w w') : DkB F B w0 w' db mb D :=
  ⟨h.d.below t, h.b.trans (t.mono h.hz), h.hd, h.hm, Nat.le_trans h.hz t.size⟩
theorem c_new (h : Below w0.heap.size w0 w) : Calls Tryz.prog 7 #[] w fun e w' => e = .returned (.pointer (some ⟨w.heap.size + 1, 0, none⟩)) ∧ DkB (two (w.heap.size + 1) w.heap.size) w0.heap.size w0 w' (w.heap.size + 1) w.heap.size (dkL [] (-1) 0) := by
  refine (new_any w).mono ?_
  rintro e w' ⟨he, h1, h2, h3⟩
  have := h.size
  exact ⟨he, h1, h.trans (h2.mono h.size), by omega, h.size, by omega⟩
theorem c_used (h : DkAt F w db mb D) {n : Int} (hn : (used D.m : Int) = n) : Calls Tryz.prog 19 #[.pointer (some ⟨db, 0, none⟩)] w fun e w' => e = .returned (.int .i64 n) ∧ Below w.heap.size w w' := by
  rw [← hn]; exact used_any h
theorem c_acts (h : DkAt F w db mb D) {n : Int} (hn : (D.acts : Int) = n) : Calls Tryz.prog 18 #[.pointer (some ⟨db, 0, none⟩)] w fun e w' => e = .returned (.int .i64 n) ∧ w' = w := by
  rw [← hn]; exact acts_any h
theorem c_list (h : DkAt F w db mb D) (hon : D.on = true) (p : ByteArray) {n : Nat} (hn : (D.list p).length = n) : Calls Tryz.prog 17 #[.pointer (some ⟨db, 0, none⟩), .string p] w fun e w' => ∃ a c, e = .returned (.slice a n c) ∧ Below w.heap.size w w' := by
  refine (list_any h hon p).mono ?_
  rintro e w' ⟨⟨v, rfl, ho⟩, hb⟩
  obtain ⟨a, c, rfl, _⟩ := row_form ho
  rw [hn]
  exact ⟨a, c, rfl, hb⟩

abbrev tX : ByteArray := ⟨#[120]⟩
abbrev tXY : ByteArray := ⟨#[120, 121]⟩
theorem al_list : ((dkL [(nA, (⟨tXY, 0⟩ : Fl))] (-1) 2).list ByteArray.empty).length = 1 := by kernel_rfl
theorem al_set : setL [(nA, (⟨ByteArray.empty, 0⟩ : Fl))] nA ⟨ByteArray.empty ++ tXY, 0⟩ = [(nA, (⟨tXY, 0⟩ : Fl))] := by kernel_rfl
set_option maxRecDepth 100000 in
set_option maxHeartbeats 2000000 in
theorem alive_any (w : World) : Calls Tryz.prog 6 #[] w fun e w' => e = .returned (.bool true) ∧ Below w.heap.size w w' := by
  go_enter Tryz.func6, Tryz.ntmps6
  go_wp2_with (first
    | (go_at_call 20; refine (on_any H7.out.d.c1).mono ?_; rintro e w8 ⟨rfl, rfl⟩)
    | (go_at_call 19; refine (c_used H6.out.d (n := 2) rfl).mono ?_; rintro e w7 ⟨rfl, b2⟩; have H7 := Lib.hid (H6.out.stay b2); clear b2)
    | (go_at_call 18; refine (c_acts H6.out.d (n := 2) rfl).mono ?_; rintro e w7 ⟨rfl, rfl⟩)
    | (go_at_call 17; refine (c_list H5.out.d rfl ByteArray.empty (n := 1) al_list).mono ?_; rintro e w6 ⟨a6, n6, rfl, b2⟩; have H6 := Lib.hid (H5.out.stay b2); clear b2)
    | (go_at_call 16; refine (c_read H4.out.d rfl (s := nA) rfl rfl).mono ?_; rintro e w5 ⟨rfl, b2⟩; have H5 := Lib.hid (H4.out.stay b2); clear b2)
    | (go_at_call 14; refine (c_append H3.out.d (s := nA) (data := tXY) rfl (by decide) (by decide) rfl (by decide) (by decide) al_set).mono ?_; rintro e w4 ⟨rfl, h2, t2⟩; have H4 := Lib.hid (H3.out.go h2 t2); clear h2 t2)
    | (go_at_call 15; refine (c_create H2.out.d (s := nA) rfl (by decide) (by decide) rfl rfl).mono ?_; rintro e w3 ⟨rfl, h2, t2⟩; have H3 := Lib.hid (H2.out.go h2 t2); clear h2 t2)
    | (go_at_call 14; refine (c_append_none H1.out.d (s := nA) (data := tX) rfl (by decide) (by decide) rfl).mono ?_; rintro e w2 ⟨rfl, h2, t2⟩; have H2 := Lib.hid (H1.out.go h2 t2); clear h2 t2)
    | (go_at_call 7; refine (c_new (w0 := w) (Below.refl _ _)).mono ?_; rintro e w1 ⟨rfl, h1⟩; have H1 := Lib.hid h1; clear h1))
  go_ret
  exact ⟨rfl, H7.out.b⟩
end Go.Proofs.YtceamkcaokdgaaaGreatDoor
