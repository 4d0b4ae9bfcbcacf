/-
  Disk: what acts do to the files: Append, Sync, Rename, Remove.
-/
import Derived.Test.YtjhajlfkiafhgaaDoorDkK
namespace Go.Proofs.YtjhajlfkiafhgaaDoor
open Go.RowKit
variable {F G : Nat → Prop} {w w' : World} {db mb : Nat} {D D' : Dk}

theorem set_ok (h : D.Ok) {s : ByteArray} {f : Fl} (hg : (getL D.m s).isSome = true) (hs : s.size ≤ 64) (hf : f.syn ≤ f.data.size ∧ f.data.size ≤ 1048576) : ({ D with m := setL D.m s f } : Dk).Ok :=
  h.set hs hf (Nat.le_trans (Nat.le_of_eq (setL_length.2 hg)) h.few)
/-- Fewer blocks are spoken of. -/
theorem DkAt.less (h : DkAt G w db mb D) (hF : ∀ q, F q → G q) (hd : F db) (hm : F mb) : DkAt F w db mb D := by
  obtain ⟨p, hp, hz⟩ := h.c3
  refine ⟨h.c0, h.c1, h.c2, ⟨p, hp, ?_⟩, h.c4, h.m, h.fz, h.ok, h.ne, hd, hm, fun q hq => h.lt q (hF q hq)⟩
  cases hzz : D.fuse with
  | none => rw [hzz] at hz; exact hz
  | some z =>
    rw [hzz] at hz
    obtain ⟨fb, v, e, hf, hlt, c0, c1, c2, a, c, hx, hr⟩ := hz
    refine ⟨fb, v, e, fun hg => hf (hF _ hg), hlt, c0, c1, c2, a, c, hx, hr.imp id ?_⟩
    rintro ⟨b, off, ha, hbf, hbl, hc⟩
    exact ⟨b, off, ha, fun hg => hbf (hF _ hg), hbl, hc⟩

set_option maxRecDepth 100000 in
set_option maxHeartbeats 1000000 in
theorem append1_does {bF bA bD bN : Nat} {s : ByteArray} {fd : ByteArray} {fs : Nat} {data : ByteArray} (hD : w.cell? ⟨bD, 0, none⟩ = some (.pointer (some ⟨db, 0, none⟩))) (hN : w.cell? ⟨bN, 0, none⟩ = some (.string s))
    (hF0 : w.cell? ⟨bF, 0, none⟩ = some (.string fd)) (hF1 : w.cell? ⟨bF, 1, none⟩ = some (.int .i64 (fs : Int))) (hFz : ∀ j, w.frozen? ⟨bF, j, none⟩ = false) (hA : w.cell? ⟨bA, 0, none⟩ = some (.string data))
    (nD : ¬ two db mb bD) (nN : ¬ two db mb bN) (nF : ¬ two db mb bF) (nA : ¬ two db mb bA) (d1 : bD ≠ bF) (d2 : bN ≠ bF) (hnF : F bF) (hs : s.size ≤ 64) (hg : (getL D.m s).isSome = true) (hfok : fs ≤ (fd ++ data).size ∧ (fd ++ data).size ≤ 1048576) :
    Does F (fun q => q = bF) 32 #[.pointer (some ⟨bF, 0, none⟩), .pointer (some ⟨bA, 0, none⟩), .pointer (some ⟨bD, 0, none⟩), .pointer (some ⟨bN, 0, none⟩)] w db mb D (fun m => setL m s ⟨fd ++ data, fs⟩) := by
  intro w1 D1 h1 ht1 hm1
  have k1 := ht1.cell hD nD
  have k2 := ht1.cell hN nN
  have k3 := h1.c0
  have k4 := ht1.cell hF0 nF
  have k5 := ht1.cell hF1 nF
  have k6 := (ht1.frozen (p := ⟨bF, 0, none⟩) (World.block_lt_of_cell? _ _ hF0) nF).trans (hFz 0)
  have k7 := (ht1.frozen (p := ⟨bF, 1, none⟩) (World.block_lt_of_cell? _ _ hF1) nF).trans (hFz 1)
  have k8 := ht1.cell hA nA
  have d4 : db ≠ bF := fun e => nF (.inl e.symm)
  have d5 : mb ≠ bF := fun e => nF (.inr e.symm)
  have hsum : fd.size + data.size ≤ 1048576 := by have := hfok.2; rw [ByteArray.size_append] at this; exact this
  have H := Lib.hid (And.intro h1 (And.intro hm1 (And.intro hs (And.intro hg (And.intro hnF hfok)))))
  clear hD hN hF0 hF1 hFz hA ht1 h1 hm1 hs hg nD nN nF nA hnF hfok
  go_enter Tryd.func32, Tryd.ntmps32
  go_wp2_with fail
  obtain ⟨w2, hw2⟩ : ∃ w2, w1.setCell ⟨bF, 0, none⟩ (.string (fd ++ data)) = w2 := ⟨_, rfl⟩
  rw [hw2]
  have ht2 : Tn (fun q => q = bF) w1 w2 := by rw [← hw2]; exact Tn.setCell _ _ _ rfl
  have e4 : w2.cell? ⟨bF, 0, none⟩ = some (.string (fd ++ data)) := by rw [← hw2]; exact World.cell?_setCell_same _ _ _ k4
  have e5 : w2.cell? ⟨bF, 1, none⟩ = some (.int .i64 (fs : Int)) := by rw [← hw2]; exact cell_set k5 (by omega)
  have e1 := ht2.cell k1 d1
  have e2 := ht2.cell k2 d2
  have e3 := ht2.cell k3 d4
  clear hw2 k1 k2 k3 k4 k5 k6 k7 k8
  have kd1 : w2.drew.cell? ⟨bD, 0, none⟩ = some (.pointer (some ⟨db, 0, none⟩)) := e1
  have kd2 : w2.drew.cell? ⟨bN, 0, none⟩ = some (.string s) := e2
  have kd3 : w2.drew.cell? ⟨db, 0, none⟩ = some (.map (some mb)) := e3
  have kd4 : w2.drew.cell? ⟨bF, 0, none⟩ = some (.string (fd ++ data)) := e4
  have kd5 : w2.drew.cell? ⟨bF, 1, none⟩ = some (.int .i64 (fs : Int)) := e5
  refine wp_region_K (fun w' => w'.cell? ⟨bD, 0, none⟩ = some (.pointer (some ⟨db, 0, none⟩)) ∧ w'.cell? ⟨bN, 0, none⟩ = some (.string s) ∧ w'.cell? ⟨db, 0, none⟩ = some (.map (some mb)) ∧ w'.cell? ⟨bF, 0, none⟩ = some (.string (fd ++ data)) ∧ w'.cell? ⟨bF, 1, none⟩ = some (.int .i64 (fs : Int))) 6 7 (by kernel_rfl) (by kernel_rfl) ⟨kd1, kd2, kd3, kd4, kd5⟩ (fun hH => ?_)
  refine wpAnyK_take (i := 0) [6] (v := ?v1) rfl (by kernel_rfl) (by kernel_rfl) (by kernel_rfl) (by kernel_rfl) (fun _ _ _ h => h) (Or.inl ⟨by rfl, ?hy1⟩) hH ?rest1
  case hy1 => (intro w hSw; (try dsimp only at hSw); go_simp; with_reducible rfl)
  try simp only [Act.put, List.setIfInBounds_toArray, List.set_cons_zero, List.set_cons_succ]
  refine wpAnyK_take (i := 1) [6] (v := ?v2) rfl (by kernel_rfl) (by kernel_rfl) (by kernel_rfl) (by kernel_rfl) (fun _ _ _ h => h) (Or.inl ⟨by rfl, ?hy2⟩) hH ?rest2
  case hy2 => (intro w hSw; (try dsimp only at hSw); go_simp; with_reducible rfl)
  try simp only [Act.put, List.setIfInBounds_toArray, List.set_cons_zero, List.set_cons_succ]
  refine wpAnyK_take (i := 2) [6] (v := ?v3) rfl (by kernel_rfl) (by kernel_rfl) (by kernel_rfl) (by kernel_rfl) (fun _ _ _ h => h) (Or.inl ⟨by rfl, ?hy3⟩) hH ?rest3
  case hy3 => (intro w hSw; (try dsimp only at hSw); go_simp; with_reducible rfl)
  try simp only [Act.put, List.setIfInBounds_toArray, List.set_cons_zero, List.set_cons_succ]
  refine wpAnyK_take (i := 3) [6] (v := ?v4) rfl (by kernel_rfl) (by kernel_rfl) (by kernel_rfl) (by kernel_rfl) (fun _ _ _ h => h) (Or.inl ⟨by rfl, ?hy4⟩) hH ?rest4
  case hy4 => (intro w hSw; (try dsimp only at hSw); go_simp; with_reducible rfl)
  try simp only [Act.put, List.setIfInBounds_toArray, List.set_cons_zero, List.set_cons_succ]
  refine wpAnyK_take (i := 4) [6] (v := ?v5) rfl (by kernel_rfl) (by kernel_rfl) (by kernel_rfl) (by kernel_rfl) (fun _ _ _ h => h) (Or.inl ⟨by rfl, ?hy5⟩) hH ?rest5
  case hy5 => (intro w hSw; (try dsimp only at hSw); go_simp; with_reducible rfl)
  try simp only [Act.put, List.setIfInBounds_toArray, List.set_cons_zero, List.set_cons_succ]
  refine wpAnyK_take (i := 5) [6] (v := ?v6) rfl (by kernel_rfl) (by kernel_rfl) (by kernel_rfl) (by kernel_rfl) (fun _ _ _ h => h) (Or.inl ⟨by rfl, ?hy6⟩) hH ?rest6
  case hy6 => (intro w hSw; (try dsimp only at hSw); go_simp; with_reducible rfl)
  try simp only [Act.put, List.setIfInBounds_toArray, List.set_cons_zero, List.set_cons_succ]
  refine wpAnyK_last (by kernel_rfl) rfl (fun K hK => ?_) (by kernel_rfl)
  have hb2 : Tn (fun q => q = bF) w1 w2.drew := ht2.trans (Tn.drew _)
  have hd2 : DkAt F w2.drew db mb D1 := H.out.1.frame hb2 (fun q _ hq => by subst hq; exact ⟨H.out.2.2.2.2.1, d4.symm, d5.symm⟩)
  refine step_put rfl _ _ _ rfl keyN und_map rfl hd2.m s rfl ⟨fd ++ data, fs⟩ rfl ?_
  intro w3 hm3 ht3 hz3
  refine hK.out _ _ (wpAnyK_done (by kernel_rfl) ?_ _)
  clear hK K hH
  have hfin := hd2.setM ht3 hm3 (set_ok hd2.ok (by rw [H.out.2.1]; exact H.out.2.2.2.1) H.out.2.2.1 H.out.2.2.2.2.2)
  have htt : Tn (fun q => two db mb q ∨ q = bF) w1 w3 := (hb2.mono (fun q hq => Or.inr hq)).trans (ht3.mono (fun q hq => Or.inl (Or.inr hq)))
  have HF := Lib.hid (And.intro hfin htt)
  clear hfin htt hm3 ht3 hz3 hd2 hb2 e1 e2 e3 e4 e5 kd1 kd2 kd3 kd4 kd5 ht2
  go_wp2_with fail
  go_end0
  exact ⟨rfl, HF.out.1, HF.out.2⟩

set_option maxRecDepth 100000 in
set_option maxHeartbeats 1000000 in
theorem sync1_does {bF bD bN : Nat} {s : ByteArray} {fd : ByteArray} {fs : Nat} (hD : w.cell? ⟨bD, 0, none⟩ = some (.pointer (some ⟨db, 0, none⟩))) (hN : w.cell? ⟨bN, 0, none⟩ = some (.string s))
    (hF0 : w.cell? ⟨bF, 0, none⟩ = some (.string fd)) (hF1 : w.cell? ⟨bF, 1, none⟩ = some (.int .i64 (fs : Int))) (hFz : ∀ j, w.frozen? ⟨bF, j, none⟩ = false)
    (nD : ¬ two db mb bD) (nN : ¬ two db mb bN) (nF : ¬ two db mb bF) (d1 : bD ≠ bF) (d2 : bN ≠ bF) (hnF : F bF) (hs : s.size ≤ 64) (hg : (getL D.m s).isSome = true) (hfok : fd.size ≤ fd.size ∧ fd.size ≤ 1048576) :
    Does F (fun q => q = bF) 34 #[.pointer (some ⟨bF, 0, none⟩), .pointer (some ⟨bD, 0, none⟩), .pointer (some ⟨bN, 0, none⟩)] w db mb D (fun m => setL m s ⟨fd, fd.size⟩) := by
  intro w1 D1 h1 ht1 hm1
  have k1 := ht1.cell hD nD
  have k2 := ht1.cell hN nN
  have k3 := h1.c0
  have k4 := ht1.cell hF0 nF
  have k5 := ht1.cell hF1 nF
  have k6 := (ht1.frozen (p := ⟨bF, 0, none⟩) (World.block_lt_of_cell? _ _ hF0) nF).trans (hFz 0)
  have k7 := (ht1.frozen (p := ⟨bF, 1, none⟩) (World.block_lt_of_cell? _ _ hF1) nF).trans (hFz 1)
  have d4 : db ≠ bF := fun e => nF (.inl e.symm)
  have d5 : mb ≠ bF := fun e => nF (.inr e.symm)
  have H := Lib.hid (And.intro h1 (And.intro hm1 (And.intro hs (And.intro hg (And.intro hnF hfok)))))
  clear hD hN hF0 hF1 hFz ht1 h1 hm1 hs hg nD nN nF hnF hfok
  go_enter Tryd.func34, Tryd.ntmps34
  go_wp2_with fail
  obtain ⟨w2, hw2⟩ : ∃ w2, w1.setCell ⟨bF, 1, none⟩ (.int .i64 (fd.size : Int)) = w2 := ⟨_, rfl⟩
  rw [hw2]
  have ht2 : Tn (fun q => q = bF) w1 w2 := by rw [← hw2]; exact Tn.setCell _ _ _ rfl
  have e4 : w2.cell? ⟨bF, 0, none⟩ = some (.string fd) := by rw [← hw2]; exact cell_set k4 (by omega)
  have e5 : w2.cell? ⟨bF, 1, none⟩ = some (.int .i64 (fd.size : Int)) := by rw [← hw2]; exact World.cell?_setCell_same _ _ _ k5
  have e1 := ht2.cell k1 d1
  have e2 := ht2.cell k2 d2
  have e3 := ht2.cell k3 d4
  clear hw2 k1 k2 k3 k4 k5 k6 k7
  have kd1 : w2.drew.cell? ⟨bD, 0, none⟩ = some (.pointer (some ⟨db, 0, none⟩)) := e1
  have kd2 : w2.drew.cell? ⟨bN, 0, none⟩ = some (.string s) := e2
  have kd3 : w2.drew.cell? ⟨db, 0, none⟩ = some (.map (some mb)) := e3
  have kd4 : w2.drew.cell? ⟨bF, 0, none⟩ = some (.string fd) := e4
  have kd5 : w2.drew.cell? ⟨bF, 1, none⟩ = some (.int .i64 (fd.size : Int)) := e5
  refine wp_region_K (fun w' => w'.cell? ⟨bD, 0, none⟩ = some (.pointer (some ⟨db, 0, none⟩)) ∧ w'.cell? ⟨bN, 0, none⟩ = some (.string s) ∧ w'.cell? ⟨db, 0, none⟩ = some (.map (some mb)) ∧ w'.cell? ⟨bF, 0, none⟩ = some (.string fd) ∧ w'.cell? ⟨bF, 1, none⟩ = some (.int .i64 (fd.size : Int))) 6 7 (by kernel_rfl) (by kernel_rfl) ⟨kd1, kd2, kd3, kd4, kd5⟩ (fun hH => ?_)
  refine wpAnyK_take (i := 0) [6] (v := ?v7) rfl (by kernel_rfl) (by kernel_rfl) (by kernel_rfl) (by kernel_rfl) (fun _ _ _ h => h) (Or.inl ⟨by rfl, ?hy7⟩) hH ?rest7
  case hy7 => (intro w hSw; (try dsimp only at hSw); go_simp; with_reducible rfl)
  try simp only [Act.put, List.setIfInBounds_toArray, List.set_cons_zero, List.set_cons_succ]
  refine wpAnyK_take (i := 1) [6] (v := ?v8) rfl (by kernel_rfl) (by kernel_rfl) (by kernel_rfl) (by kernel_rfl) (fun _ _ _ h => h) (Or.inl ⟨by rfl, ?hy8⟩) hH ?rest8
  case hy8 => (intro w hSw; (try dsimp only at hSw); go_simp; with_reducible rfl)
  try simp only [Act.put, List.setIfInBounds_toArray, List.set_cons_zero, List.set_cons_succ]
  refine wpAnyK_take (i := 2) [6] (v := ?v9) rfl (by kernel_rfl) (by kernel_rfl) (by kernel_rfl) (by kernel_rfl) (fun _ _ _ h => h) (Or.inl ⟨by rfl, ?hy9⟩) hH ?rest9
  case hy9 => (intro w hSw; (try dsimp only at hSw); go_simp; with_reducible rfl)
  try simp only [Act.put, List.setIfInBounds_toArray, List.set_cons_zero, List.set_cons_succ]
  refine wpAnyK_take (i := 3) [6] (v := ?v10) rfl (by kernel_rfl) (by kernel_rfl) (by kernel_rfl) (by kernel_rfl) (fun _ _ _ h => h) (Or.inl ⟨by rfl, ?hy10⟩) hH ?rest10
  case hy10 => (intro w hSw; (try dsimp only at hSw); go_simp; with_reducible rfl)
  try simp only [Act.put, List.setIfInBounds_toArray, List.set_cons_zero, List.set_cons_succ]
  refine wpAnyK_take (i := 4) [6] (v := ?v11) rfl (by kernel_rfl) (by kernel_rfl) (by kernel_rfl) (by kernel_rfl) (fun _ _ _ h => h) (Or.inl ⟨by rfl, ?hy11⟩) hH ?rest11
  case hy11 => (intro w hSw; (try dsimp only at hSw); go_simp; with_reducible rfl)
  try simp only [Act.put, List.setIfInBounds_toArray, List.set_cons_zero, List.set_cons_succ]
  refine wpAnyK_take (i := 5) [6] (v := ?v12) rfl (by kernel_rfl) (by kernel_rfl) (by kernel_rfl) (by kernel_rfl) (fun _ _ _ h => h) (Or.inl ⟨by rfl, ?hy12⟩) hH ?rest12
  case hy12 => (intro w hSw; (try dsimp only at hSw); go_simp; with_reducible rfl)
  try simp only [Act.put, List.setIfInBounds_toArray, List.set_cons_zero, List.set_cons_succ]
  refine wpAnyK_last (by kernel_rfl) rfl (fun K hK => ?_) (by kernel_rfl)
  have hb2 : Tn (fun q => q = bF) w1 w2.drew := ht2.trans (Tn.drew _)
  have hd2 : DkAt F w2.drew db mb D1 := H.out.1.frame hb2 (fun q _ hq => by subst hq; exact ⟨H.out.2.2.2.2.1, d4.symm, d5.symm⟩)
  refine step_put rfl _ _ _ rfl keyN und_map rfl hd2.m s rfl ⟨fd, fd.size⟩ rfl ?_
  intro w3 hm3 ht3 hz3
  refine hK.out _ _ (wpAnyK_done (by kernel_rfl) ?_ _)
  clear hK K hH
  have hfin := hd2.setM ht3 hm3 (set_ok hd2.ok (by rw [H.out.2.1]; exact H.out.2.2.2.1) H.out.2.2.1 H.out.2.2.2.2.2)
  have htt : Tn (fun q => two db mb q ∨ q = bF) w1 w3 := (hb2.mono (fun q hq => Or.inr hq)).trans (ht3.mono (fun q hq => Or.inl (Or.inr hq)))
  have HF := Lib.hid (And.intro hfin htt)
  clear hfin htt hm3 ht3 hz3 hd2 hb2 e1 e2 e3 e4 e5 kd1 kd2 kd3 kd4 kd5 ht2
  go_wp2_with fail
  go_end0
  exact ⟨rfl, HF.out.1, HF.out.2⟩

set_option maxRecDepth 100000 in
set_option maxHeartbeats 1000000 in
theorem remove1_does {bD bN : Nat} {s : ByteArray} (hD : w.cell? ⟨bD, 0, none⟩ = some (.pointer (some ⟨db, 0, none⟩))) (hN : w.cell? ⟨bN, 0, none⟩ = some (.string s)) (nD : ¬ two db mb bD) (nN : ¬ two db mb bN) :
    Does F (fun _ => False) 33 #[.pointer (some ⟨bD, 0, none⟩), .pointer (some ⟨bN, 0, none⟩)] w db mb D (fun m => delL m s) := by
  intro w1 D1 h1 ht1 hm1
  have k1 := ht1.cell hD nD
  have k2 := ht1.cell hN nN
  have k3 := h1.c0
  have H := Lib.hid (And.intro h1 hm1)
  clear hD hN ht1 h1 hm1 nD nN
  go_enter Tryd.func33, Tryd.ntmps33
  go_wp2_with fail
  have kd1 : w1.drew.cell? ⟨bD, 0, none⟩ = some (.pointer (some ⟨db, 0, none⟩)) := k1
  have kd2 : w1.drew.cell? ⟨bN, 0, none⟩ = some (.string s) := k2
  have kd3 : w1.drew.cell? ⟨db, 0, none⟩ = some (.map (some mb)) := k3
  refine wp_region_K (fun w' => w'.cell? ⟨bD, 0, none⟩ = some (.pointer (some ⟨db, 0, none⟩)) ∧ w'.cell? ⟨bN, 0, none⟩ = some (.string s) ∧ w'.cell? ⟨db, 0, none⟩ = some (.map (some mb))) 5 6 (by kernel_rfl) (by kernel_rfl) ⟨kd1, kd2, kd3⟩ (fun hH => ?_)
  refine wpAnyK_take (i := 0) [1, 2, 3, 5] (v := ?v13) rfl (by kernel_rfl) (by kernel_rfl) (by kernel_rfl) (by kernel_rfl) (fun _ _ _ h => h) (Or.inl ⟨by rfl, ?hy13⟩) hH ?rest13
  case hy13 => (intro w hSw; (try dsimp only at hSw); go_simp; with_reducible rfl)
  try simp only [Act.put, List.setIfInBounds_toArray, List.set_cons_zero, List.set_cons_succ]
  refine wpAnyK_take (i := 1) [2, 3, 5] (v := ?v14) rfl (by kernel_rfl) (by kernel_rfl) (by kernel_rfl) (by kernel_rfl) (fun _ _ _ h => h) (Or.inl ⟨by rfl, ?hy14⟩) hH ?rest14
  case hy14 => (intro w hSw; (try dsimp only at hSw); go_simp; with_reducible rfl)
  try simp only [Act.put, List.setIfInBounds_toArray, List.set_cons_zero, List.set_cons_succ]
  refine wpAnyK_take (i := 2) [3, 5] (v := ?v15) rfl (by kernel_rfl) (by kernel_rfl) (by kernel_rfl) (by kernel_rfl) (fun _ _ _ h => h) (Or.inl ⟨by rfl, ?hy15⟩) hH ?rest15
  case hy15 => (intro w hSw; (try dsimp only at hSw); go_simp; with_reducible rfl)
  try simp only [Act.put, List.setIfInBounds_toArray, List.set_cons_zero, List.set_cons_succ]
  refine wpAnyK_take (i := 3) [5] (v := ?v16) rfl (by kernel_rfl) (by kernel_rfl) (by kernel_rfl) (by kernel_rfl) (fun _ _ _ h => h) (Or.inl ⟨by rfl, ?hy16⟩) hH ?rest16
  case hy16 => (intro w hSw; (try dsimp only at hSw); go_simp; with_reducible rfl)
  try simp only [Act.put, List.setIfInBounds_toArray, List.set_cons_zero, List.set_cons_succ]
  refine wpAnyK_take (i := 4) [5] (v := ?v17) rfl (by kernel_rfl) (by kernel_rfl) (by kernel_rfl) (by kernel_rfl) (fun _ _ _ h => h) (Or.inl ⟨by rfl, ?hy17⟩) hH ?rest17
  case hy17 => (intro w hSw; (try dsimp only at hSw); go_simp; with_reducible rfl)
  try simp only [Act.put, List.setIfInBounds_toArray, List.set_cons_zero, List.set_cons_succ]
  refine wpAnyK_last (by kernel_rfl) rfl (fun K hK => ?_) (by kernel_rfl)
  have hb2 : Below w1.heap.size w1 w1.drew := (Below.refl _ _).drew
  have hd2 : DkAt F w1.drew db mb D1 := H.out.1.below hb2
  refine step_del rfl _ _ rfl keyN und_map (ob := some mb) rfl hd2.m s rfl ?_
  intro w3 hm3 ht3 hz3
  refine hK.out _ _ (wpAnyK_done (by kernel_rfl) ?_ _)
  clear hK K hH
  have ht3' : Tn (fun q => q = mb) w1.drew w3 := ht3.mono (fun q hq => (Option.some.inj hq).symm)
  have hfin := hd2.setM ht3' hm3 hd2.ok.del
  have HF := Lib.hid (And.intro hfin ((Tn.ofBelow (F := fun q => two db mb q ∨ False) hb2).trans (ht3'.mono (fun q hq => .inl (.inr hq)))))
  clear hfin hm3 ht3 ht3' hz3 hd2 hb2 kd1 kd2 kd3 k1 k2 k3
  go_wp2_with fail
  go_end0
  exact ⟨rfl, HF.out.1, by simpa using HF.out.2⟩

set_option maxRecDepth 100000 in
set_option maxHeartbeats 1000000 in
theorem rename1_does {bD bN bF bT : Nat} {s t : ByteArray} {fd : ByteArray} {fs : Nat} (hD : w.cell? ⟨bD, 0, none⟩ = some (.pointer (some ⟨db, 0, none⟩))) (hN : w.cell? ⟨bN, 0, none⟩ = some (.string s)) (hT : w.cell? ⟨bT, 0, none⟩ = some (.string t))
    (hF0 : w.cell? ⟨bF, 0, none⟩ = some (.string fd)) (hF1 : w.cell? ⟨bF, 1, none⟩ = some (.int .i64 (fs : Int))) (nD : ¬ two db mb bD) (nN : ¬ two db mb bN) (nF : ¬ two db mb bF) (nT : ¬ two db mb bT) (hs : t.size ≤ 64) (hg : getL D.m s = some ⟨fd, fs⟩) :
    Does F (fun _ => False) 35 #[.pointer (some ⟨bD, 0, none⟩), .pointer (some ⟨bN, 0, none⟩), .pointer (some ⟨bF, 0, none⟩), .pointer (some ⟨bT, 0, none⟩)] w db mb D (fun m => setL (delL m s) t ⟨fd, fs⟩) := by
  intro w1 D1 h1 ht1 hm1
  have k1 := ht1.cell hD nD
  have k2 := ht1.cell hN nN
  have k3 := h1.c0
  have k4 := ht1.cell hF0 nF
  have k5 := ht1.cell hF1 nF
  have k6 := ht1.cell hT nT
  have hs9 : t.size ≤ 140737488351232 := by omega
  have H := Lib.hid (And.intro h1 (And.intro hm1 (And.intro hs (And.intro hg (And.intro nD (And.intro nF nT))))))
  have hdm : db ≠ mb := h1.ne
  have n1 : bD ≠ mb := fun e => nD (.inr e)
  have n4 : bF ≠ mb := fun e => nF (.inr e)
  have n6 : bT ≠ mb := fun e => nT (.inr e)
  clear hD hN hF0 hF1 hT ht1 h1 hm1 nD nN nF nT hg hs
  go_enter Tryd.func35, Tryd.ntmps35
  go_wp2_with fail
  have kd1 : w1.drew.cell? ⟨bD, 0, none⟩ = some (.pointer (some ⟨db, 0, none⟩)) := k1
  have kd2 : w1.drew.cell? ⟨bN, 0, none⟩ = some (.string s) := k2
  have kd3 : w1.drew.cell? ⟨db, 0, none⟩ = some (.map (some mb)) := k3
  refine wp_region_K (fun w' => w'.cell? ⟨bD, 0, none⟩ = some (.pointer (some ⟨db, 0, none⟩)) ∧ w'.cell? ⟨bN, 0, none⟩ = some (.string s) ∧ w'.cell? ⟨db, 0, none⟩ = some (.map (some mb))) 5 6 (by kernel_rfl) (by kernel_rfl) ⟨kd1, kd2, kd3⟩ (fun hH => ?_)
  refine wpAnyK_take (i := 0) [1, 2, 3, 5] (v := ?v18) rfl (by kernel_rfl) (by kernel_rfl) (by kernel_rfl) (by kernel_rfl) (fun _ _ _ h => h) (Or.inl ⟨by rfl, ?hy18⟩) hH ?rest18
  case hy18 => (intro w hSw; (try dsimp only at hSw); go_simp; with_reducible rfl)
  try simp only [Act.put, List.setIfInBounds_toArray, List.set_cons_zero, List.set_cons_succ]
  refine wpAnyK_take (i := 1) [2, 3, 5] (v := ?v19) rfl (by kernel_rfl) (by kernel_rfl) (by kernel_rfl) (by kernel_rfl) (fun _ _ _ h => h) (Or.inl ⟨by rfl, ?hy19⟩) hH ?rest19
  case hy19 => (intro w hSw; (try dsimp only at hSw); go_simp; with_reducible rfl)
  try simp only [Act.put, List.setIfInBounds_toArray, List.set_cons_zero, List.set_cons_succ]
  refine wpAnyK_take (i := 2) [3, 5] (v := ?v20) rfl (by kernel_rfl) (by kernel_rfl) (by kernel_rfl) (by kernel_rfl) (fun _ _ _ h => h) (Or.inl ⟨by rfl, ?hy20⟩) hH ?rest20
  case hy20 => (intro w hSw; (try dsimp only at hSw); go_simp; with_reducible rfl)
  try simp only [Act.put, List.setIfInBounds_toArray, List.set_cons_zero, List.set_cons_succ]
  refine wpAnyK_take (i := 3) [5] (v := ?v21) rfl (by kernel_rfl) (by kernel_rfl) (by kernel_rfl) (by kernel_rfl) (fun _ _ _ h => h) (Or.inl ⟨by rfl, ?hy21⟩) hH ?rest21
  case hy21 => (intro w hSw; (try dsimp only at hSw); go_simp; with_reducible rfl)
  try simp only [Act.put, List.setIfInBounds_toArray, List.set_cons_zero, List.set_cons_succ]
  refine wpAnyK_take (i := 4) [5] (v := ?v22) rfl (by kernel_rfl) (by kernel_rfl) (by kernel_rfl) (by kernel_rfl) (fun _ _ _ h => h) (Or.inl ⟨by rfl, ?hy22⟩) hH ?rest22
  case hy22 => (intro w hSw; (try dsimp only at hSw); go_simp; with_reducible rfl)
  try simp only [Act.put, List.setIfInBounds_toArray, List.set_cons_zero, List.set_cons_succ]
  refine wpAnyK_last (by kernel_rfl) rfl (fun K hK => ?_) (by kernel_rfl)
  have hb2 : Below w1.heap.size w1 w1.drew := (Below.refl _ _).drew
  have hd2 : DkAt F w1.drew db mb D1 := H.out.1.below hb2
  refine step_del rfl _ _ rfl keyN und_map (ob := some mb) rfl hd2.m s rfl ?_
  intro w3 hm3 ht3 hz3
  refine hK.out _ _ (wpAnyK_done (by kernel_rfl) ?_ _)
  clear hK K hH
  have ht3' : Tn (fun q => q = mb) w1.drew w3 := ht3.mono (fun q hq => (Option.some.inj hq).symm)
  have hd3 := hd2.setM ht3' hm3 hd2.ok.del
  have htt : Tn (fun q => two db mb q ∨ False) w1 w3 := (Tn.ofBelow (F := fun q => two db mb q ∨ False) hb2).trans (ht3'.mono (fun q hq => .inl (.inr hq)))
  have f1 := ht3'.cell (show w1.drew.cell? ⟨bD, 0, none⟩ = _ from k1) n1
  have f3 := ht3'.cell (show w1.drew.cell? ⟨db, 0, none⟩ = _ from k3) hdm
  have f4 := ht3'.cell (show w1.drew.cell? ⟨bF, 0, none⟩ = _ from k4) n4
  have f5 := ht3'.cell (show w1.drew.cell? ⟨bF, 1, none⟩ = _ from k5) n4
  have f6 := ht3'.cell (show w1.drew.cell? ⟨bT, 0, none⟩ = _ from k6) n6
  have H3 := Lib.hid (And.intro hd3 htt)
  clear hd3 htt hm3 ht3 ht3' hz3 hd2 hb2 kd1 kd2 kd3 k1 k2 k3 k4 k5 k6
  go_wp2_with fail
  have kd1 : w3.drew.cell? ⟨bD, 0, none⟩ = some (.pointer (some ⟨db, 0, none⟩)) := f1
  have kd3 : w3.drew.cell? ⟨db, 0, none⟩ = some (.map (some mb)) := f3
  have kd4 : w3.drew.cell? ⟨bF, 0, none⟩ = some (.string fd) := f4
  have kd5 : w3.drew.cell? ⟨bF, 1, none⟩ = some (.int .i64 (fs : Int)) := f5
  have kd6 : w3.drew.cell? ⟨bT, 0, none⟩ = some (.string t) := f6
  refine wp_region_K (fun w' => w'.cell? ⟨bD, 0, none⟩ = some (.pointer (some ⟨db, 0, none⟩)) ∧ w'.cell? ⟨db, 0, none⟩ = some (.map (some mb)) ∧ w'.cell? ⟨bF, 0, none⟩ = some (.string fd) ∧ w'.cell? ⟨bF, 1, none⟩ = some (.int .i64 (fs : Int)) ∧ w'.cell? ⟨bT, 0, none⟩ = some (.string t)) 7 8 (by kernel_rfl) (by kernel_rfl) ⟨kd1, kd3, kd4, kd5, kd6⟩ (fun hH => ?_)
  refine wpAnyK_take (i := 0) [7] (v := ?v23) rfl (by kernel_rfl) (by kernel_rfl) (by kernel_rfl) (by kernel_rfl) (fun _ _ _ h => h) (Or.inl ⟨by rfl, ?hy23⟩) hH ?rest23
  case hy23 => (intro w hSw; (try dsimp only at hSw); go_simp; with_reducible rfl)
  try simp only [Act.put, List.setIfInBounds_toArray, List.set_cons_zero, List.set_cons_succ]
  refine wpAnyK_take (i := 1) [7] (v := ?v24) rfl (by kernel_rfl) (by kernel_rfl) (by kernel_rfl) (by kernel_rfl) (fun _ _ _ h => h) (Or.inl ⟨by rfl, ?hy24⟩) hH ?rest24
  case hy24 => (intro w hSw; (try dsimp only at hSw); go_simp; with_reducible rfl)
  try simp only [Act.put, List.setIfInBounds_toArray, List.set_cons_zero, List.set_cons_succ]
  refine wpAnyK_take (i := 2) [7] (v := ?v25) rfl (by kernel_rfl) (by kernel_rfl) (by kernel_rfl) (by kernel_rfl) (fun _ _ _ h => h) (Or.inl ⟨by rfl, ?hy25⟩) hH ?rest25
  case hy25 => (intro w hSw; (try dsimp only at hSw); go_simp; with_reducible rfl)
  try simp only [Act.put, List.setIfInBounds_toArray, List.set_cons_zero, List.set_cons_succ]
  refine wpAnyK_take (i := 3) [7] (v := ?v26) rfl (by kernel_rfl) (by kernel_rfl) (by kernel_rfl) (by kernel_rfl) (fun _ _ _ h => h) (Or.inl ⟨by rfl, ?hy26⟩) hH ?rest26
  case hy26 => (intro w hSw; (try dsimp only at hSw); go_simp; with_reducible rfl)
  try simp only [Act.put, List.setIfInBounds_toArray, List.set_cons_zero, List.set_cons_succ]
  refine wpAnyK_take (i := 4) [7] (v := ?v27) rfl (by kernel_rfl) (by kernel_rfl) (by kernel_rfl) (by kernel_rfl) (fun _ _ _ h => h) (Or.inl ⟨by rfl, ?hy27⟩) hH ?rest27
  case hy27 => (intro w hSw; (try dsimp only at hSw); go_simp; with_reducible rfl)
  try simp only [Act.put, List.setIfInBounds_toArray, List.set_cons_zero, List.set_cons_succ]
  refine wpAnyK_take (i := 6) [7] (v := ?v28) rfl (by kernel_rfl) (by kernel_rfl) (by kernel_rfl) (by kernel_rfl) (fun _ _ _ h => h) (Or.inl ⟨by rfl, ?hy28⟩) hH ?rest28
  case hy28 => (intro w hSw; (try dsimp only at hSw); go_simp; with_reducible rfl)
  try simp only [Act.put, List.setIfInBounds_toArray, List.set_cons_zero, List.set_cons_succ]
  refine wpAnyK_one (i := 5) (by kernel_rfl) rfl (fun K hK => ?_) (by kernel_rfl)
  go_simp
  go_at_call 31
  refine (clone_any _ t hs9).mono ?_
  rintro e w4 ⟨rfl, hb4⟩
  have e1 := (hb4.cell (p := ⟨bD, 0, none⟩) (World.block_lt_of_cell? _ _ kd1)).trans kd1
  have e3 := (hb4.cell (p := ⟨db, 0, none⟩) (World.block_lt_of_cell? _ _ kd3)).trans kd3
  have e4 := (hb4.cell (p := ⟨bF, 0, none⟩) (World.block_lt_of_cell? _ _ kd4)).trans kd4
  have e5 := (hb4.cell (p := ⟨bF, 1, none⟩) (World.block_lt_of_cell? _ _ kd5)).trans kd5
  have e6 := (hb4.cell (p := ⟨bT, 0, none⟩) (World.block_lt_of_cell? _ _ kd6)).trans kd6
  have HB := Lib.hid (show Below w3.heap.size w3 w4 from (Below.refl _ _).drew.trans hb4)
  clear hb4
  refine hK.out _ _ ⟨e1, e3, e4, e5, e6⟩ (fun hH => ?_)
  clear hK K
  try simp only [Act.put, List.setIfInBounds_toArray, List.set_cons_zero, List.set_cons_succ]
  have hd4 := H3.out.1.below HB.out
  refine wpAnyK_last (by kernel_rfl) rfl (fun K hK => ?_) (by kernel_rfl)
  refine step_put rfl _ _ _ rfl keyN und_map rfl hd4.m t rfl ⟨fd, fs⟩ rfl ?_
  intro w5 hm5 ht5 hz5
  refine hK.out _ _ (wpAnyK_done (by kernel_rfl) ?_ _)
  clear hK K hH
  have hgm : (s, (⟨fd, fs⟩ : Fl)) ∈ D1.m := getL_mem (by rw [H.out.2.1]; exact H.out.2.2.2.1)
  have hlen : (setL (delL D1.m s) t ⟨fd, fs⟩).length ≤ 20000 := by
    have h1 : (setL (delL D1.m s) t ⟨fd, fs⟩).length ≤ (delL D1.m s).length + 1 := setL_length.1
    have h2 : (delL D1.m s).length < D1.m.length := by
      unfold delL
      rcases Nat.lt_or_ge (D1.m.filter (fun p => decide (p.1 ≠ s))).length D1.m.length with h | h
      · exact h
      · have h3 := List.length_filter_eq_length_iff.1 (Nat.le_antisymm (List.length_filter_le _ _) h) _ hgm
        simp at h3
    have := H.out.1.ok.few
    omega
  have hfok := H.out.1.ok.syn _ hgm
  have hfin := hd4.setM ht5 hm5 (hd4.ok.set H.out.2.2.1 hfok hlen)
  have HF := Lib.hid (And.intro hfin (H3.out.2.trans ((Tn.ofBelow (F := fun q => two db mb q ∨ False) HB.out).trans (ht5.mono (fun q hq => .inl (.inr hq))))))
  clear hfin hm5 ht5 hz5 hd4 e1 e3 e4 e5 e6 kd1 kd3 kd4 kd5 kd6 f1 f3 f4 f5 f6 hgm hlen hfok
  go_wp2_with fail
  go_end0
  exact ⟨rfl, HF.out.1, by simpa using HF.out.2⟩
end Go.Proofs.YtjhajlfkiafhgaaDoor
