import Derived.Test.YtjebpppjhkkebaaGreatDoorM6
import Derived.Test.YtjebpppjhkkebaaGreatDoorM4
/-
  Disk: what an act does to the files: Create.
-/
set_option linter.unusedSimpArgs false
set_option linter.unusedVariables false
namespace Go.Proofs.YtjebpppjhkkebaaGreatDoor
open Go.RowKit
variable {F G : Nat → Prop} {w w' : World} {db mb : Nat} {D D' : Dk}

theorem clone_any (w : World) (d : ByteArray) (hd : d.size ≤ 140737488351232) : Calls Tryz.prog 20 #[.string d] w fun e w' => e = .returned (.string d) ∧ Below w.heap.size w w' := by
  go_enter Tryz.func20, Tryz.ntmps20
  go_wp2_with (go_at_call 50; refine (Tryz.stringslite_Clone d w (by omega)).mono ?_; rintro _ w' ⟨rfl, hb⟩; simp only [])
  go_ret
  exact ⟨rfl, hb⟩
theorem Dk.Ok.files (h : D.Ok) {m : Fm} (hm : ∀ p ∈ m, p ∈ D.m ∨ (p.1.size ≤ 64 ∧ p.2.syn ≤ p.2.data.size ∧ p.2.data.size ≤ 1048576)) (hl : m.length ≤ 20000) : ({ D with m := m } : Dk).Ok :=
  ⟨fun p hp => (hm p hp).elim (h.nam p) (fun h => h.1), fun p hp => (hm p hp).elim (h.syn p) (fun h => h.2), hl, h.acts, h.quota, h.fuse⟩
theorem Dk.Ok.set (h : D.Ok) {s : ByteArray} {f : Fl} (hs : s.size ≤ 64) (hf : f.syn ≤ f.data.size ∧ f.data.size ≤ 1048576) (hl : (setL D.m s f).length ≤ 20000) : ({ D with m := setL D.m s f } : Dk).Ok :=
  h.files (fun p hp => by
    rcases setL_mem hp with rfl | hp
    · exact .inr ⟨hs, hf⟩
    · exact .inl hp) hl
theorem Dk.Ok.del (h : D.Ok) {s : ByteArray} : ({ D with m := delL D.m s } : Dk).Ok :=
  h.files (fun p hp => .inl (delL_mem hp)) (Nat.le_trans (List.length_filter_le _ _) h.few)

set_option maxRecDepth 100000 in
set_option maxHeartbeats 1000000 in
theorem create1_does {bD bN : Nat} {s : ByteArray} (hD : w.cell? ⟨bD, 0, none⟩ = some (.pointer (some ⟨db, 0, none⟩))) (hN : w.cell? ⟨bN, 0, none⟩ = some (.string s)) (nD : ¬ two db mb bD) (nN : ¬ two db mb bN) (hs : s.size ≤ 64) (hl : (setL D.m s ⟨ByteArray.empty, 0⟩).length ≤ 20000) :
    Does F (fun _ => False) 125 #[.pointer (some ⟨bD, 0, none⟩), .pointer (some ⟨bN, 0, none⟩)] w db mb D (fun m => setL m s ⟨ByteArray.empty, 0⟩) := by
  intro w1 D1 h1 ht1 hm1
  have k1 := ht1.cell hD nD
  have k2 := ht1.cell hN nN
  have k3 := h1.c0
  have hs9 : s.size ≤ 140737488351232 := by omega
  have H := Lib.hid (And.intro h1 (And.intro hm1 (And.intro hs hl)))
  clear hD hN ht1 h1 hm1 hs hl nD nN
  go_enter Tryz.func125, Tryz.ntmps125
  go_wp2_with fail
  have kd1 : w1.drew.cell? ⟨bD, 0, none⟩ = some (.pointer (some ⟨db, 0, none⟩)) := k1
  have kd2 : w1.drew.cell? ⟨bN, 0, none⟩ = some (.string s) := k2
  have kd3 : w1.drew.cell? ⟨db, 0, none⟩ = some (.map (some mb)) := k3
  refine wp_region_K (fun w' => w'.cell? ⟨bD, 0, none⟩ = some (.pointer (some ⟨db, 0, none⟩)) ∧ w'.cell? ⟨bN, 0, none⟩ = some (.string s) ∧ w'.cell? ⟨db, 0, none⟩ = some (.map (some mb))) 7 8 (by kernel_rfl) (by kernel_rfl) ⟨kd1, kd2, kd3⟩ (fun hH => ?_)
  refine tkK (i := 0) [7] rfl hH ?_
  try simp only [Act.put, tkA, tkB, tkC]
  refine tkK (i := 1) [7] rfl hH ?_
  try simp only [Act.put, tkA, tkB, tkC]
  refine tkK (i := 2) [7] rfl hH ?_
  try simp only [Act.put, tkA, tkB, tkC]
  refine tkK (i := 3) [7] rfl hH ?_
  try simp only [Act.put, tkA, tkB, tkC]
  refine tkK (i := 4) [7] rfl hH ?_
  try simp only [Act.put, tkA, tkB, tkC]
  refine tkK (i := 6) [7] rfl hH ?_
  try simp only [Act.put, tkA, tkB, tkC]
  refine wpAnyK_one (i := 5) (by kernel_rfl) rfl (fun K hK => ?_) (by kernel_rfl)
  go_simp
  go_at_call 20
  refine (clone_any _ s hs9).mono ?_
  rintro e w2 ⟨rfl, hb2⟩
  have e1 := (hb2.cell (p := ⟨bD, 0, none⟩) (World.block_lt_of_cell? _ _ kd1)).trans kd1
  have e2 := (hb2.cell (p := ⟨bN, 0, none⟩) (World.block_lt_of_cell? _ _ kd2)).trans kd2
  have e3 := (hb2.cell (p := ⟨db, 0, none⟩) (World.block_lt_of_cell? _ _ kd3)).trans kd3
  have HB := Lib.hid (show Below w1.heap.size w1 w2 from (Below.refl _ _).drew.trans hb2)
  clear hb2
  refine hK.out _ _ ⟨e1, e2, e3⟩ (fun hH => ?_)
  clear hK K
  try simp only [Act.put, tkA, tkB, tkC]
  have hd2 := H.out.1.below HB.out
  refine wpAnyK_last (by kernel_rfl) rfl (fun K hK => ?_) (by kernel_rfl)
  refine step_put rfl _ _ _ rfl keyN und_map rfl hd2.m s rfl ⟨ByteArray.empty, 0⟩ rfl ?_
  intro w3 hm3 ht3 hz3
  refine hK.out _ _ (wpAnyK_done (by kernel_rfl) ?_ _)
  clear hK K hH
  have hfin := hd2.setM ht3 hm3 (hd2.ok.set H.out.2.2.1 ⟨Nat.le_refl _, by decide⟩ (by rw [H.out.2.1]; exact H.out.2.2.2))
  have HF := Lib.hid (And.intro hfin ((Tn.ofBelow (F := fun q => two db mb q ∨ False) HB.out).trans (ht3.mono (fun q hq => .inl (.inr hq)))))
  clear hfin hm3 ht3 hz3 hd2 e1 e2 e3 kd1 kd2 kd3 k1 k2 k3
  go_wp2_with fail
  go_end0
  exact ⟨rfl, HF.out.1, by simpa using HF.out.2⟩
end Go.Proofs.YtjebpppjhkkebaaGreatDoor
/-
  Manifest: a file with texts of its own.
-/
set_option linter.unusedSimpArgs false
set_option linter.unusedVariables false
namespace Go.Proofs.YtjebpppjhkkebaaGreatDoor
open Go.RowKit

theorem results_cell1 {fn : Func} {t : Tmp} {ty : TypeId} (h : fn.results = #[.cell t ty]) {tmps : Array Value} {P : Program} {w : World} {ad : Addr} {v : Value} (ht : tmps.getD t undef = .pointer (some ad)) (hl : (loadVar ty ad).run P w = .ok v w) :
    (results fn tmps).run P w = .ok v w := by
  have ht' : tmps[t]?.getD undef = .pointer (some ad) := by simpa using ht
  simp [results, h, ht', asAddr, hl, Result.andThen]
theorem load_fi {w : World} {b : Nat} {x : Fi} (h0 : w.cell? ⟨b, 0, none⟩ = some (.int .i64 x.lv)) (h1 : w.cell? ⟨b, 1, none⟩ = some (.int .i64 x.nu)) (h2 : w.cell? ⟨b, 2, none⟩ = some (.int .i64 x.ct)) (h3 : w.cell? ⟨b, 3, none⟩ = some (.int .i64 x.sz)) (h4 : w.cell? ⟨b, 4, none⟩ = some (.string x.f)) (h5 : w.cell? ⟨b, 5, none⟩ = some (.string x.l)) :
    (loadVar 54 ⟨b, 0, none⟩).run Tryz.prog w = .ok (.agg #[.int .i64 x.lv, .int .i64 x.nu, .int .i64 x.ct, .int .i64 x.sz, .string x.f, .string x.l]) w := by
  simp [go_sem, loadVar, h0, h1, h2, h3, h4, h5]
theorem cell_keep {w : World} {b i j : Nat} {v u : Value} (h : w.cell? ⟨b, j, none⟩ = some u) (hij : i ≠ j) : (w.setCell ⟨b, i, none⟩ v).cell? ⟨b, j, none⟩ = some u := by
  rw [World.cell?_setCell_other _ _ _ _ (by intro e; injection e with _ e2; exact hij e2)]
  exact h
theorem cell_apart {w : World} {b c i j : Nat} {v u : Value} (h : w.cell? ⟨b, j, none⟩ = some u) (hbc : c ≠ b) : (w.setCell ⟨c, i, none⟩ v).cell? ⟨b, j, none⟩ = some u := by
  rw [World.cell?_setCell_other _ _ _ _ (by intro e; injection e with e1 _; exact hbc e1)]
  exact h
structure CpS (w w' : World) (x : Fi) : Prop where
  a0 : w'.cell? ⟨w.heap.size, 0, none⟩ = some (.int .i64 x.lv)
  a1 : w'.cell? ⟨w.heap.size, 1, none⟩ = some (.int .i64 x.nu)
  a2 : w'.cell? ⟨w.heap.size, 2, none⟩ = some (.int .i64 x.ct)
  a3 : w'.cell? ⟨w.heap.size, 3, none⟩ = some (.int .i64 x.sz)
  a4 : w'.cell? ⟨w.heap.size, 4, none⟩ = some (.string x.f)
  a5 : w'.cell? ⟨w.heap.size, 5, none⟩ = some (.string x.l)
  fz : ∀ j, w'.frozen? ⟨w.heap.size, j, none⟩ = false
  r0 : w'.cell? ⟨w.heap.size + 1, 0, none⟩ = some (.int .i64 0)
  r1 : w'.cell? ⟨w.heap.size + 1, 1, none⟩ = some (.int .i64 0)
  r2 : w'.cell? ⟨w.heap.size + 1, 2, none⟩ = some (.int .i64 0)
  r3 : w'.cell? ⟨w.heap.size + 1, 3, none⟩ = some (.int .i64 0)
  r4 : w'.cell? ⟨w.heap.size + 1, 4, none⟩ = some (.string ⟨#[]⟩)
  r5 : w'.cell? ⟨w.heap.size + 1, 5, none⟩ = some (.string ⟨#[]⟩)
  rf : ∀ j, w'.frozen? ⟨w.heap.size + 1, j, none⟩ = false
  bel : Below w.heap.size w w'
  sz : w.heap.size + 2 ≤ w'.heap.size
theorem CpS.below {w w' w'' : World} {x : Fi} (h : CpS w w' x) (hb : Below w'.heap.size w' w'') : CpS w w'' x :=
  ⟨(hb.cell (p := ⟨w.heap.size, 0, none⟩) (by have := h.sz; show w.heap.size < _; omega)).trans h.a0, (hb.cell (p := ⟨w.heap.size, 1, none⟩) (by have := h.sz; show w.heap.size < _; omega)).trans h.a1, (hb.cell (p := ⟨w.heap.size, 2, none⟩) (by have := h.sz; show w.heap.size < _; omega)).trans h.a2, (hb.cell (p := ⟨w.heap.size, 3, none⟩) (by have := h.sz; show w.heap.size < _; omega)).trans h.a3, (hb.cell (p := ⟨w.heap.size, 4, none⟩) (by have := h.sz; show w.heap.size < _; omega)).trans h.a4, (hb.cell (p := ⟨w.heap.size, 5, none⟩) (by have := h.sz; show w.heap.size < _; omega)).trans h.a5, fun j => (hb.frozen (p := ⟨w.heap.size, j, none⟩) (by have := h.sz; show w.heap.size < _; omega)).trans (h.fz j), (hb.cell (p := ⟨w.heap.size + 1, 0, none⟩) (by have := h.sz; show w.heap.size + 1 < _; omega)).trans h.r0, (hb.cell (p := ⟨w.heap.size + 1, 1, none⟩) (by have := h.sz; show w.heap.size + 1 < _; omega)).trans h.r1, (hb.cell (p := ⟨w.heap.size + 1, 2, none⟩) (by have := h.sz; show w.heap.size + 1 < _; omega)).trans h.r2, (hb.cell (p := ⟨w.heap.size + 1, 3, none⟩) (by have := h.sz; show w.heap.size + 1 < _; omega)).trans h.r3, (hb.cell (p := ⟨w.heap.size + 1, 4, none⟩) (by have := h.sz; show w.heap.size + 1 < _; omega)).trans h.r4, (hb.cell (p := ⟨w.heap.size + 1, 5, none⟩) (by have := h.sz; show w.heap.size + 1 < _; omega)).trans h.r5, fun j => (hb.frozen (p := ⟨w.heap.size + 1, j, none⟩) (by have := h.sz; show w.heap.size + 1 < _; omega)).trans (h.rf j), h.bel.trans (hb.mono (by have := h.sz; omega)), Nat.le_trans h.sz hb.size⟩
theorem CpS.set4 {w w' : World} {x : Fi} (h : CpS w w' x) : CpS w (w'.setCell ⟨w.heap.size, 4, none⟩ (.string x.f)) x :=
  ⟨cell_keep h.a0 (by decide), cell_keep h.a1 (by decide), cell_keep h.a2 (by decide), cell_keep h.a3 (by decide), World.cell?_setCell_same _ _ _ h.a4, cell_keep h.a5 (by decide), fun j => by rw [World.frozen?_setCell]; exact h.fz j, cell_apart h.r0 (by omega), cell_apart h.r1 (by omega), cell_apart h.r2 (by omega), cell_apart h.r3 (by omega), cell_apart h.r4 (by omega), cell_apart h.r5 (by omega), fun j => by rw [World.frozen?_setCell]; exact h.rf j, h.bel.setCell (Nat.le_refl _) _, by rw [World.size_setCell]; exact h.sz⟩
theorem CpS.set5 {w w' : World} {x : Fi} (h : CpS w w' x) : CpS w (w'.setCell ⟨w.heap.size, 5, none⟩ (.string x.l)) x :=
  ⟨cell_keep h.a0 (by decide), cell_keep h.a1 (by decide), cell_keep h.a2 (by decide), cell_keep h.a3 (by decide), cell_keep h.a4 (by decide), World.cell?_setCell_same _ _ _ h.a5, fun j => by rw [World.frozen?_setCell]; exact h.fz j, cell_apart h.r0 (by omega), cell_apart h.r1 (by omega), cell_apart h.r2 (by omega), cell_apart h.r3 (by omega), cell_apart h.r4 (by omega), cell_apart h.r5 (by omega), fun j => by rw [World.frozen?_setCell]; exact h.rf j, h.bel.setCell (Nat.le_refl _) _, by rw [World.size_setCell]; exact h.sz⟩
set_option maxRecDepth 100000 in
set_option maxHeartbeats 2000000 in
theorem copied_any (x : Fi) (w : World) (hf : x.f.size ≤ 1000000000 ∧ x.l.size ≤ 1000000000) : Calls Tryz.prog 83 #[.agg #[.int .i64 x.lv, .int .i64 x.nu, .int .i64 x.ct, .int .i64 x.sz, .string x.f, .string x.l]] w fun e w' => e = .returned (.agg #[.int .i64 x.lv, .int .i64 x.nu, .int .i64 x.ct, .int .i64 x.sz, .string x.f, .string x.l]) ∧ Below w.heap.size w w' := by
  obtain ⟨w2, hw2⟩ : ∃ w2, w2 = (w.alloc (.cells #[.int .i64 x.lv, .int .i64 x.nu, .int .i64 x.ct, .int .i64 x.sz, .string x.f, .string x.l] 54)).alloc (.cells #[.int .i64 0, .int .i64 0, .int .i64 0, .int .i64 0, .string ⟨#[]⟩, .string ⟨#[]⟩] 54) := ⟨_, rfl⟩
  have hcs : CpS w w2 x := by
    rw [hw2]
    refine ⟨?_, ?_, ?_, ?_, ?_, ?_, fun j => ?_, ?_, ?_, ?_, ?_, ?_, ?_, fun j => ?_, ((Below.refl _ _).alloc (Nat.le_refl _) _).alloc (by simp) _, by simp⟩
    all_goals simp [go_sem]
  have H2 := Lib.hid hcs
  have HF := Lib.hid hf
  clear hcs hf
  go_enter Tryz.func83, Tryz.ntmps83
  go_wp2_with fail
  rw [← hw2]
  clear hw2
  have hd : CpS w w2.drew x := H2.out.below (Below.refl _ _).drew
  have HD := Lib.hid hd
  clear hd
  have a4 := HD.out.a4
  have a5 := HD.out.a5
  have z4 := HD.out.fz 4
  have z5 := HD.out.fz 5
  refine wp_region_K (fun w' => w'.cell? ⟨w.heap.size, 4, none⟩ = some (.string x.f) ∧ w'.cell? ⟨w.heap.size, 5, none⟩ = some (.string x.l)) 9 10 (by kernel_rfl) (by kernel_rfl) ⟨a4, a5⟩ (fun hH => ?_)
  refine tkK (i := 0) [9] rfl hH ?_
  try simp only [Act.put, tkA, tkB, tkC]
  refine tkK (i := 1) [9] rfl hH ?_
  try simp only [Act.put, tkA, tkB, tkC]
  refine tkK (i := 3) [9] rfl hH ?_
  try simp only [Act.put, tkA, tkB, tkC]
  refine tkK (i := 4) [9] rfl hH ?_
  try simp only [Act.put, tkA, tkB, tkC]
  refine wpAnyK_one (i := 2) (by kernel_rfl) rfl (fun K hK => ?_) (by kernel_rfl)
  go_simp
  go_at_call 20
  refine (clone_any _ x.f (by have := HF.out.1; omega)).mono ?_
  rintro e v3 ⟨rfl, hv3⟩
  have H3 := Lib.hid (HD.out.below hv3)
  clear a4 a5 z4 z5
  clear hv3
  have a4 := H3.out.a4
  have a5 := H3.out.a5
  have z4 := H3.out.fz 4
  have z5 := H3.out.fz 5
  refine hK.out _ _ ⟨H3.out.a4, H3.out.a5⟩ (fun hH => ?_)
  clear hK K
  try simp only [Act.put, tkA, tkB, tkC]
  refine tkK (i := 6) [9] rfl hH ?_
  try simp only [Act.put, tkA, tkB, tkC]
  refine wpAnyK_one (i := 5) (by kernel_rfl) rfl (fun K hK => ?_) (by kernel_rfl)
  go_simp
  go_at_call 20
  refine (clone_any _ x.l (by have := HF.out.2; omega)).mono ?_
  rintro e v4 ⟨rfl, hv4⟩
  have H4 := Lib.hid (H3.out.below hv4)
  clear a4 a5 z4 z5
  clear hv4
  have a4 := H4.out.a4
  have a5 := H4.out.a5
  have z4 := H4.out.fz 4
  have z5 := H4.out.fz 5
  refine hK.out _ _ ⟨H4.out.a4, H4.out.a5⟩ (fun hH => ?_)
  clear hK K
  try simp only [Act.put, tkA, tkB, tkC]
  refine wpAnyK_one (i := 7) (by kernel_rfl) rfl (fun K hK => ?_) (by kernel_rfl)
  go_simp
  have H5 := Lib.hid H4.out.set4
  clear a4 a5 z4 z5
  obtain ⟨v5, hv5⟩ : ∃ v5, v5 = v4.setCell ⟨w.heap.size, 4, none⟩ (.string x.f) := ⟨_, rfl⟩
  rw [← hv5] at H5 ⊢
  clear hv5
  have a4 := H5.out.a4
  have a5 := H5.out.a5
  have z4 := H5.out.fz 4
  have z5 := H5.out.fz 5
  refine hK.out _ _ ⟨H5.out.a4, H5.out.a5⟩ (fun hH => ?_)
  clear hK K
  try simp only [Act.put, tkA, tkB, tkC]
  refine tkK (i := 8) [9] rfl hH ?_
  try simp only [Act.put, tkA, tkB, tkC]
  refine wpAnyK_last (by kernel_rfl) rfl (fun K hK => ?_) (by kernel_rfl)
  go_simp
  refine hK.out _ _ (wpAnyK_done (by kernel_rfl) ?_ _)
  clear hK K hH
  have H6 := Lib.hid H5.out.set5
  clear a4 a5 z4 z5
  obtain ⟨w6, hw6⟩ : ∃ w6, w6 = v5.setCell ⟨w.heap.size, 5, none⟩ (.string x.l) := ⟨_, rfl⟩
  rw [← hw6] at H6 ⊢
  clear hw6
  have a0 := H6.out.a0
  have a1 := H6.out.a1
  have a2 := H6.out.a2
  have a3 := H6.out.a3
  have a4 := H6.out.a4
  have a5 := H6.out.a5
  have r0 := H6.out.r0
  have r1 := H6.out.r1
  have r2 := H6.out.r2
  have r3 := H6.out.r3
  have r4 := H6.out.r4
  have r5 := H6.out.r5
  have y0 := H6.out.rf 0
  have y1 := H6.out.rf 1
  have y2 := H6.out.rf 2
  have y3 := H6.out.rf 3
  have y4 := H6.out.rf 4
  have y5 := H6.out.rf 5
  go_wp2_with fail
  have q0 : ((((((w6.setCell ⟨w.heap.size + 1, 0, none⟩ (.int .i64 x.lv)).setCell ⟨w.heap.size + 1, 1, none⟩ (.int .i64 x.nu)).setCell ⟨w.heap.size + 1, 2, none⟩ (.int .i64 x.ct)).setCell ⟨w.heap.size + 1, 3, none⟩ (.int .i64 x.sz)).setCell ⟨w.heap.size + 1, 4, none⟩ (.string x.f)).setCell ⟨w.heap.size + 1, 5, none⟩ (.string x.l)).cell? ⟨w.heap.size + 1, 0, none⟩ = some (.int .i64 x.lv) := (cell_keep (cell_keep (cell_keep (cell_keep (cell_keep (World.cell?_setCell_same _ _ _ H6.out.r0) (by decide)) (by decide)) (by decide)) (by decide)) (by decide))
  have q1 : ((((((w6.setCell ⟨w.heap.size + 1, 0, none⟩ (.int .i64 x.lv)).setCell ⟨w.heap.size + 1, 1, none⟩ (.int .i64 x.nu)).setCell ⟨w.heap.size + 1, 2, none⟩ (.int .i64 x.ct)).setCell ⟨w.heap.size + 1, 3, none⟩ (.int .i64 x.sz)).setCell ⟨w.heap.size + 1, 4, none⟩ (.string x.f)).setCell ⟨w.heap.size + 1, 5, none⟩ (.string x.l)).cell? ⟨w.heap.size + 1, 1, none⟩ = some (.int .i64 x.nu) := (cell_keep (cell_keep (cell_keep (cell_keep (World.cell?_setCell_same _ _ _ (cell_keep H6.out.r1 (by decide))) (by decide)) (by decide)) (by decide)) (by decide))
  have q2 : ((((((w6.setCell ⟨w.heap.size + 1, 0, none⟩ (.int .i64 x.lv)).setCell ⟨w.heap.size + 1, 1, none⟩ (.int .i64 x.nu)).setCell ⟨w.heap.size + 1, 2, none⟩ (.int .i64 x.ct)).setCell ⟨w.heap.size + 1, 3, none⟩ (.int .i64 x.sz)).setCell ⟨w.heap.size + 1, 4, none⟩ (.string x.f)).setCell ⟨w.heap.size + 1, 5, none⟩ (.string x.l)).cell? ⟨w.heap.size + 1, 2, none⟩ = some (.int .i64 x.ct) := (cell_keep (cell_keep (cell_keep (World.cell?_setCell_same _ _ _ (cell_keep (cell_keep H6.out.r2 (by decide)) (by decide))) (by decide)) (by decide)) (by decide))
  have q3 : ((((((w6.setCell ⟨w.heap.size + 1, 0, none⟩ (.int .i64 x.lv)).setCell ⟨w.heap.size + 1, 1, none⟩ (.int .i64 x.nu)).setCell ⟨w.heap.size + 1, 2, none⟩ (.int .i64 x.ct)).setCell ⟨w.heap.size + 1, 3, none⟩ (.int .i64 x.sz)).setCell ⟨w.heap.size + 1, 4, none⟩ (.string x.f)).setCell ⟨w.heap.size + 1, 5, none⟩ (.string x.l)).cell? ⟨w.heap.size + 1, 3, none⟩ = some (.int .i64 x.sz) := (cell_keep (cell_keep (World.cell?_setCell_same _ _ _ (cell_keep (cell_keep (cell_keep H6.out.r3 (by decide)) (by decide)) (by decide))) (by decide)) (by decide))
  have q4 : ((((((w6.setCell ⟨w.heap.size + 1, 0, none⟩ (.int .i64 x.lv)).setCell ⟨w.heap.size + 1, 1, none⟩ (.int .i64 x.nu)).setCell ⟨w.heap.size + 1, 2, none⟩ (.int .i64 x.ct)).setCell ⟨w.heap.size + 1, 3, none⟩ (.int .i64 x.sz)).setCell ⟨w.heap.size + 1, 4, none⟩ (.string x.f)).setCell ⟨w.heap.size + 1, 5, none⟩ (.string x.l)).cell? ⟨w.heap.size + 1, 4, none⟩ = some (.string x.f) := (cell_keep (World.cell?_setCell_same _ _ _ (cell_keep (cell_keep (cell_keep (cell_keep H6.out.r4 (by decide)) (by decide)) (by decide)) (by decide))) (by decide))
  have q5 : ((((((w6.setCell ⟨w.heap.size + 1, 0, none⟩ (.int .i64 x.lv)).setCell ⟨w.heap.size + 1, 1, none⟩ (.int .i64 x.nu)).setCell ⟨w.heap.size + 1, 2, none⟩ (.int .i64 x.ct)).setCell ⟨w.heap.size + 1, 3, none⟩ (.int .i64 x.sz)).setCell ⟨w.heap.size + 1, 4, none⟩ (.string x.f)).setCell ⟨w.heap.size + 1, 5, none⟩ (.string x.l)).cell? ⟨w.heap.size + 1, 5, none⟩ = some (.string x.l) := (World.cell?_setCell_same _ _ _ (cell_keep (cell_keep (cell_keep (cell_keep (cell_keep H6.out.r5 (by decide)) (by decide)) (by decide)) (by decide)) (by decide)))
  (try simp only [Exit.inBlock, Exit.then])
  exact bodyPost_ret (results_cell1 rfl rfl (load_fi q0 q1 q2 q3 q4 q5)) rfl ⟨rfl, ((((((H6.out.bel.setCell (Nat.le_add_right _ _) _).setCell (Nat.le_add_right _ _) _).setCell (Nat.le_add_right _ _) _).setCell (Nat.le_add_right _ _) _).setCell (Nat.le_add_right _ _) _).setCell (Nat.le_add_right _ _) _)⟩
end Go.Proofs.YtjebpppjhkkebaaGreatDoor
