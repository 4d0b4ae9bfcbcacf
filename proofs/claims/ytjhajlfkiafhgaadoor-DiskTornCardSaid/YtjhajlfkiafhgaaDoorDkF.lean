/-
  Disk: what an act does to the files: Create.
-/
import Derived.Test.YtjhajlfkiafhgaaDoorDkE
import Derived.Test.YtjhajlfkiafhgaaDoorMpS
namespace Go.Proofs.YtjhajlfkiafhgaaDoor
open Go.RowKit
variable {F G : Nat → Prop} {w w' : World} {db mb : Nat} {D D' : Dk}

theorem clone_any (w : World) (d : ByteArray) (hd : d.size ≤ 140737488351232) : Calls Tryd.prog 31 #[.string d] w fun e w' => e = .returned (.string d) ∧ Below w.heap.size w w' := by
  go_enter Tryd.func31, Tryd.ntmps31
  go_wp2_with (go_at_call 46; refine (Tryd.stringslite_Clone d w (by omega)).mono ?_; rintro _ w' ⟨rfl, hb⟩; simp only [])
  go_ret
  exact ⟨rfl, hb⟩
theorem Dk.Ok.files (h : D.Ok) {m : Fm} (hm : ∀ p ∈ m, p ∈ D.m ∨ (p.1.size ≤ 64 ∧ p.2.syn ≤ p.2.data.size ∧ p.2.data.size ≤ 1048576)) (hl : m.length ≤ 20000) : ({ D with m := m } : Dk).Ok :=
  ⟨fun p hp => (hm p hp).elim (h.nam p) (fun h => h.1), fun p hp => (hm p hp).elim (h.syn p) (fun h => h.2), hl, h.acts, h.quota, h.fuse⟩
theorem Dk.Ok.set (h : D.Ok) {s : ByteArray} {f : Fl} (hs : s.size ≤ 64) (hf : f.syn ≤ f.data.size ∧ f.data.size ≤ 1048576) (hl : (setL D.m s f).length ≤ 20000) : ({ D with m := setL D.m s f } : Dk).Ok :=
  h.files (fun p hp => by
    rcases setL_mem hp with rfl | hp
    · exact .inr ⟨hs, hf⟩
    · exact .inl hp) hl
theorem Dk.Ok.del (h : D.Ok) {s : ByteArray} : ({ D with m := delL D.m s } : Dk).Ok :=
  h.files (fun p hp => .inl (delL_mem hp)) (Nat.le_trans (List.length_filter_le _ _) h.few)

set_option maxRecDepth 100000 in
set_option maxHeartbeats 1000000 in
theorem create1_does {bD bN : Nat} {s : ByteArray} (hD : w.cell? ⟨bD, 0, none⟩ = some (.pointer (some ⟨db, 0, none⟩))) (hN : w.cell? ⟨bN, 0, none⟩ = some (.string s)) (nD : ¬ two db mb bD) (nN : ¬ two db mb bN) (hs : s.size ≤ 64) (hl : (setL D.m s ⟨ByteArray.empty, 0⟩).length ≤ 20000) :
    Does F (fun _ => False) 30 #[.pointer (some ⟨bD, 0, none⟩), .pointer (some ⟨bN, 0, none⟩)] w db mb D (fun m => setL m s ⟨ByteArray.empty, 0⟩) := by
  intro w1 D1 h1 ht1 hm1
  have k1 := ht1.cell hD nD
  have k2 := ht1.cell hN nN
  have k3 := h1.c0
  have hs9 : s.size ≤ 140737488351232 := by omega
  have H := Lib.hid (And.intro h1 (And.intro hm1 (And.intro hs hl)))
  clear hD hN ht1 h1 hm1 hs hl nD nN
  go_enter Tryd.func30, Tryd.ntmps30
  go_wp2_with fail
  have kd1 : w1.drew.cell? ⟨bD, 0, none⟩ = some (.pointer (some ⟨db, 0, none⟩)) := k1
  have kd2 : w1.drew.cell? ⟨bN, 0, none⟩ = some (.string s) := k2
  have kd3 : w1.drew.cell? ⟨db, 0, none⟩ = some (.map (some mb)) := k3
  refine wp_region_K (fun w' => w'.cell? ⟨bD, 0, none⟩ = some (.pointer (some ⟨db, 0, none⟩)) ∧ w'.cell? ⟨bN, 0, none⟩ = some (.string s) ∧ w'.cell? ⟨db, 0, none⟩ = some (.map (some mb))) 7 8 (by kernel_rfl) (by kernel_rfl) ⟨kd1, kd2, kd3⟩ (fun hH => ?_)
  refine wpAnyK_take (i := 0) [7] (v := ?v1) rfl (by kernel_rfl) (by kernel_rfl) (by kernel_rfl) (by kernel_rfl) (fun _ _ _ h => h) (Or.inl ⟨by rfl, ?hy1⟩) hH ?rest1
  case hy1 => (intro w hSw; (try dsimp only at hSw); go_simp; with_reducible rfl)
  try simp only [Act.put, List.setIfInBounds_toArray, List.set_cons_zero, List.set_cons_succ]
  refine wpAnyK_take (i := 1) [7] (v := ?v2) rfl (by kernel_rfl) (by kernel_rfl) (by kernel_rfl) (by kernel_rfl) (fun _ _ _ h => h) (Or.inl ⟨by rfl, ?hy2⟩) hH ?rest2
  case hy2 => (intro w hSw; (try dsimp only at hSw); go_simp; with_reducible rfl)
  try simp only [Act.put, List.setIfInBounds_toArray, List.set_cons_zero, List.set_cons_succ]
  refine wpAnyK_take (i := 2) [7] (v := ?v3) rfl (by kernel_rfl) (by kernel_rfl) (by kernel_rfl) (by kernel_rfl) (fun _ _ _ h => h) (Or.inl ⟨by rfl, ?hy3⟩) hH ?rest3
  case hy3 => (intro w hSw; (try dsimp only at hSw); go_simp; with_reducible rfl)
  try simp only [Act.put, List.setIfInBounds_toArray, List.set_cons_zero, List.set_cons_succ]
  refine wpAnyK_take (i := 3) [7] (v := ?v4) rfl (by kernel_rfl) (by kernel_rfl) (by kernel_rfl) (by kernel_rfl) (fun _ _ _ h => h) (Or.inl ⟨by rfl, ?hy4⟩) hH ?rest4
  case hy4 => (intro w hSw; (try dsimp only at hSw); go_simp; with_reducible rfl)
  try simp only [Act.put, List.setIfInBounds_toArray, List.set_cons_zero, List.set_cons_succ]
  refine wpAnyK_take (i := 4) [7] (v := ?v5) rfl (by kernel_rfl) (by kernel_rfl) (by kernel_rfl) (by kernel_rfl) (fun _ _ _ h => h) (Or.inl ⟨by rfl, ?hy5⟩) hH ?rest5
  case hy5 => (intro w hSw; (try dsimp only at hSw); go_simp; with_reducible rfl)
  try simp only [Act.put, List.setIfInBounds_toArray, List.set_cons_zero, List.set_cons_succ]
  refine wpAnyK_take (i := 6) [7] (v := ?v6) rfl (by kernel_rfl) (by kernel_rfl) (by kernel_rfl) (by kernel_rfl) (fun _ _ _ h => h) (Or.inl ⟨by rfl, ?hy6⟩) hH ?rest6
  case hy6 => (intro w hSw; (try dsimp only at hSw); go_simp; with_reducible rfl)
  try simp only [Act.put, List.setIfInBounds_toArray, List.set_cons_zero, List.set_cons_succ]
  refine wpAnyK_one (i := 5) (by kernel_rfl) rfl (fun K hK => ?_) (by kernel_rfl)
  go_simp
  go_at_call 31
  refine (clone_any _ s hs9).mono ?_
  rintro e w2 ⟨rfl, hb2⟩
  have e1 := (hb2.cell (p := ⟨bD, 0, none⟩) (World.block_lt_of_cell? _ _ kd1)).trans kd1
  have e2 := (hb2.cell (p := ⟨bN, 0, none⟩) (World.block_lt_of_cell? _ _ kd2)).trans kd2
  have e3 := (hb2.cell (p := ⟨db, 0, none⟩) (World.block_lt_of_cell? _ _ kd3)).trans kd3
  have HB := Lib.hid (show Below w1.heap.size w1 w2 from (Below.refl _ _).drew.trans hb2)
  clear hb2
  refine hK.out _ _ ⟨e1, e2, e3⟩ (fun hH => ?_)
  clear hK K
  try simp only [Act.put, List.setIfInBounds_toArray, List.set_cons_zero, List.set_cons_succ]
  have hd2 := H.out.1.below HB.out
  refine wpAnyK_last (by kernel_rfl) rfl (fun K hK => ?_) (by kernel_rfl)
  refine step_put rfl _ _ _ rfl keyN und_map rfl hd2.m s rfl ⟨ByteArray.empty, 0⟩ rfl ?_
  intro w3 hm3 ht3 hz3
  refine hK.out _ _ (wpAnyK_done (by kernel_rfl) ?_ _)
  clear hK K hH
  have hfin := hd2.setM ht3 hm3 (hd2.ok.set H.out.2.2.1 ⟨Nat.le_refl _, by decide⟩ (by rw [H.out.2.1]; exact H.out.2.2.2))
  have HF := Lib.hid (And.intro hfin ((Tn.ofBelow (F := fun q => two db mb q ∨ False) HB.out).trans (ht3.mono (fun q hq => .inl (.inr hq)))))
  clear hfin hm3 ht3 hz3 hd2 e1 e2 e3 kd1 kd2 kd3 k1 k2 k3
  go_wp2_with fail
  go_end0
  exact ⟨rfl, HF.out.1, by simpa using HF.out.2⟩
end Go.Proofs.YtjhajlfkiafhgaaDoor
