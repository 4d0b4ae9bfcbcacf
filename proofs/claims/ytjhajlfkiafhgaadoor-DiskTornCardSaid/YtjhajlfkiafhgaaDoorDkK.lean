/-
  Disk: an act, whatever the fuse.
-/
import Derived.Test.YtjhajlfkiafhgaaDoorDkJ
namespace Go.Proofs.YtjhajlfkiafhgaaDoor
open Go.RowKit
variable {F G : Nat → Prop} {w w' : World} {db mb : Nat} {D D' : Dk}

set_option maxRecDepth 100000 in
set_option maxHeartbeats 2000000 in
theorem act_burn (h : DkAt F w db mb D) (hon : D.on = true) {z : Fz} (hz : D.fuse = some z) (hz0 : z.n = 0) (fv : Value) :
    Calls Tryd.prog 29 #[.pointer (some ⟨db, 0, none⟩), fv] w fun e w' => e = .returned (.int .i64 20) ∧ DkAt F w' db mb (Dk.crash { D with fuse := none } z.cuts z.flip) ∧ Tn (two db mb) w w' := by
  obtain ⟨p, hp, hzp⟩ := h.c3
  rw [hz] at hzp
  obtain ⟨fb, v, rfl, hfF, hfl, q0, q1, q2, hrd⟩ := hzp
  have hcl := (h.ok.fuse z hz).2
  have hd1 : DkAt F (w.setCell ⟨db, 3, none⟩ (.pointer none)) db mb { D with fuse := none } := h.set3 (z := none) (p := .pointer none) rfl (fun y hy => by cases hy)
  have ht1 : Tn (two db mb) w (w.setCell ⟨db, 3, none⟩ (.pointer none)) := Tn.setCell _ _ _ (.inl rfl)
  have hne : db ≠ fb := fun e => hfF (e ▸ h.fd)
  have hrd1 := hrd.tn ht1 (fun q _ hq => two_F h q hq)
  obtain ⟨av, cv, rfl, hrr⟩ := hrd
  obtain ⟨vl, hvl⟩ : ∃ vl, z.cuts.length = vl := ⟨_, rfl⟩
  obtain ⟨fl, hfl2⟩ : ∃ fl, z.flip = fl := ⟨_, rfl⟩
  rw [hvl] at q1 hrd1
  rw [hfl2] at q2 ⊢
  rw [hz0] at q0
  have k1 : (w.setCell ⟨db, 3, none⟩ (.pointer none)).cell? ⟨fb, 1, none⟩ = some (.slice av vl cv) := ht1.cell q1 (fun hq => hfF (two_F h _ hq))
  have k2 : (w.setCell ⟨db, 3, none⟩ (.pointer none)).cell? ⟨fb, 2, none⟩ = some (.int .i64 fl) := ht1.cell q2 (fun hq => hfF (two_F h _ hq))
  have fd3 := h.fz 3
  have H := Lib.hid (And.intro hd1 (And.intro ht1 (And.intro hrd1 hcl)))
  clear h hz hz0 hfF hrr hvl hfl2 hd1 ht1 hrd1 hcl
  go_enter Tryd.func29, Tryd.ntmps29
  go_wp2_with fail
  obtain ⟨w1, hw1⟩ : ∃ w1, w.setCell ⟨db, 3, none⟩ (.pointer none) = w1 := ⟨_, rfl⟩
  rw [hw1] at H k1 k2 ⊢
  clear hw1
  have kd1 : w1.drew.cell? ⟨fb, 1, none⟩ = some (.slice av vl cv) := k1
  have kd2 : w1.drew.cell? ⟨fb, 2, none⟩ = some (.int .i64 fl) := k2
  refine wp_region_K (fun w' => w'.cell? ⟨fb, 1, none⟩ = some (.slice av vl cv) ∧ w'.cell? ⟨fb, 2, none⟩ = some (.int .i64 fl)) 9 10 (by kernel_rfl) (by kernel_rfl) ⟨kd1, kd2⟩ (fun hH => ?_)
  refine wpAnyK_take (i := 0) [9] (v := ?v1) rfl (by kernel_rfl) (by kernel_rfl) (by kernel_rfl) (by kernel_rfl) (fun _ _ _ h => h) (Or.inl ⟨by rfl, ?hy1⟩) hH ?rest1
  case hy1 => (intro w hSw; (try dsimp only at hSw); go_simp; with_reducible rfl)
  try simp only [Act.put, List.setIfInBounds_toArray, List.set_cons_zero, List.set_cons_succ]
  refine wpAnyK_take (i := 1) [2, 3, 4, 9] (v := ?v2) rfl (by kernel_rfl) (by kernel_rfl) (by kernel_rfl) (by kernel_rfl) (fun _ _ _ h => h) (Or.inl ⟨by rfl, ?hy2⟩) hH ?rest2
  case hy2 => (intro w hSw; (try dsimp only at hSw); go_simp; with_reducible rfl)
  try simp only [Act.put, List.setIfInBounds_toArray, List.set_cons_zero, List.set_cons_succ]
  refine wpAnyK_take (i := 2) [3, 4, 9] (v := ?v3) rfl (by kernel_rfl) (by kernel_rfl) (by kernel_rfl) (by kernel_rfl) (fun _ _ _ h => h) (Or.inl ⟨by rfl, ?hy3⟩) hH ?rest3
  case hy3 => (intro w hSw; (try dsimp only at hSw); go_simp; with_reducible rfl)
  try simp only [Act.put, List.setIfInBounds_toArray, List.set_cons_zero, List.set_cons_succ]
  refine wpAnyK_take (i := 3) [4, 9] (v := ?v4) rfl (by kernel_rfl) (by kernel_rfl) (by kernel_rfl) (by kernel_rfl) (fun _ _ _ h => h) (Or.inl ⟨by rfl, ?hy4⟩) hH ?rest4
  case hy4 => (intro w hSw; (try dsimp only at hSw); go_simp; with_reducible rfl)
  try simp only [Act.put, List.setIfInBounds_toArray, List.set_cons_zero, List.set_cons_succ]
  refine wpAnyK_take (i := 4) [9] (v := ?v5) rfl (by kernel_rfl) (by kernel_rfl) (by kernel_rfl) (by kernel_rfl) (fun _ _ _ h => h) (Or.inl ⟨by rfl, ?hy5⟩) hH ?rest5
  case hy5 => (intro w hSw; (try dsimp only at hSw); go_simp; with_reducible rfl)
  try simp only [Act.put, List.setIfInBounds_toArray, List.set_cons_zero, List.set_cons_succ]
  refine wpAnyK_take (i := 5) [6, 7, 8, 9] (v := ?v6) rfl (by kernel_rfl) (by kernel_rfl) (by kernel_rfl) (by kernel_rfl) (fun _ _ _ h => h) (Or.inl ⟨by rfl, ?hy6⟩) hH ?rest6
  case hy6 => (intro w hSw; (try dsimp only at hSw); go_simp; with_reducible rfl)
  try simp only [Act.put, List.setIfInBounds_toArray, List.set_cons_zero, List.set_cons_succ]
  refine wpAnyK_take (i := 6) [7, 8, 9] (v := ?v7) rfl (by kernel_rfl) (by kernel_rfl) (by kernel_rfl) (by kernel_rfl) (fun _ _ _ h => h) (Or.inl ⟨by rfl, ?hy7⟩) hH ?rest7
  case hy7 => (intro w hSw; (try dsimp only at hSw); go_simp; with_reducible rfl)
  try simp only [Act.put, List.setIfInBounds_toArray, List.set_cons_zero, List.set_cons_succ]
  refine wpAnyK_take (i := 7) [8, 9] (v := ?v8) rfl (by kernel_rfl) (by kernel_rfl) (by kernel_rfl) (by kernel_rfl) (fun _ _ _ h => h) (Or.inl ⟨by rfl, ?hy8⟩) hH ?rest8
  case hy8 => (intro w hSw; (try dsimp only at hSw); go_simp; with_reducible rfl)
  try simp only [Act.put, List.setIfInBounds_toArray, List.set_cons_zero, List.set_cons_succ]
  refine wpAnyK_take (i := 8) [9] (v := ?v9) rfl (by kernel_rfl) (by kernel_rfl) (by kernel_rfl) (by kernel_rfl) (fun _ _ _ h => h) (Or.inl ⟨by rfl, ?hy9⟩) hH ?rest9
  case hy9 => (intro w hSw; (try dsimp only at hSw); go_simp; with_reducible rfl)
  try simp only [Act.put, List.setIfInBounds_toArray, List.set_cons_zero, List.set_cons_succ]
  refine wpAnyK_last (by kernel_rfl) rfl (fun K hK => ?_) (by kernel_rfl)
  go_simp
  go_at_call 18
  have hb1 : Below w1.heap.size w1 w1.drew := (Below.refl _ _).drew
  refine (crash_any (H.out.1.below hb1) hon (H.out.2.2.1.tn (Tn.ofBelow (F := fun _ => False) hb1) (fun _ _ e => e.elim)) H.out.2.2.2 fl).mono ?_
  rintro e w2 ⟨rfl, hd2, ht2⟩
  refine hK.out _ _ (wpAnyK_done (by kernel_rfl) ?_ _)
  clear hK K hH
  have HF := Lib.hid (And.intro hd2 (H.out.2.1.trans ((Tn.ofBelow hb1).trans ht2)))
  clear hd2 ht2 hb1 kd1 kd2 k1 k2
  go_wp2
  go_ret
  exact ⟨rfl, HF.out.1, HF.out.2⟩

/-- An act. -/
theorem act_any (h : DkAt F w db mb D) (hon : D.on = true) (ha : D.acts < 1000000) {fk : FuncId} {caps : Array Value} {f : Fm → Fm} (eg : ∀ args w, (callFunc fk args).run Tryd.prog w = .ok (.enter fk args) w) (hdo : Does F G fk caps w db mb D f) :
    Calls Tryd.prog 29 #[.pointer (some ⟨db, 0, none⟩), .func (.func fk) #[] caps] w fun e w' => e = .returned (.int .i64 (D.act f).1) ∧ DkAt F w' db mb (D.act f).2 ∧ Tn (fun q => two db mb q ∨ G q) w w' := by
  cases hz : D.fuse with
  | none =>
    have h0 : ∀ z, D.fuse = some z → z.n ≠ 0 := fun z e => by rw [hz] at e; cases e
    have := act_live h h0 ha eg hdo
    rw [D.act_live f h0] at this ⊢
    exact this
  | some z =>
    rcases Nat.eq_zero_or_pos z.n with hn | hn
    · have hact : D.act f = (20, Dk.crash { D with fuse := none } z.cuts z.flip) := by
        obtain ⟨n, c, fl⟩ := z
        simp only at hn
        subst hn
        unfold Dk.act
        rw [hz]
      rw [hact]
      refine (act_burn h hon hz hn _).mono ?_
      rintro e w' ⟨rfl, h1, h2⟩
      exact ⟨rfl, h1, h2.mono (fun q hq => .inl hq)⟩
    · have h0 : ∀ y, D.fuse = some y → y.n ≠ 0 := fun y e => by rw [hz] at e; cases e; omega
      have := act_live h h0 ha eg hdo
      rw [D.act_live f h0] at this ⊢
      exact this
end Go.Proofs.YtjhajlfkiafhgaaDoor
