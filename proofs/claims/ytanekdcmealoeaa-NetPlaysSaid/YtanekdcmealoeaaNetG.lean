/-
  The walk of the closure that sends a message once more.
-/
import Derived.Test.YtanekdcmealoeaaNetF
import Derived.Deep.AppendLies
namespace Go.Proofs.Ytanekdcmealoeaa
open Go.RowKit Go.Maps

theorem alloc_block (w : World) (o : Obj) : (w.alloc o).drew.heap[w.heap.size]? = some o := by
  show (w.heap.push o)[w.heap.size]? = some o
  simp

/-- append of one message, as a step of a region that draws its order. -/
theorem step_append_m {w : World} {ops : Array Oper} {o : Oper} {a : Act} {K : Act → World → Prop} {Q : Exit → Act → World → Prop} {E : Prop} (hgd : o.guard = none) (s x : Operand)
    (ho : o.op = .call { callee := .builtin .append, args := #[s, x], argTypes := #[48, 48] }) (v : Value) (l : List Msg) (hs : a.eval s = v) (hown : OwnM w v l) (m : Msg)
    (ad : Addr) (c : Nat) (hx : a.eval x = .slice (some ad) 1 c) (hnews : ∀ j u, (mCell m)[j]? = some u → w.cell? (ad.add j) = some u) (hlen : l.length ≤ 400)
    (h : ∀ g cap w', OwnM w' (.slice (some ⟨g, 0, none⟩) (l.length + 1) cap) (l ++ [m]) → w.grownBy w' v.ownBlock → (v.ownBlock = some g ∨ g = w.heap.size) → g < w'.heap.size → K (a.put o.dst (.slice (some ⟨g, 0, none⟩) (l.length + 1) cap)) w') :
    if Region.wanted o (yielded ops a.tmps) = true then Oper.wp Try.prog o a w K Q else E := by
  obtain ⟨i, hi, hz, hsz, hby⟩ := info_parts info55
  refine step_append_lies w hgd s x 48 ho 0 55 i (.agg #[.int .i64 0, .int .i64 0, .string ⟨#[]⟩]) 3 32 Try.underlying48 hi hz hsz hby rfl (by decide) v l.length (mCells l) hs hown ad 1 c (mCell m) hx rfl hnews ?_ (by decide) (by unfold maxLen; omega) (by omega) (Nat.zero_le _) _ rfl ?_
  · intro u hu
    simp only [mCell, List.mem_cons, List.not_mem_nil, or_false] at hu
    rcases hu with rfl | rfl | rfl <;> rfl
  · intro g cap w' h2 h3 h4 h5
    refine h g cap w' ?_ h3 h4 h5
    show w'.ownsRow 0 55 3 _ _ _
    rw [List.length_append, mCells_append]
    simpa [mCells] using h2

set_option maxRecDepth 100000 in
/-- Twice$1, with no room. -/
theorem twice1_full {W : World} {nb mb : Nat} {lv : Value} {c : Nat} {s : St} (h : NetAt W nb mb lv c s) (hf : 400 ≤ s.l.length) (m : Msg) (b0 : Nat) (k0 : W.cell? ⟨b0, 0, none⟩ = some (.pointer (some ⟨nb, 0, none⟩))) :
    Calls Try.prog 33 #[mVal m, .pointer (some ⟨b0, 0, none⟩)] W fun e w' => e = errPanic 24 ∧ Below W.heap.size W w' := by
  unfold mVal
  obtain ⟨a0, cap, rfl, hcap, hcm⟩ := h.form
  have b1 : Below W.heap.size W (W.alloc (.cells #[.int .i64 m.f, .int .i64 m.t, .string m.d] 55)) := (Below.refl _ _).alloc (Nat.le_refl _) _
  have h' := h.turn (Tn.alloc (F := fun _ => False) W (.cells #[.int .i64 m.f, .int .i64 m.t, .string m.d] 55)) (fun _ _ e => e)
  have k0' := (Tn.alloc (F := fun _ => False) W (.cells #[.int .i64 m.f, .int .i64 m.t, .string m.d] 55)).cell k0 (fun e => e)
  generalize hw1 : W.alloc (.cells #[.int .i64 m.f, .int .i64 m.t, .string m.d] 55) = W1 at *
  have h1 := h'.c1
  obtain ⟨n, hn⟩ : ∃ n, n = s.l.length := ⟨_, rfl⟩
  rw [← hn] at h1 hf
  have t1 : decide ((400 : Int) ≤ (n : Int)) = true := by simp; omega
  have t1n : 400 ≤ n := hf
  have HB := Lib.hid b1
  clear h h' hn hcap hcm b1 k0
  go_enter Try.func33, Try.ntmps33
  go_wp2
  exact ⟨rfl, rfl, HB.out⟩

set_option maxRecDepth 100000 in
set_option maxHeartbeats 400000 in
/-- Twice$1: the message stands at the end once more. -/
theorem twice1_any {W : World} {nb mb : Nat} {lv : Value} {c : Nat} {s : St} (h : NetAt W nb mb lv c s) (hf : s.l.length < 400) (m : Msg) (b0 : Nat) (k0 : W.cell? ⟨b0, 0, none⟩ = some (.pointer (some ⟨nb, 0, none⟩))) (f0 : ¬ Foot nb mb lv b0) :
    Calls Try.prog 33 #[mVal m, .pointer (some ⟨b0, 0, none⟩)] W fun e w' => e = .returned (.tuple #[]) ∧ ∃ lv', NetAt w' nb mb lv' c (s.add m) ∧ Step nb mb lv W lv' w' := by
  unfold mVal
  have hW1 := Tn.alloc (F := fun _ => False) W (.cells #[.int .i64 m.f, .int .i64 m.t, .string m.d] 55)
  have hm0 : (W.alloc (.cells #[.int .i64 m.f, .int .i64 m.t, .string m.d] 55)).cell? ⟨W.heap.size, 0, none⟩ = some (.int .i64 m.f) := by simp [go_sem]
  have hm1 : (W.alloc (.cells #[.int .i64 m.f, .int .i64 m.t, .string m.d] 55)).cell? ⟨W.heap.size, 1, none⟩ = some (.int .i64 m.t) := by simp [go_sem]
  have hm2 : (W.alloc (.cells #[.int .i64 m.f, .int .i64 m.t, .string m.d] 55)).cell? ⟨W.heap.size, 2, none⟩ = some (.string m.d) := by simp [go_sem]
  have h' := h.turn hW1 (fun _ _ e => e)
  have k0' := hW1.cell k0 (fun e => e)
  generalize hw1 : W.alloc (.cells #[.int .i64 m.f, .int .i64 m.t, .string m.d] 55) = W1 at *
  obtain ⟨a0, cap, hlv, hcap, hcm⟩ := h.form
  have h1 : W1.cell? ⟨nb, 1, none⟩ = some (.slice a0 s.l.length cap) := by rw [← hlv]; exact h'.c1
  obtain ⟨n, hn⟩ : ∃ n, n = s.l.length := ⟨_, rfl⟩
  rw [← hn] at h1
  have t1 : decide ((400 : Int) ≤ (n : Int)) = false := by simp; omega
  have t1n : ¬ 400 ≤ n := by omega
  have HN := Lib.hid h'
  have HT := Lib.hid hW1
  have HL := Lib.hid (And.intro hlv hn)
  have HO := Lib.hid (And.intro h f0)
  have hsz : W.heap.size < W1.heap.size := by rw [← hw1]; simp
  have HZ := Lib.hid hsz
  clear h h' hW1 hlv hn hcap hcm k0 f0 hf hsz
  go_enter Try.func33, Try.ntmps33
  go_wp2_with fail
  have kd0 : W1.drew.cell? ⟨b0, 0, none⟩ = some (.pointer (some ⟨nb, 0, none⟩)) := k0'
  have kd1 : W1.drew.cell? ⟨nb, 1, none⟩ = some (.slice a0 n cap) := h1
  have ke0 : W1.drew.cell? ⟨W.heap.size, 0, none⟩ = some (.int .i64 m.f) := hm0
  have ke1 : W1.drew.cell? ⟨W.heap.size, 1, none⟩ = some (.int .i64 m.t) := hm1
  have ke2 : W1.drew.cell? ⟨W.heap.size, 2, none⟩ = some (.string m.d) := hm2
  have HNd := Lib.hid (HN.out.turn (Tn.drew (F := fun _ => False) W1) (fun _ _ e => e))
  clear hm0 hm1 hm2 k0' h1 hw1
  refine wp_region_K (fun w' => w'.cell? ⟨b0, 0, none⟩ = some (.pointer (some ⟨nb, 0, none⟩)) ∧ w'.cell? ⟨nb, 1, none⟩ = some (.slice a0 n cap) ∧ w'.cell? ⟨W.heap.size, 0, none⟩ = some (.int .i64 m.f) ∧ w'.cell? ⟨W.heap.size, 1, none⟩ = some (.int .i64 m.t) ∧ w'.cell? ⟨W.heap.size, 2, none⟩ = some (.string m.d)) 10 11 (by kernel_rfl) (by kernel_rfl) ⟨kd0, kd1, ke0, ke1, ke2⟩ (fun hH => ?_)
  refine wpAnyK_take (i := 0) (v := ?v1) rfl (by kernel_rfl) (by kernel_rfl) (by kernel_rfl) (by kernel_rfl) (fun _ _ _ h => h) (Or.inl ⟨by rfl, ?hy1⟩) hH ?rest1
  case hy1 => (intro w hSw; (try dsimp only at hSw); go_simp; with_reducible rfl)
  try simp only [Act.put, List.setIfInBounds_toArray, List.set_cons_zero, List.set_cons_succ]
  refine wpAnyK_take (i := 1) (v := ?v2) rfl (by kernel_rfl) (by kernel_rfl) (by kernel_rfl) (by kernel_rfl) (fun _ _ _ h => h) (Or.inl ⟨by rfl, ?hy2⟩) hH ?rest2
  case hy2 => (intro w hSw; (try dsimp only at hSw); go_simp; with_reducible rfl)
  try simp only [Act.put, List.setIfInBounds_toArray, List.set_cons_zero, List.set_cons_succ]
  refine wpAnyK_take (i := 2) (v := ?v3) rfl (by kernel_rfl) (by kernel_rfl) (by kernel_rfl) (by kernel_rfl) (fun _ _ _ h => h) (Or.inl ⟨by rfl, ?hy3⟩) hH ?rest3
  case hy3 => (intro w hSw; (try dsimp only at hSw); go_simp; with_reducible rfl)
  try simp only [Act.put, List.setIfInBounds_toArray, List.set_cons_zero, List.set_cons_succ]
  refine wpAnyK_take (i := 3) (v := ?v4) rfl (by kernel_rfl) (by kernel_rfl) (by kernel_rfl) (by kernel_rfl) (fun _ _ _ h => h) (Or.inl ⟨by rfl, ?hy4⟩) hH ?rest4
  case hy4 => (intro w hSw; (try dsimp only at hSw); go_simp; with_reducible rfl)
  try simp only [Act.put, List.setIfInBounds_toArray, List.set_cons_zero, List.set_cons_succ]
  refine wpAnyK_take (i := 4) (v := ?v5) rfl (by kernel_rfl) (by kernel_rfl) (by kernel_rfl) (by kernel_rfl) (fun _ _ _ h => h) (Or.inl ⟨by rfl, ?hy5⟩) hH ?rest5
  case hy5 => (intro w hSw; (try dsimp only at hSw); go_simp; with_reducible rfl)
  try simp only [Act.put, List.setIfInBounds_toArray, List.set_cons_zero, List.set_cons_succ]
  refine wpAnyK_take (i := 5) (v := ?v6) rfl (by kernel_rfl) (by kernel_rfl) (by kernel_rfl) (by kernel_rfl) (fun _ _ _ h => h) (Or.inl ⟨by rfl, ?hy6⟩) hH ?rest6
  case hy6 => (intro w hSw; (try dsimp only at hSw); go_simp; with_reducible rfl)
  try simp only [Act.put, List.setIfInBounds_toArray, List.set_cons_zero, List.set_cons_succ]
  refine wpAnyK_one (i := 6) (by kernel_rfl) rfl (fun K hK => ?_) (by kernel_rfl)
  go_simp
  obtain ⟨w1, hw1⟩ : ∃ w1, w1 = (W1.alloc (.cells #[.int .i64 m.f, .int .i64 m.t, .string m.d] 55)).drew := ⟨_, rfl⟩
  have hta : Tn (fun _ => False) W1.drew w1 := by rw [hw1]; exact Tn.alloc W1.drew (.cells #[.int .i64 m.f, .int .i64 m.t, .string m.d] 55)
  have hnews : ∀ j u, (mCell m)[j]? = some u → w1.cell? ((⟨W1.heap.size, 0, none⟩ : Addr).add j) = some u := by
    rw [hw1]
    exact World.news_of_block (cs := #[.int .i64 m.f, .int .i64 m.t, .string m.d]) (t := 55) (alloc_block W1 _)
  rw [← hw1]
  clear hw1
  have qd0 := hta.cell kd0 (fun e => e)
  have qd1 := hta.cell kd1 (fun e => e)
  have qe0 := hta.cell ke0 (fun e => e)
  have qe1 := hta.cell ke1 (fun e => e)
  have qe2 := hta.cell ke2 (fun e => e)
  have HN1 := Lib.hid (HNd.out.turn hta (fun _ _ e => e))
  refine hK.out _ _ ⟨qd0, qd1, qe0, qe1, qe2⟩ (fun hH => ?_)
  clear hK K
  try simp only [Act.put, List.setIfInBounds_toArray, List.set_cons_zero, List.set_cons_succ]
  refine wpAnyK_one (i := 7) (by kernel_rfl) rfl (fun K hK => ?_) (by kernel_rfl)
  have hlv2 : lv = .slice a0 n cap := by rw [HL.out.2]; exact HL.out.1
  refine step_append_m rfl (.tmp 14) (.tmp 16) rfl lv s.l hlv2.symm HN1.out.row m ⟨W1.heap.size, 0, none⟩ 1 rfl hnews HN.out.len ?_
  intro g cap' w2 hown2 hg2 hgs2 hlt2
  have ht2 : Tn (fun k => lv.ownBlock = some k) w1 w2 := Tn.ofGrown hg2 (fun _ e => e)
  have gn : ¬ lv.ownBlock = some nb := HN.out.nl
  have g0 : ¬ lv.ownBlock = some b0 := fun e => HO.out.2 (Or.inr (Or.inr e))
  have gw : ¬ lv.ownBlock = some W.heap.size := fun e => Nat.lt_irrefl _ (HO.out.1.foot_lt _ (Or.inr (Or.inr e)))
  have r0 := ht2.cell qd0 g0
  have r1 := ht2.cell qd1 gn
  have r2 := ht2.cell qe0 gw
  have r3 := ht2.cell qe1 gw
  have r4 := ht2.cell qe2 gw
  have rf : w2.frozen? ⟨nb, 1, none⟩ = false := (ht2.frozen (World.block_lt_of_cell? _ _ qd1) gn).trans (HN1.out.fz 1)
  refine hK.out _ _ ⟨r0, r1, r2, r3, r4⟩ (fun hH => ?_)
  clear hK K
  try simp only [Act.put, List.setIfInBounds_toArray, List.set_cons_zero, List.set_cons_succ]
  refine wpAnyK_one (i := 8) (by kernel_rfl) rfl (fun K hK => ?_) (by kernel_rfl)
  go_simp
  refine hK.out _ _ hH (fun _ => ?_)
  clear hK K
  try simp only [Act.put, List.setIfInBounds_toArray, List.set_cons_zero, List.set_cons_succ]
  refine wpAnyK_one (i := 9) (by kernel_rfl) rfl (fun K hK => ?_) (by kernel_rfl)
  go_simp
  refine hK.out _ _ hH (fun _ => ?_)
  clear hK K
  try simp only [Act.put, List.setIfInBounds_toArray, List.set_cons_zero, List.set_cons_succ]
  refine wpAnyK_last (by kernel_rfl) rfl (fun K hK => ?_) (by kernel_rfl)
  go_simp
  refine hK.out _ _ (wpAnyK_done (by kernel_rfl) ?_ _)
  go_end0
  have hgb : g = nb → False := fun e => hgs2.elim (fun h => HN.out.nl (e ▸ h)) (fun h => by have := HN1.out.lt; omega)
  have hgm : g = mb → False := fun e => hgs2.elim (fun h => HN.out.ml (e ▸ h)) (fun h => by have := HN1.out.foot_lt mb (Or.inr (Or.inl rfl)); omega)
  refine ⟨rfl, _, NetAt.relist (l' := s.l ++ [m]) HN1.out ht2 gn HN.out.ml ?_ (fun e => hgb (by simpa [Value.ownBlock] using e)) (fun e => hgm (by simpa [Value.ownBlock] using e)) (by rw [List.length_append]; have := HL.out.2; simp; omega), ?_, ?_⟩
  · simpa [HL.out.2] using hown2
  · exact (HT.out.mono (fun _ e => e.elim)).trans ((Tn.drew _).trans ((hta.mono (fun _ e => e.elim)).trans ((ht2.mono (fun k e => Or.inr (Or.inr e))).trans (Tn.setCell _ _ _ (Or.inl rfl)))))
  · intro k hk
    have e : g = k := by simpa [Value.ownBlock] using hk
    subst e
    exact hgs2.imp id (fun h => by have := hta.size; have := HZ.out; have e : W1.drew.heap.size = W1.heap.size := rfl; omega)
end Go.Proofs.Ytanekdcmealoeaa
