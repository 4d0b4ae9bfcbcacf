/-
  The walk of Send where the message goes on its way; New.
-/
import Derived.Test.YtanekdcmealoeaaNetL
namespace Go.Proofs.Ytanekdcmealoeaa
open Go.RowKit Go.Maps

set_option maxRecDepth 100000 in
set_option maxHeartbeats 400000 in
theorem send_ok {w : World} {nb mb : Nat} {lv : Value} {c : Nat} {s : St} (h : NetAt w nb mb lv c s) (a b : Int) (d : ByteArray) (hw : s.way a b = true) (hd : d.size ≤ 65536) (hc : s.cut a b = false) (hl : s.l.length < 400) :
    Calls Try.prog 10 #[.pointer (some ⟨nb, 0, none⟩), .int .i64 a, .int .i64 b, .string d] w fun e w' => e = .returned (.int .i64 0) ∧ ∃ lv', NetAt w' nb mb lv' c (s.add ⟨a, b, d⟩) ∧ Step nb mb lv w lv' w' := by
  obtain ⟨ha, hb⟩ := way_wf hw h.n8
  obtain ⟨a0, cap, hlv, hcap, hcm⟩ := h.form
  have HN := Lib.hid h
  have HAB := Lib.hid (And.intro ha hb)
  have t1 : decide ((65536 : Int) < (d.size : Int)) = false := by simp; omega
  have t1n : ¬ 65536 < d.size := by omega
  obtain ⟨n, hn⟩ : ∃ n, n = s.l.length := ⟨_, rfl⟩
  have t2 : decide ((400 : Int) ≤ (n : Int)) = false := by simp; omega
  have t2n : ¬ 400 ≤ n := by omega
  have HL := Lib.hid (And.intro hlv hn)
  have HD := Lib.hid hd
  clear h ha hb hd hcap hcm hn hl hlv
  go_enter Try.func10, Try.ntmps10
  go_wp2_with (go_at_call 26; refine (ways_any HN.out a b).mono ?_; rintro _ _ ⟨rfl, rfl⟩; simp only [hw])
  refine (iscut_any HN.out a b HAB.out.1 HAB.out.2).mono ?_
  rintro e W1 ⟨rfl, hb1⟩
  simp only [hc]
  have HB := Lib.hid hb1
  have H1 := Lib.hid (HN.out.below hb1)
  have k1 : W1.cell? ⟨nb, 1, none⟩ = some (.slice a0 n cap) := by
    have := H1.out.c1
    rw [HL.out.1, ← HL.out.2] at this
    exact this
  clear hb1
  go_wp2_with fail
  have kd1 : W1.drew.cell? ⟨nb, 1, none⟩ = some (.slice a0 n cap) := k1
  have HNd := Lib.hid (H1.out.turn (Tn.drew (F := fun _ => False) W1) (fun _ _ e => e))
  refine wp_region_K (fun w' => w'.cell? ⟨nb, 1, none⟩ = some (.slice a0 n cap)) 14 15 (by kernel_rfl) (by kernel_rfl) kd1 (fun hH => ?_)
  refine wpAnyK_take (i := 0) (v := ?v1) rfl (by kernel_rfl) (by kernel_rfl) (by kernel_rfl) (by kernel_rfl) (fun _ _ _ h => h) (Or.inl ⟨by rfl, ?hy1⟩) hH ?rest1
  case hy1 => (intro w hSw; (try dsimp only at hSw); go_simp; with_reducible rfl)
  try simp only [Act.put, List.setIfInBounds_toArray, List.set_cons_zero, List.set_cons_succ]
  refine wpAnyK_take (i := 1) (v := ?v2) rfl (by kernel_rfl) (by kernel_rfl) (by kernel_rfl) (by kernel_rfl) (fun _ _ _ h => h) (Or.inl ⟨by rfl, ?hy2⟩) hH ?rest2
  case hy2 => (intro w hSw; (try dsimp only at hSw); go_simp; with_reducible rfl)
  try simp only [Act.put, List.setIfInBounds_toArray, List.set_cons_zero, List.set_cons_succ]
  refine wpAnyK_take (i := 2) (v := ?v3) rfl (by kernel_rfl) (by kernel_rfl) (by kernel_rfl) (by kernel_rfl) (fun _ _ _ h => h) (Or.inl ⟨by rfl, ?hy3⟩) hH ?rest3
  case hy3 => (intro w hSw; (try dsimp only at hSw); go_simp; with_reducible rfl)
  try simp only [Act.put, List.setIfInBounds_toArray, List.set_cons_zero, List.set_cons_succ]
  refine wpAnyK_take (i := 3) (v := ?v4) rfl (by kernel_rfl) (by kernel_rfl) (by kernel_rfl) (by kernel_rfl) (fun _ _ _ h => h) (Or.inl ⟨by rfl, ?hy4⟩) hH ?rest4
  case hy4 => (intro w hSw; (try dsimp only at hSw); go_simp; with_reducible rfl)
  try simp only [Act.put, List.setIfInBounds_toArray, List.set_cons_zero, List.set_cons_succ]
  refine wpAnyK_take (i := 4) (v := ?v5) rfl (by kernel_rfl) (by kernel_rfl) (by kernel_rfl) (by kernel_rfl) (fun _ _ _ h => h) (Or.inl ⟨by rfl, ?hy5⟩) hH ?rest5
  case hy5 => (intro w hSw; (try dsimp only at hSw); go_simp; with_reducible rfl)
  try simp only [Act.put, List.setIfInBounds_toArray, List.set_cons_zero, List.set_cons_succ]
  refine wpAnyK_take (i := 5) (v := ?v6) rfl (by kernel_rfl) (by kernel_rfl) (by kernel_rfl) (by kernel_rfl) (fun _ _ _ h => h) (Or.inl ⟨by rfl, ?hy6⟩) hH ?rest6
  case hy6 => (intro w hSw; (try dsimp only at hSw); go_simp; with_reducible rfl)
  try simp only [Act.put, List.setIfInBounds_toArray, List.set_cons_zero, List.set_cons_succ]
  refine wpAnyK_take (i := 6) (v := ?v7) rfl (by kernel_rfl) (by kernel_rfl) (by kernel_rfl) (by kernel_rfl) (fun _ _ _ h => h) (Or.inl ⟨by rfl, ?hy7⟩) hH ?rest7
  case hy7 => (intro w hSw; (try dsimp only at hSw); go_simp; with_reducible rfl)
  try simp only [Act.put, List.setIfInBounds_toArray, List.set_cons_zero, List.set_cons_succ]
  refine wpAnyK_take (i := 7) (v := ?v8) rfl (by kernel_rfl) (by kernel_rfl) (by kernel_rfl) (by kernel_rfl) (fun _ _ _ h => h) (Or.inl ⟨by rfl, ?hy8⟩) hH ?rest8
  case hy8 => (intro w hSw; (try dsimp only at hSw); go_simp; with_reducible rfl)
  try simp only [Act.put, List.setIfInBounds_toArray, List.set_cons_zero, List.set_cons_succ]
  refine wpAnyK_one (i := 8) (by kernel_rfl) rfl (fun K hK => ?_) (by kernel_rfl)
  go_simp
  go_at_call 28
  refine (clone_any W1.drew d HD.out).mono ?_
  rintro e w1 ⟨rfl, hb2⟩
  have hta0 : Tn (fun _ => False) W1.drew w1 := Tn.ofBelow hb2
  have HN0 := Lib.hid (HNd.out.turn hta0 (fun _ _ e => e))
  have qd0 := hta0.cell kd1 (fun e => e)
  clear hb2
  refine hK.out _ _ qd0 (fun hH => ?_)
  clear hK K
  try simp only [Act.put, List.setIfInBounds_toArray, List.set_cons_zero, List.set_cons_succ]
  refine wpAnyK_one (i := 9) (by kernel_rfl) rfl (fun K hK => ?_) (by kernel_rfl)
  go_simp
  refine hK.out _ _ hH (fun _ => ?_)
  clear hK K
  try simp only [Act.put, List.setIfInBounds_toArray, List.set_cons_zero, List.set_cons_succ]
  refine wpAnyK_one (i := 10) (by kernel_rfl) rfl (fun K hK => ?_) (by kernel_rfl)
  go_simp
  obtain ⟨w2, hw2⟩ : ∃ w2, w2 = (w1.alloc (.cells #[.int .i64 a, .int .i64 b, .string d] 55)) := ⟨_, rfl⟩
  have hta : Tn (fun _ => False) w1 w2 := by rw [hw2]; exact Tn.alloc w1 _
  have hnews : ∀ j u, (mCell ⟨a, b, d⟩)[j]? = some u → w2.cell? ((⟨w1.heap.size, 0, none⟩ : Addr).add j) = some u := by
    rw [hw2]
    exact World.news_of_block (cs := #[.int .i64 a, .int .i64 b, .string d]) (t := 55) (fr := (0, 0)) (alloc_block w1 _)
  rw [← hw2]
  clear hw2
  have qd1 := hta.cell qd0 (fun e => e)
  have HN1 := Lib.hid (HN0.out.turn hta (fun _ _ e => e))
  refine hK.out _ _ qd1 (fun hH => ?_)
  clear hK K
  try simp only [Act.put, List.setIfInBounds_toArray, List.set_cons_zero, List.set_cons_succ]
  refine wpAnyK_one (i := 11) (by kernel_rfl) rfl (fun K hK => ?_) (by kernel_rfl)
  have hlv2 : lv = .slice a0 n cap := by rw [HL.out.2]; exact HL.out.1
  refine step_append_m rfl (.tmp 38) (.tmp 44) rfl lv s.l hlv2.symm HN1.out.row ⟨a, b, d⟩ ⟨w1.heap.size, 0, none⟩ 1 rfl hnews HN.out.len ?_
  intro g cap' w3 hown2 hg2 hgs2 hlt2
  have ht2 : Tn (fun k => lv.ownBlock = some k) w2 w3 := Tn.ofGrown hg2 (fun _ e => e)
  have gn : ¬ lv.ownBlock = some nb := HN.out.nl
  have r1 := ht2.cell qd1 gn
  have rf : w3.frozen? ⟨nb, 1, none⟩ = false := (ht2.frozen (World.block_lt_of_cell? _ _ qd1) gn).trans (HN1.out.fz 1)
  refine hK.out _ _ r1 (fun hH => ?_)
  clear hK K
  try simp only [Act.put, List.setIfInBounds_toArray, List.set_cons_zero, List.set_cons_succ]
  refine wpAnyK_one (i := 12) (by kernel_rfl) rfl (fun K hK => ?_) (by kernel_rfl)
  go_simp
  refine hK.out _ _ hH (fun _ => ?_)
  clear hK K
  try simp only [Act.put, List.setIfInBounds_toArray, List.set_cons_zero, List.set_cons_succ]
  refine wpAnyK_one (i := 13) (by kernel_rfl) rfl (fun K hK => ?_) (by kernel_rfl)
  go_simp
  refine hK.out _ _ hH (fun _ => ?_)
  clear hK K
  try simp only [Act.put, List.setIfInBounds_toArray, List.set_cons_zero, List.set_cons_succ]
  refine wpAnyK_last (by kernel_rfl) rfl (fun K hK => ?_) (by kernel_rfl)
  go_simp
  refine hK.out _ _ (wpAnyK_done (by kernel_rfl) ?_ _)
  clear hK K
  have hgb : g = nb → False := fun e => hgs2.elim (fun h => HN.out.nl (e ▸ h)) (fun h => by have := HN1.out.lt; omega)
  have hgm : g = mb → False := fun e => hgs2.elim (fun h => HN.out.ml (e ▸ h)) (fun h => by have := HN1.out.foot_lt mb (Or.inr (Or.inl rfl)); omega)
  have hfin := Lib.hid (NetAt.relist (l' := s.l ++ [⟨a, b, d⟩]) HN1.out ht2 gn HN.out.ml hown2 (fun e => hgb (by simpa [Value.ownBlock] using e)) (fun e => hgm (by simpa [Value.ownBlock] using e)) (by rw [List.length_append]; have := HL.out.2; simp; omega))
  have hst := Lib.hid (show Tn (Foot nb mb lv) w (w3.setCell ⟨nb, 1, none⟩ (.slice (some ⟨g, 0, none⟩) (s.l.length + 1) cap')) from
    (Tn.ofBelow HB.out).trans ((Tn.drew _).trans ((hta0.mono (fun _ e => e.elim)).trans ((hta.mono (fun _ e => e.elim)).trans ((ht2.mono (fun k e => Or.inr (Or.inr e))).trans (Tn.setCell _ _ _ (Or.inl rfl)))))))
  have hnew : ∀ k, (Value.slice (some ⟨g, 0, none⟩) (s.l.length + 1) cap').ownBlock = some k → lv.ownBlock = some k ∨ w.heap.size ≤ k := by
    intro k hk
    have e : g = k := by simpa [Value.ownBlock] using hk
    subst e
    exact hgs2.imp id (fun h => by have := hta.size; have := hta0.size; have := HB.out.size; have e : W1.drew.heap.size = W1.heap.size := rfl; omega)
  have HX := Lib.hid hnew
  clear hnew hta hta0 ht2 hown2 hg2 hgs2 hlt2 r1 rf hH qd0 qd1 kd1 k1
  go_wp2_with fail
  refine ⟨rfl, _, ?_, rfl, _, hfin.out, hst.out, HX.out⟩
  simp [results, Try.results10, go_sem]
end Go.Proofs.Ytanekdcmealoeaa
