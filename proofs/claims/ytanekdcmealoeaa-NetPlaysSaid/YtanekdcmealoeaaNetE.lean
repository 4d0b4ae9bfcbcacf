/-
  The walks of the closures that asked is given.
-/
import Derived.Test.YtanekdcmealoeaaNetD
import Derived.Deep.RegionHeld3
import Derived.Test.YtanekdcmealoeaaHold
namespace Go.Proofs.Ytanekdcmealoeaa
open Go.RowKit Go.Maps

/-- The slice's own block turned, and the slice is stored anew. -/
theorem NetAt.relist {w0 w1 : World} {nb mb : Nat} {lv lv' : Value} {c : Nat} {s : St} {l' : List Msg} {F : Nat → Prop} (h : NetAt w0 nb mb lv c s) (ht : Tn F w0 w1) (hn : ¬ F nb) (hm : ¬ F mb) (hrow : OwnM w1 lv' l')
    (hnl : lv'.ownBlock ≠ some nb) (hml : lv'.ownBlock ≠ some mb) (hlen : l'.length ≤ 400) : NetAt (w1.setCell ⟨nb, 1, none⟩ lv') nb mb lv' c { s with l := l' } := by
  have ne : ∀ j, j ≠ 1 → (⟨nb, 1, none⟩ : Addr) ≠ ⟨nb, j, none⟩ := fun j hj e => hj (by injection e with _ e2; exact e2.symm)
  refine ⟨?_, ?_, ?_, ?_, fun j => by rw [World.frozen?_setCell]; exact (ht.frozen h.lt hn).trans (h.fz j), ?_, ?_, h.nm, hnl, hml, h.n0, h.n8, hlen, h.l0, h.l1⟩
  · rw [World.cell?_setCell_other _ _ _ _ (ne 0 (by decide))]; exact ht.cell h.c0 hn
  · exact World.cell?_setCell_same _ _ _ (ht.cell h.c1 hn)
  · rw [World.cell?_setCell_other _ _ _ _ (ne 2 (by decide))]; exact ht.cell h.c2 hn
  · rw [World.cell?_setCell_other _ _ _ _ (ne 3 (by decide))]; exact ht.cell h.c3 hn
  · exact (Tn.setCell (F := fun k => k = nb) w1 ⟨nb, 1, none⟩ _ rfl).row hrow (fun k hk e => hnl (by rw [hk, e]))
  · obtain ⟨D, hD, hc⟩ := h.map
    exact ⟨D, (ht.map hD hm).setCell (fun e => h.nm e.symm) _, hc⟩

theorem own_form {w : World} {v : Value} {l : List Msg} (h : OwnM w v l) : ∃ a n cap, v = .slice a n cap := by
  obtain ⟨_, h2⟩ := h
  rcases h2 with ⟨rfl, _⟩ | ⟨g, cap, cur, rfl, _⟩
  · exact ⟨_, _, _, rfl⟩
  · exact ⟨_, _, _, rfl⟩

/-- What holds of the row's block alone. -/
theorem NetAt.rowF {w : World} {nb mb : Nat} {lv : Value} {c : Nat} {s : St} (h : NetAt w nb mb lv c s) : ¬ (lv.ownBlock = some nb) ∧ ¬ (lv.ownBlock = some mb) := ⟨h.nl, h.ml⟩

set_option maxRecDepth 100000 in
set_option maxHeartbeats 400000 in
/-- Drop$1: the message goes, and is counted as lost. -/
theorem drop1_any {W : World} {nb mb : Nat} {lv : Value} {c : Nat} {s : St} (h : NetAt W nb mb lv c s) (i : Nat) (hi : i < s.l.length) (m : Msg) (b0 b1 : Nat)
    (k0 : W.cell? ⟨b0, 0, none⟩ = some (.pointer (some ⟨nb, 0, none⟩))) (k1 : W.cell? ⟨b1, 0, none⟩ = some (.int .i64 (i : Int))) (f0 : ¬ Foot nb mb lv b0) (f1 : ¬ Foot nb mb lv b1) :
    Calls Try.prog 32 #[mVal m, .pointer (some ⟨b0, 0, none⟩), .pointer (some ⟨b1, 0, none⟩)] W fun e w' => e = .returned (.tuple #[]) ∧ ∃ lv', NetAt w' nb mb lv' c (s.take i).lose ∧ Step nb mb lv W lv' w' := by
  unfold mVal
  have hW1 := Tn.alloc (F := fun _ => False) W (.cells #[.int .i64 m.f, .int .i64 m.t, .string m.d] 55)
  obtain ⟨W1, hw1⟩ : ∃ W1, W1 = W.alloc (.cells #[.int .i64 m.f, .int .i64 m.t, .string m.d] 55) := ⟨_, rfl⟩
  rw [← hw1] at hW1
  have h' := h.turn hW1 (fun _ _ e => e)
  have k0' := hW1.cell k0 (fun e => e)
  have k1' := hW1.cell k1 (fun e => e)
  have kl := h'.c1
  have kf := h'.fz 1
  have HN := Lib.hid h'
  have HW := Lib.hid hw1
  have HT := Lib.hid hW1
  have hi64 : (i : Int) + 1 ≤ 9223372036854775807 := by have := h.len; omega
  clear hw1 hW1 h' k0 k1 h
  go_enter Try.func32, Try.ntmps32
  go_wp2_with fail
  rw [← HW.out]
  have kd0 : W1.drew.cell? ⟨b0, 0, none⟩ = some (.pointer (some ⟨nb, 0, none⟩)) := k0'
  have kd1 : W1.drew.cell? ⟨b1, 0, none⟩ = some (.int .i64 (i : Int)) := k1'
  have kdl : W1.drew.cell? ⟨nb, 1, none⟩ = some lv := kl
  have kdf : W1.drew.frozen? ⟨nb, 1, none⟩ = false := kf
  have HNd := Lib.hid (HN.out.turn (Tn.drew (F := fun _ => False) W1) (fun _ _ e => e))
  have HROW := Lib.hid (World.ownsRow.drew HN.out.row)
  have g0 : ¬ lv.ownBlock = some b0 := fun e => f0 (Or.inr (Or.inr e))
  have g1 : ¬ lv.ownBlock = some b1 := fun e => f1 (Or.inr (Or.inr e))
  have n0 : (⟨nb, 1, none⟩ : Addr) ≠ ⟨b0, 0, none⟩ := fun e => by injection e with e1; exact f0 (Or.inl e1.symm)
  have n1 : (⟨nb, 1, none⟩ : Addr) ≠ ⟨b1, 0, none⟩ := fun e => by injection e with e1; exact f1 (Or.inl e1.symm)
  have gn : ¬ lv.ownBlock = some nb := HN.out.nl
  clear kf k0' k1'
  have hwr : IntKind.i64.wrap ((i : Int) + 1) = (i : Int) + 1 := by rw [IntKind.wrap_i64]; omega
  refine wp_region_K (fun w' => w'.cell? ⟨b0, 0, none⟩ = some (.pointer (some ⟨nb, 0, none⟩)) ∧ w'.cell? ⟨b1, 0, none⟩ = some (.int .i64 (i : Int)) ∧ w'.cell? ⟨nb, 1, none⟩ = some lv) 11 12 (by kernel_rfl) (by kernel_rfl) ⟨kd0, kd1, kdl⟩ (fun hH => ?_)
  refine wpAnyK_take (i := 0) (v := ?v1) rfl (by kernel_rfl) (by kernel_rfl) (by kernel_rfl) (by kernel_rfl) (fun _ _ _ h => h) (Or.inl ⟨by rfl, ?hy1⟩) hH ?rest1
  case hy1 => (intro w hSw; (try dsimp only at hSw); go_simp; with_reducible rfl)
  try simp only [Act.put, List.setIfInBounds_toArray, List.set_cons_zero, List.set_cons_succ]
  refine wpAnyK_take (i := 1) (v := ?v2) rfl (by kernel_rfl) (by kernel_rfl) (by kernel_rfl) (by kernel_rfl) (fun _ _ _ h => h) (Or.inl ⟨by rfl, ?hy2⟩) hH ?rest2
  case hy2 => (intro w hSw; (try dsimp only at hSw); go_simp; with_reducible rfl)
  try simp only [Act.put, List.setIfInBounds_toArray, List.set_cons_zero, List.set_cons_succ]
  refine wpAnyK_take (i := 2) (v := ?v3) rfl (by kernel_rfl) (by kernel_rfl) (by kernel_rfl) (by kernel_rfl) (fun _ _ _ h => h) (Or.inl ⟨by rfl, ?hy3⟩) hH ?rest3
  case hy3 => (intro w hSw; (try dsimp only at hSw); go_simp; with_reducible rfl)
  try simp only [Act.put, List.setIfInBounds_toArray, List.set_cons_zero, List.set_cons_succ]
  refine wpAnyK_take (i := 3) (v := ?v4) rfl (by kernel_rfl) (by kernel_rfl) (by kernel_rfl) (by kernel_rfl) (fun _ _ _ h => h) (Or.inl ⟨by rfl, ?hy4⟩) hH ?rest4
  case hy4 => (intro w hSw; (try dsimp only at hSw); go_simp; with_reducible rfl)
  try simp only [Act.put, List.setIfInBounds_toArray, List.set_cons_zero, List.set_cons_succ]
  refine wpAnyK_take (i := 4) (v := ?v5) rfl (by kernel_rfl) (by kernel_rfl) (by kernel_rfl) (by kernel_rfl) (fun _ _ _ h => h) (Or.inl ⟨by rfl, ?hy5⟩) hH ?rest5
  case hy5 => (intro w hSw; (try dsimp only at hSw); go_simp; with_reducible rfl)
  try simp only [Act.put, List.setIfInBounds_toArray, List.set_cons_zero, List.set_cons_succ]
  refine wpAnyK_take (i := 5) (v := ?v6) rfl (by kernel_rfl) (by kernel_rfl) (by kernel_rfl) (by kernel_rfl) (fun _ _ _ h => h) (Or.inl ⟨by rfl, ?hy6⟩) hH ?rest6
  case hy6 => (intro w hSw; (try dsimp only at hSw); go_simp; with_reducible rfl)
  try simp only [Act.put, List.setIfInBounds_toArray, List.set_cons_zero, List.set_cons_succ]
  refine wpAnyK_take (i := 6) (v := ?v7) rfl (by kernel_rfl) (by kernel_rfl) (by kernel_rfl) (by kernel_rfl) (fun _ _ _ h => h) (Or.inl ⟨by rfl, ?hy7⟩) hH ?rest7
  case hy7 => (intro w hSw; (try dsimp only at hSw); go_simp; with_reducible rfl)
  try simp only [Act.put, List.setIfInBounds_toArray, List.set_cons_zero, List.set_cons_succ]
  refine wpAnyK_take (i := 7) (v := ?v8) rfl (by kernel_rfl) (by kernel_rfl) (by kernel_rfl) (by kernel_rfl) (fun _ _ _ h => h) (Or.inl ⟨by rfl, ?hy8⟩) hH ?rest8
  case hy8 => (intro w hSw; (try dsimp only at hSw); go_simp; with_reducible rfl)
  try simp only [Act.put, List.setIfInBounds_toArray, List.set_cons_zero, List.set_cons_succ]
  refine wpAnyK_one (i := 8) (by kernel_rfl) rfl (fun K hK => ?_) (by kernel_rfl)
  go_simp
  go_at_call 31
  refine (delete_any W1.drew lv s.l HROW.out i hi).mono ?_
  rintro e w2 ⟨lv', rfl, hrow2, ht2, hb2⟩
  obtain ⟨a2, n2, cap2, rfl⟩ := own_form hrow2
  have q0 := ht2.cell kd0 g0
  have q1 := ht2.cell kd1 g1
  have ql := ht2.cell kdl gn
  have qf := ht2.frozen (W1.drew.block_lt_of_cell? _ kdl) gn
  refine hK.out _ _ ⟨q0, q1, ql⟩ (fun hH => ?_)
  clear hK K
  try simp only [Act.put, List.setIfInBounds_toArray, List.set_cons_zero, List.set_cons_succ]
  refine wpAnyK_one (i := 9) (by kernel_rfl) rfl (fun K hK => ?_) (by kernel_rfl)
  go_simp
  refine hK.out _ _ hH (fun _ => ?_)
  clear hK K
  try simp only [Act.put, List.setIfInBounds_toArray, List.set_cons_zero, List.set_cons_succ]
  refine wpAnyK_one (i := 10) (by kernel_rfl) rfl (fun K hK => ?_) (by kernel_rfl)
  go_simp
  refine hK.out _ _ hH (fun _ => ?_)
  clear hK K
  try simp only [Act.put, List.setIfInBounds_toArray, List.set_cons_zero, List.set_cons_succ]
  refine wpAnyK_last (by kernel_rfl) rfl (fun K hK => ?_) (by kernel_rfl)
  go_simp
  refine hK.out _ _ (wpAnyK_done (by kernel_rfl) ?_ _)
  have hr : NetAt (w2.setCell ⟨nb, 1, none⟩ (.slice a2 n2 cap2)) nb mb (.slice a2 n2 cap2) c (s.take i) := by
    refine NetAt.relist HNd.out ht2 gn HNd.out.ml hrow2 (by rw [hb2]; exact gn) (by rw [hb2]; exact HNd.out.ml) ?_
    have := s.l.length_eraseIdx_le i
    have := HNd.out.len
    omega
  obtain ⟨w3, hw3⟩ : ∃ w3, w3 = w2.setCell ⟨nb, 1, none⟩ (.slice a2 n2 cap2) := ⟨_, rfl⟩
  have ht3 : Tn (Foot nb mb lv) W1.drew w3 := by
    rw [hw3]
    exact (ht2.mono (fun k e => Or.inr (Or.inr e))).trans (Tn.setCell _ _ _ (Or.inl rfl))
  have r0 : w3.cell? ⟨b0, 0, none⟩ = some (.pointer (some ⟨nb, 0, none⟩)) := by rw [hw3, World.cell?_setCell_other _ _ _ _ n0]; exact q0
  rw [← hw3] at hr ⊢
  have HS := Lib.hid (And.intro hr (And.intro ht3 hb2))
  clear hw3 hr ht3 hb2 q0 q1 ql qf kd0 kd1 kdl kdf hH hwr ht2 hrow2 hi64 n0 n1 g0 g1 gn HROW
  go_wp2_with fail
  go_at_call 27
  refine (lose_any HS.out.1).mono ?_
  rintro e w4 ⟨rfl, hn4, hs4⟩
  simp only []
  go_wp2_with fail
  go_end0
  refine ⟨rfl, _, hn4, ?_⟩
  exact Step.trans ⟨(HT.out.mono (fun _ e => e.elim)).trans ((Tn.drew _).trans HS.out.2.1), fun k hk => Or.inl (HS.out.2.2 ▸ hk)⟩ hs4
end Go.Proofs.Ytanekdcmealoeaa
