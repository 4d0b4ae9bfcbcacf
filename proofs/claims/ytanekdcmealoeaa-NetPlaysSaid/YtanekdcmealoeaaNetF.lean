/-
  The walks of the closures that write a message down.
-/
import Derived.Test.YtanekdcmealoeaaNetE
namespace Go.Proofs.Ytanekdcmealoeaa
open Go.RowKit Go.Maps

/-- A variable that holds a message. -/
structure MAt (w : World) (bm : Nat) (m : Msg) : Prop where
  c0 : w.cell? ⟨bm, 0, none⟩ = some (.int .i64 m.f)
  c1 : w.cell? ⟨bm, 1, none⟩ = some (.int .i64 m.t)
  c2 : w.cell? ⟨bm, 2, none⟩ = some (.string m.d)
  fz : ∀ j, w.frozen? ⟨bm, j, none⟩ = false

theorem MAt.lt {w : World} {bm : Nat} {m : Msg} (h : MAt w bm m) : bm < w.heap.size := World.block_lt_of_cell? w _ h.c0
theorem MAt.turn {F : Nat → Prop} {w w' : World} {bm : Nat} {m : Msg} (h : MAt w bm m) (ht : Tn F w w') (hb : ¬ F bm) : MAt w' bm m :=
  ⟨ht.cell h.c0 hb, ht.cell h.c1 hb, ht.cell h.c2 hb, fun j => (ht.frozen h.lt hb).trans (h.fz j)⟩

theorem MAt.set {w : World} {bm : Nat} {m0 : Msg} (h : MAt w bm m0) (m : Msg) :
    MAt (((w.setCell ⟨bm, 0, none⟩ (.int .i64 m.f)).setCell ⟨bm, 1, none⟩ (.int .i64 m.t)).setCell ⟨bm, 2, none⟩ (.string m.d)) bm m := by
  have ne : ∀ i j : Nat, i ≠ j → (⟨bm, i, none⟩ : Addr) ≠ ⟨bm, j, none⟩ := fun i j hj e => hj (by injection e)
  have a1 : (w.setCell ⟨bm, 0, none⟩ (.int .i64 m.f)).cell? ⟨bm, 1, none⟩ = some (.int .i64 m0.t) := by rw [World.cell?_setCell_other _ _ _ _ (ne 0 1 (by decide))]; exact h.c1
  have a2 : ((w.setCell ⟨bm, 0, none⟩ (.int .i64 m.f)).setCell ⟨bm, 1, none⟩ (.int .i64 m.t)).cell? ⟨bm, 2, none⟩ = some (.string m0.d) := by
    rw [World.cell?_setCell_other _ _ _ _ (ne 1 2 (by decide)), World.cell?_setCell_other _ _ _ _ (ne 0 2 (by decide))]; exact h.c2
  refine ⟨?_, ?_, World.cell?_setCell_same _ _ _ a2, fun j => by simp only [World.frozen?_setCell]; exact h.fz j⟩
  · rw [World.cell?_setCell_other _ _ _ _ (ne 2 0 (by decide)), World.cell?_setCell_other _ _ _ _ (ne 1 0 (by decide))]; exact World.cell?_setCell_same _ _ _ h.c0
  · rw [World.cell?_setCell_other _ _ _ _ (ne 2 1 (by decide))]; exact World.cell?_setCell_same _ _ _ a1
theorem tn_set3 (w : World) (bm : Nat) (m : Msg) : Tn (fun k => k = bm) w (((w.setCell ⟨bm, 0, none⟩ (.int .i64 m.f)).setCell ⟨bm, 1, none⟩ (.int .i64 m.t)).setCell ⟨bm, 2, none⟩ (.string m.d)) :=
  ((Tn.setCell (F := fun k => k = bm) w ⟨bm, 0, none⟩ (.int .i64 m.f) rfl).trans (Tn.setCell (F := fun k => k = bm) _ ⟨bm, 1, none⟩ (.int .i64 m.t) rfl)).trans (Tn.setCell (F := fun k => k = bm) _ ⟨bm, 2, none⟩ (.string m.d) rfl)

set_option maxRecDepth 100000 in
/-- Peek$1: the message is written down. -/
theorem peek1_any {W : World} {bm : Nat} {m0 : Msg} (h : MAt W bm m0) (m : Msg) :
    Calls Try.prog 35 #[mVal m, .pointer (some ⟨bm, 0, none⟩)] W fun e w' => e = .returned (.tuple #[]) ∧ MAt w' bm m ∧ Tn (fun k => k = bm) W w' := by
  unfold mVal
  have hW1 := Tn.alloc (F := fun _ => False) W (.cells #[.int .i64 m.f, .int .i64 m.t, .string m.d] 55)
  have hm0 : (W.alloc (.cells #[.int .i64 m.f, .int .i64 m.t, .string m.d] 55)).cell? ⟨W.heap.size, 0, none⟩ = some (.int .i64 m.f) := by simp [go_sem]
  have hm1 : (W.alloc (.cells #[.int .i64 m.f, .int .i64 m.t, .string m.d] 55)).cell? ⟨W.heap.size, 1, none⟩ = some (.int .i64 m.t) := by simp [go_sem]
  have hm2 : (W.alloc (.cells #[.int .i64 m.f, .int .i64 m.t, .string m.d] 55)).cell? ⟨W.heap.size, 2, none⟩ = some (.string m.d) := by simp [go_sem]
  have h' := h.turn hW1 (fun e => e)
  generalize hw1 : W.alloc (.cells #[.int .i64 m.f, .int .i64 m.t, .string m.d] 55) = W1 at *
  have kc0 := h'.c0
  have kc1 := h'.c1
  have kc2 := h'.c2
  have kf0 := h'.fz 0
  have kf1 := h'.fz 1
  have kf2 := h'.fz 2
  have HM := Lib.hid h'
  have HT := Lib.hid hW1
  clear hW1 h' h
  go_enter Try.func35, Try.ntmps35
  go_wp2
  go_end0
  exact ⟨rfl, HM.out.set m, (HT.out.mono (fun _ e => e.elim)).trans (tn_set3 _ _ _)⟩

set_option maxRecDepth 100000 in
set_option maxHeartbeats 400000 in
/-- Deliver$1: the message is written down, and goes. -/
theorem deliver1_any {W : World} {nb mb : Nat} {lv : Value} {c : Nat} {s : St} (h : NetAt W nb mb lv c s) (i : Nat) (hi : i < s.l.length) (m : Msg) (bm b0 b1 : Nat) {m0 : Msg} (hm : MAt W bm m0)
    (k0 : W.cell? ⟨b0, 0, none⟩ = some (.pointer (some ⟨nb, 0, none⟩))) (k1 : W.cell? ⟨b1, 0, none⟩ = some (.int .i64 (i : Int))) (fm : ¬ Foot nb mb lv bm) (f0 : ¬ Foot nb mb lv b0) (f1 : ¬ Foot nb mb lv b1) (m0n : bm ≠ b0) (m1n : bm ≠ b1) :
    Calls Try.prog 30 #[mVal m, .pointer (some ⟨bm, 0, none⟩), .pointer (some ⟨b0, 0, none⟩), .pointer (some ⟨b1, 0, none⟩)] W fun e w' => e = .returned (.tuple #[]) ∧
      (∃ lv', NetAt w' nb mb lv' c (s.take i) ∧ Tn (fun k => Foot nb mb lv k ∨ k = bm) W w' ∧ lv'.ownBlock = lv.ownBlock) ∧ MAt w' bm m := by
  unfold mVal
  have hW1 := Tn.alloc (F := fun _ => False) W (.cells #[.int .i64 m.f, .int .i64 m.t, .string m.d] 55)
  have hm0 : (W.alloc (.cells #[.int .i64 m.f, .int .i64 m.t, .string m.d] 55)).cell? ⟨W.heap.size, 0, none⟩ = some (.int .i64 m.f) := by simp [go_sem]
  have hm1 : (W.alloc (.cells #[.int .i64 m.f, .int .i64 m.t, .string m.d] 55)).cell? ⟨W.heap.size, 1, none⟩ = some (.int .i64 m.t) := by simp [go_sem]
  have hm2 : (W.alloc (.cells #[.int .i64 m.f, .int .i64 m.t, .string m.d] 55)).cell? ⟨W.heap.size, 2, none⟩ = some (.string m.d) := by simp [go_sem]
  have hM1 := hm.turn hW1 (fun e => e)
  have hM2 := hM1.set m
  have hT2 := (hW1.mono (fun _ e => e.elim)).trans (tn_set3 (W.alloc (.cells #[.int .i64 m.f, .int .i64 m.t, .string m.d] 55)) bm m)
  generalize hw1 : W.alloc (.cells #[.int .i64 m.f, .int .i64 m.t, .string m.d] 55) = W1 at *
  have kc0 := hM1.c0
  have kc1 := hM1.c1
  have kc2 := hM1.c2
  have kf0 := hM1.fz 0
  have kf1 := hM1.fz 1
  have kf2 := hM1.fz 2
  generalize hw2 : ((W1.setCell ⟨bm, 0, none⟩ (.int .i64 m.f)).setCell ⟨bm, 1, none⟩ (.int .i64 m.t)).setCell ⟨bm, 2, none⟩ (.string m.d) = W2 at *
  have HM := Lib.hid hM2
  have HT := Lib.hid hT2
  have HN := Lib.hid (h.turn hT2 (fun k hk e => fm (e ▸ hk)))
  have HK := Lib.hid (And.intro (hT2.cell k0 (fun e => m0n e.symm)) (hT2.cell k1 (fun e => m1n e.symm)))
  have H0 := Lib.hid h
  have HX := Lib.hid (And.intro m0n m1n)
  have HF := Lib.hid (And.intro fm (And.intro f0 f1))
  clear hW1 hM1 hM2 hT2 hm k0 k1 h m0n m1n fm f0 f1
  go_enter Try.func30, Try.ntmps30
  go_wp2_with fail
  clear hw1 hw2 hm0 hm1 hm2 kc0 kc1 kc2 kf0 kf1 kf2
  have kd0 : W2.drew.cell? ⟨b0, 0, none⟩ = some (.pointer (some ⟨nb, 0, none⟩)) := HK.out.1
  have kd1 : W2.drew.cell? ⟨b1, 0, none⟩ = some (.int .i64 (i : Int)) := HK.out.2
  have HNd := Lib.hid (HN.out.turn (Tn.drew (F := fun _ => False) W2) (fun _ _ e => e))
  have HMd := Lib.hid (HM.out.turn (Tn.drew (F := fun _ => False) W2) (fun e => e))
  have kdl := HNd.out.c1
  have kdf := HNd.out.fz 1
  have g0 : ¬ lv.ownBlock = some b0 := fun e => HF.out.2.1 (Or.inr (Or.inr e))
  have g1 : ¬ lv.ownBlock = some b1 := fun e => HF.out.2.2 (Or.inr (Or.inr e))
  have gm : ¬ lv.ownBlock = some bm := fun e => HF.out.1 (Or.inr (Or.inr e))
  have gn : ¬ lv.ownBlock = some nb := HN.out.nl
  have hi64 : (i : Int) + 1 ≤ 9223372036854775807 := by have := HN.out.len; omega
  have hwr : IntKind.i64.wrap ((i : Int) + 1) = (i : Int) + 1 := by rw [IntKind.wrap_i64]; omega
  refine wp_region_K (fun w' => w'.cell? ⟨b0, 0, none⟩ = some (.pointer (some ⟨nb, 0, none⟩)) ∧ w'.cell? ⟨b1, 0, none⟩ = some (.int .i64 (i : Int)) ∧ w'.cell? ⟨nb, 1, none⟩ = some lv) 11 12 (by kernel_rfl) (by kernel_rfl) ⟨kd0, kd1, kdl⟩ (fun hH => ?_)
  refine wpAnyK_take (i := 0) (v := ?v1) rfl (by kernel_rfl) (by kernel_rfl) (by kernel_rfl) (by kernel_rfl) (fun _ _ _ h => h) (Or.inl ⟨by rfl, ?hy1⟩) hH ?rest1
  case hy1 => (intro w hSw; (try dsimp only at hSw); go_simp; with_reducible rfl)
  try simp only [Act.put, List.setIfInBounds_toArray, List.set_cons_zero, List.set_cons_succ]
  refine wpAnyK_take (i := 1) (v := ?v2) rfl (by kernel_rfl) (by kernel_rfl) (by kernel_rfl) (by kernel_rfl) (fun _ _ _ h => h) (Or.inl ⟨by rfl, ?hy2⟩) hH ?rest2
  case hy2 => (intro w hSw; (try dsimp only at hSw); go_simp; with_reducible rfl)
  try simp only [Act.put, List.setIfInBounds_toArray, List.set_cons_zero, List.set_cons_succ]
  refine wpAnyK_take (i := 2) (v := ?v3) rfl (by kernel_rfl) (by kernel_rfl) (by kernel_rfl) (by kernel_rfl) (fun _ _ _ h => h) (Or.inl ⟨by rfl, ?hy3⟩) hH ?rest3
  case hy3 => (intro w hSw; (try dsimp only at hSw); go_simp; with_reducible rfl)
  try simp only [Act.put, List.setIfInBounds_toArray, List.set_cons_zero, List.set_cons_succ]
  refine wpAnyK_take (i := 3) (v := ?v4) rfl (by kernel_rfl) (by kernel_rfl) (by kernel_rfl) (by kernel_rfl) (fun _ _ _ h => h) (Or.inl ⟨by rfl, ?hy4⟩) hH ?rest4
  case hy4 => (intro w hSw; (try dsimp only at hSw); go_simp; with_reducible rfl)
  try simp only [Act.put, List.setIfInBounds_toArray, List.set_cons_zero, List.set_cons_succ]
  refine wpAnyK_take (i := 4) (v := ?v5) rfl (by kernel_rfl) (by kernel_rfl) (by kernel_rfl) (by kernel_rfl) (fun _ _ _ h => h) (Or.inl ⟨by rfl, ?hy5⟩) hH ?rest5
  case hy5 => (intro w hSw; (try dsimp only at hSw); go_simp; with_reducible rfl)
  try simp only [Act.put, List.setIfInBounds_toArray, List.set_cons_zero, List.set_cons_succ]
  refine wpAnyK_take (i := 5) (v := ?v6) rfl (by kernel_rfl) (by kernel_rfl) (by kernel_rfl) (by kernel_rfl) (fun _ _ _ h => h) (Or.inl ⟨by rfl, ?hy6⟩) hH ?rest6
  case hy6 => (intro w hSw; (try dsimp only at hSw); go_simp; with_reducible rfl)
  try simp only [Act.put, List.setIfInBounds_toArray, List.set_cons_zero, List.set_cons_succ]
  refine wpAnyK_take (i := 6) (v := ?v7) rfl (by kernel_rfl) (by kernel_rfl) (by kernel_rfl) (by kernel_rfl) (fun _ _ _ h => h) (Or.inl ⟨by rfl, ?hy7⟩) hH ?rest7
  case hy7 => (intro w hSw; (try dsimp only at hSw); go_simp; with_reducible rfl)
  try simp only [Act.put, List.setIfInBounds_toArray, List.set_cons_zero, List.set_cons_succ]
  refine wpAnyK_take (i := 7) (v := ?v8) rfl (by kernel_rfl) (by kernel_rfl) (by kernel_rfl) (by kernel_rfl) (fun _ _ _ h => h) (Or.inl ⟨by rfl, ?hy8⟩) hH ?rest8
  case hy8 => (intro w hSw; (try dsimp only at hSw); go_simp; with_reducible rfl)
  try simp only [Act.put, List.setIfInBounds_toArray, List.set_cons_zero, List.set_cons_succ]
  refine wpAnyK_one (i := 8) (by kernel_rfl) rfl (fun K hK => ?_) (by kernel_rfl)
  go_simp
  go_at_call 31
  refine (delete_any W2.drew lv s.l HNd.out.row i hi).mono ?_
  rintro e w2 ⟨lv', rfl, hrow2, ht2, hb2⟩
  obtain ⟨a2, n2, cap2, rfl⟩ := own_form hrow2
  have q0 := ht2.cell kd0 g0
  have q1 := ht2.cell kd1 g1
  have ql := ht2.cell kdl gn
  have qf := ht2.frozen (W2.drew.block_lt_of_cell? _ kdl) gn
  refine hK.out _ _ ⟨q0, q1, ql⟩ (fun hH => ?_)
  clear hK K
  try simp only [Act.put, List.setIfInBounds_toArray, List.set_cons_zero, List.set_cons_succ]
  refine wpAnyK_one (i := 9) (by kernel_rfl) rfl (fun K hK => ?_) (by kernel_rfl)
  go_simp
  refine hK.out _ _ hH (fun _ => ?_)
  clear hK K
  try simp only [Act.put, List.setIfInBounds_toArray, List.set_cons_zero, List.set_cons_succ]
  refine wpAnyK_one (i := 10) (by kernel_rfl) rfl (fun K hK => ?_) (by kernel_rfl)
  go_simp
  refine hK.out _ _ hH (fun _ => ?_)
  clear hK K
  try simp only [Act.put, List.setIfInBounds_toArray, List.set_cons_zero, List.set_cons_succ]
  refine wpAnyK_last (by kernel_rfl) rfl (fun K hK => ?_) (by kernel_rfl)
  go_simp
  refine hK.out _ _ (wpAnyK_done (by kernel_rfl) ?_ _)
  have hr : NetAt (w2.setCell ⟨nb, 1, none⟩ (.slice a2 n2 cap2)) nb mb (.slice a2 n2 cap2) c (s.take i) := by
    refine NetAt.relist HNd.out ht2 gn HNd.out.ml hrow2 (by rw [hb2]; exact gn) (by rw [hb2]; exact HNd.out.ml) ?_
    have := s.l.length_eraseIdx_le i
    have := HNd.out.len
    omega
  have ht3 : Tn (Foot nb mb lv) W2.drew (w2.setCell ⟨nb, 1, none⟩ (.slice a2 n2 cap2)) := (ht2.mono (fun k e => Or.inr (Or.inr e))).trans (Tn.setCell _ _ _ (Or.inl rfl))
  go_end0
  refine ⟨rfl, ⟨_, hr, ?_, hb2⟩, HMd.out.turn ht3 HF.out.1⟩
  exact ((HT.out.mono (fun _ e => Or.inr e)).trans ((Tn.drew _).trans (ht3.mono (fun _ e => Or.inl e))))
end Go.Proofs.Ytanekdcmealoeaa
