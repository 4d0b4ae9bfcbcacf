/-
  The walks of Drop and Twice.
-/
import Derived.Test.YtanekdcmealoeaaNetH
namespace Go.Proofs.Ytanekdcmealoeaa
open Go.RowKit Go.Maps

/-- The net behind asked, seen from ahead of the call. -/
theorem asked_net {W W2 W' w2 : World} {nb mb : Nat} {lv lv' : Value} {c : Nat} {s s' : St} (h : NetAt W nb mb lv c s) (b2 : Below W.heap.size W W2) (hb : Below W2.heap.size W2 W') (hlt : W2.heap.size < W'.heap.size)
    (hn : NetAt w2 nb mb lv' c s') (hs : Step nb mb lv W' lv' w2) (v : Value) :
    NetAt (w2.setCell ⟨W2.heap.size, 0, none⟩ v) nb mb lv' c s' ∧ Step nb mb lv W lv' (w2.setCell ⟨W2.heap.size, 0, none⟩ v) := by
  have hsz := b2.size
  have hf : ∀ k, Foot nb mb lv k → k < W.heap.size := h.foot_lt
  have h0 : Tn (Foot nb mb lv) W W' := (Tn.ofBelow b2).andThen (Tn.ofBelow (F := fun _ => False) hb) (fun _ e => e.elim)
  refine ⟨hn.turn (Tn.setCell (F := fun k => k = W2.heap.size) _ _ _ rfl) ?_, (h0.trans hs.tn).andThen (Tn.setCell (F := fun k => k = W2.heap.size) _ _ _ rfl) (fun k e => Or.inr (by omega)), ?_⟩
  · rintro k hk e
    have e : k = W2.heap.size := e
    rcases hk with rfl | rfl | hk
    · have := hf _ (Or.inl rfl); omega
    · have := hf _ (Or.inr (Or.inl rfl)); omega
    · rcases hs.new k hk with e2 | e2
      · have := hf k (Or.inr (Or.inr e2)); omega
      · omega
  · intro k hk
    rcases hs.new k hk with e | e
    · exact Or.inl e
    · exact Or.inr (by have := hb.size; omega)

set_option maxRecDepth 100000 in
theorem drop_ok {W : World} {nb mb : Nat} {lv : Value} {c : Nat} {s : St} (h : NetAt W nb mb lv c s) (i : Nat) (hi : i < s.l.length) :
    Calls Try.prog 16 #[.pointer (some ⟨nb, 0, none⟩), .int .i64 (i : Int)] W fun e w' => e = .returned (.int .i64 0) ∧ ∃ lv', NetAt w' nb mb lv' c (s.take i).lose ∧ Step nb mb lv W lv' w' := by
  have hmf : ∀ (fn : Fn) (first cap : Array Value) (w : World), (Instr.makeFunc fn first cap).run Try.prog w = .ok (.func fn first cap) w := fun _ _ _ _ => rfl
  obtain ⟨W2, hW2⟩ : ∃ W2, W2 = (W.alloc (.cells #[.pointer (some ⟨nb, 0, none⟩)] 24)).alloc (.cells #[.int .i64 (i : Int)] 3) := ⟨_, rfl⟩
  have b2 : Below W.heap.size W W2 := by rw [hW2]; exact ((Below.refl _ _).alloc (Nat.le_refl _) _).alloc (by simp) _
  have k0 : W2.cell? ⟨W.heap.size, 0, none⟩ = some (.pointer (some ⟨nb, 0, none⟩)) := by rw [hW2]; simp [go_sem]
  have k1 : W2.cell? ⟨W.heap.size + 1, 0, none⟩ = some (.int .i64 (i : Int)) := by rw [hW2]; simp [go_sem]
  have hw := hW2.symm
  have HN := Lib.hid h
  have HB := Lib.hid b2
  have h2 := Lib.hid (h.turn (Tn.ofBelow (F := fun _ => False) b2) (fun _ _ e => e))
  have HK := Lib.hid (And.intro k0 k1)
  clear h b2 hW2
  go_enter Try.func16, Try.ntmps16
  go_wp2_with fail
  refine (asked_run (.pointer (some ⟨nb, 0, none⟩)) (i : Int) 32 #[.pointer (some ⟨W.heap.size, 0, none⟩), .pointer (some ⟨W.heap.size + 1, 0, none⟩)] s.l[i] W2
    (fun code W' w' => code = 0 ∧ ∃ lv', NetAt w' nb mb lv' c (s.take i).lose ∧ Step nb mb lv W' lv' w') (fun _ _ => rfl) (fun W' hb => at_ok (h2.out.below hb) i hi) (fun W' hb hlt => ?_)).mono ?_
  · have hsz := HB.out.size
    have hf := HN.out.foot_lt
    have hk0 := (hb.cell (World.block_lt_of_cell? _ _ HK.out.1)).trans HK.out.1
    have hk1 := (hb.cell (World.block_lt_of_cell? _ _ HK.out.2)).trans HK.out.2
    refine (drop1_any (h2.out.below hb) i hi s.l[i] W.heap.size (W.heap.size + 1) hk0 hk1 (fun e => by have := hf _ e; omega) (fun e => by have := hf _ e; omega)).mono ?_
    rintro e w' ⟨rfl, lv', hn, hs⟩
    exact ⟨Or.inl ⟨rfl, rfl, lv', hn, hs⟩, hs.tn.block _ hlt (fun e => by have := hf _ e; omega)⟩
  · rintro e w3 ⟨code, W', w2, rfl, hb, hlt, ⟨rfl, lv', hn, hs⟩, rfl⟩
    have HX := Lib.hid (asked_net HN.out HB.out hb hlt hn hs (.int .i64 0))
    obtain ⟨w4, hw4⟩ : ∃ w4, w4 = w2.setCell ⟨W2.heap.size, 0, none⟩ (.int .i64 0) := ⟨_, rfl⟩
    rw [← hw4] at HX ⊢
    clear hw4 hn hs
    simp only []
    go_wp2_with fail
    refine ⟨rfl, _, ?_, rfl, lv', HX.out⟩
    simp [results, Try.results16, go_sem]
set_option maxRecDepth 100000 in
theorem drop_bad {W : World} {nb mb : Nat} {lv : Value} {c : Nat} {s : St} (h : NetAt W nb mb lv c s) (i : Int) (hi : i < 0 ∨ s.l.length ≤ i) :
    Calls Try.prog 16 #[.pointer (some ⟨nb, 0, none⟩), .int .i64 i] W fun e w' => e = .returned (.int .i64 5) ∧ Below W.heap.size W w' := by
  have hmf : ∀ (fn : Fn) (first cap : Array Value) (w : World), (Instr.makeFunc fn first cap).run Try.prog w = .ok (.func fn first cap) w := fun _ _ _ _ => rfl
  obtain ⟨W2, hW2⟩ : ∃ W2, W2 = (W.alloc (.cells #[.pointer (some ⟨nb, 0, none⟩)] 24)).alloc (.cells #[.int .i64 i] 3) := ⟨_, rfl⟩
  have b2 : Below W.heap.size W W2 := by rw [hW2]; exact ((Below.refl _ _).alloc (Nat.le_refl _) _).alloc (by simp) _
  have k0 : W2.cell? ⟨W.heap.size, 0, none⟩ = some (.pointer (some ⟨nb, 0, none⟩)) := by rw [hW2]; simp [go_sem]
  have k1 : W2.cell? ⟨W.heap.size + 1, 0, none⟩ = some (.int .i64 i) := by rw [hW2]; simp [go_sem]
  have hw := hW2.symm
  have HN := Lib.hid h
  have HB := Lib.hid b2
  have h2 := Lib.hid (h.turn (Tn.ofBelow (F := fun _ => False) b2) (fun _ _ e => e))
  have HK := Lib.hid (And.intro k0 k1)
  clear h b2 hW2
  go_enter Try.func16, Try.ntmps16
  go_wp2_with fail
  refine (asked_bad (.pointer (some ⟨nb, 0, none⟩)) i 32 #[.pointer (some ⟨W.heap.size, 0, none⟩), .pointer (some ⟨W.heap.size + 1, 0, none⟩)] W2 5 (fun W' hb => at_index (h2.out.below hb) i hi)).mono ?_
  rintro e w3 ⟨rfl, hb⟩
  have HX := Lib.hid (HB.out.trans (hb.mono HB.out.size))
  clear hb
  simp only []
  go_wp2_with fail
  refine ⟨rfl, _, ?_, rfl, HX.out⟩
  simp [results, Try.results16, go_sem]

set_option maxRecDepth 100000 in
theorem twice_ok {W : World} {nb mb : Nat} {lv : Value} {c : Nat} {s : St} (h : NetAt W nb mb lv c s) (i : Nat) (hi : i < s.l.length) (hr : s.l.length < 400) :
    Calls Try.prog 17 #[.pointer (some ⟨nb, 0, none⟩), .int .i64 (i : Int)] W fun e w' => e = .returned (.int .i64 0) ∧ ∃ lv', NetAt w' nb mb lv' c (s.add s.l[i]) ∧ Step nb mb lv W lv' w' := by
  have hmf : ∀ (fn : Fn) (first cap : Array Value) (w : World), (Instr.makeFunc fn first cap).run Try.prog w = .ok (.func fn first cap) w := fun _ _ _ _ => rfl
  obtain ⟨W2, hW2⟩ : ∃ W2, W2 = W.alloc (.cells #[.pointer (some ⟨nb, 0, none⟩)] 24) := ⟨_, rfl⟩
  have b2 : Below W.heap.size W W2 := by rw [hW2]; exact (Below.refl _ _).alloc (Nat.le_refl _) _
  have k0 : W2.cell? ⟨W.heap.size, 0, none⟩ = some (.pointer (some ⟨nb, 0, none⟩)) := by rw [hW2]; simp [go_sem]
  have hw := hW2.symm
  have HN := Lib.hid h
  have HB := Lib.hid b2
  have h2 := Lib.hid (h.turn (Tn.ofBelow (F := fun _ => False) b2) (fun _ _ e => e))
  have HK := Lib.hid k0
  clear h b2 hW2
  go_enter Try.func17, Try.ntmps17
  go_wp2_with fail
  refine (asked_run (.pointer (some ⟨nb, 0, none⟩)) (i : Int) 33 #[.pointer (some ⟨W.heap.size, 0, none⟩)] s.l[i] W2
    (fun code W' w' => code = 0 ∧ ∃ lv', NetAt w' nb mb lv' c (s.add s.l[i]) ∧ Step nb mb lv W' lv' w') (fun _ _ => rfl) (fun W' hb => at_ok (h2.out.below hb) i hi) (fun W' hb hlt => ?_)).mono ?_
  · have hsz := HB.out.size
    have hf := HN.out.foot_lt
    have hk0 := (hb.cell (World.block_lt_of_cell? _ _ HK.out)).trans HK.out
    refine (twice1_any (h2.out.below hb) hr s.l[i] W.heap.size hk0 (fun e => by have := hf _ e; omega)).mono ?_
    rintro e w' ⟨rfl, lv', hn, hs⟩
    exact ⟨Or.inl ⟨rfl, rfl, lv', hn, hs⟩, hs.tn.block _ hlt (fun e => by have := hf _ e; omega)⟩
  · rintro e w3 ⟨code, W', w2, rfl, hb, hlt, ⟨rfl, lv', hn, hs⟩, rfl⟩
    have HX := Lib.hid (asked_net HN.out HB.out hb hlt hn hs (.int .i64 0))
    obtain ⟨w4, hw4⟩ : ∃ w4, w4 = w2.setCell ⟨W2.heap.size, 0, none⟩ (.int .i64 0) := ⟨_, rfl⟩
    rw [← hw4] at HX ⊢
    clear hw4 hn hs
    simp only []
    go_wp2_with fail
    refine ⟨rfl, _, ?_, rfl, lv', HX.out⟩
    simp [results, Try.results17, go_sem]

set_option maxRecDepth 100000 in
theorem twice_bad {W : World} {nb mb : Nat} {lv : Value} {c : Nat} {s : St} (h : NetAt W nb mb lv c s) (i : Int) (hi : i < 0 ∨ s.l.length ≤ i) :
    Calls Try.prog 17 #[.pointer (some ⟨nb, 0, none⟩), .int .i64 i] W fun e w' => e = .returned (.int .i64 5) ∧ Below W.heap.size W w' := by
  have hmf : ∀ (fn : Fn) (first cap : Array Value) (w : World), (Instr.makeFunc fn first cap).run Try.prog w = .ok (.func fn first cap) w := fun _ _ _ _ => rfl
  obtain ⟨W2, hW2⟩ : ∃ W2, W2 = W.alloc (.cells #[.pointer (some ⟨nb, 0, none⟩)] 24) := ⟨_, rfl⟩
  have b2 : Below W.heap.size W W2 := by rw [hW2]; exact (Below.refl _ _).alloc (Nat.le_refl _) _
  have k0 : W2.cell? ⟨W.heap.size, 0, none⟩ = some (.pointer (some ⟨nb, 0, none⟩)) := by rw [hW2]; simp [go_sem]
  have hw := hW2.symm
  have HN := Lib.hid h
  have HB := Lib.hid b2
  have h2 := Lib.hid (h.turn (Tn.ofBelow (F := fun _ => False) b2) (fun _ _ e => e))
  have HK := Lib.hid k0
  clear h b2 hW2
  go_enter Try.func17, Try.ntmps17
  go_wp2_with fail
  refine (asked_bad (.pointer (some ⟨nb, 0, none⟩)) i 33 #[.pointer (some ⟨W.heap.size, 0, none⟩)] W2 5 (fun W' hb => at_index (h2.out.below hb) i hi)).mono ?_
  rintro e w3 ⟨rfl, hb⟩
  have HX := Lib.hid (HB.out.trans (hb.mono HB.out.size))
  clear hb
  simp only []
  go_wp2_with fail
  refine ⟨rfl, _, ?_, rfl, HX.out⟩
  simp [results, Try.results17, go_sem]

set_option maxRecDepth 100000 in
theorem twice_full {W : World} {nb mb : Nat} {lv : Value} {c : Nat} {s : St} (h : NetAt W nb mb lv c s) (i : Nat) (hi : i < s.l.length) (hr : 400 ≤ s.l.length) :
    Calls Try.prog 17 #[.pointer (some ⟨nb, 0, none⟩), .int .i64 (i : Int)] W fun e w' => e = .returned (.int .i64 24) ∧ Below W.heap.size W w' := by
  have hmf : ∀ (fn : Fn) (first cap : Array Value) (w : World), (Instr.makeFunc fn first cap).run Try.prog w = .ok (.func fn first cap) w := fun _ _ _ _ => rfl
  obtain ⟨W2, hW2⟩ : ∃ W2, W2 = W.alloc (.cells #[.pointer (some ⟨nb, 0, none⟩)] 24) := ⟨_, rfl⟩
  have b2 : Below W.heap.size W W2 := by rw [hW2]; exact (Below.refl _ _).alloc (Nat.le_refl _) _
  have k0 : W2.cell? ⟨W.heap.size, 0, none⟩ = some (.pointer (some ⟨nb, 0, none⟩)) := by rw [hW2]; simp [go_sem]
  have hw := hW2.symm
  have HN := Lib.hid h
  have HB := Lib.hid b2
  have h2 := Lib.hid (h.turn (Tn.ofBelow (F := fun _ => False) b2) (fun _ _ e => e))
  have HK := Lib.hid k0
  clear h b2 hW2
  go_enter Try.func17, Try.ntmps17
  go_wp2_with fail
  refine (asked_run (.pointer (some ⟨nb, 0, none⟩)) (i : Int) 33 #[.pointer (some ⟨W.heap.size, 0, none⟩)] s.l[i] W2
    (fun code W' w' => code = 24 ∧ Below W'.heap.size W' w') (fun _ _ => rfl) (fun W' hb => at_ok (h2.out.below hb) i hi) (fun W' hb hlt => ?_)).mono ?_
  · have hk0 := (hb.cell (World.block_lt_of_cell? _ _ HK.out)).trans HK.out
    refine (twice1_full (h2.out.below hb) hr s.l[i] W.heap.size hk0).mono ?_
    rintro e w' ⟨rfl, hn⟩
    exact ⟨Or.inr ⟨24, rfl, rfl, hn⟩, hn.block _ hlt⟩
  · rintro e w3 ⟨code, W', w2, rfl, hb, hlt, ⟨rfl, hn⟩, rfl⟩
    have hs1 := HB.out.size
    have hs2 := hb.size
    have HX := Lib.hid (((HB.out.trans (hb.mono hs1)).trans (hn.mono (Nat.le_trans hs1 hs2))).setCell (p := ⟨W2.heap.size, 0, none⟩) hs1 (.int .i64 24))
    obtain ⟨w4, hw4⟩ : ∃ w4, w4 = w2.setCell ⟨W2.heap.size, 0, none⟩ (.int .i64 24) := ⟨_, rfl⟩
    rw [← hw4] at HX ⊢
    clear hw4 hn hs1 hs2
    simp only []
    go_wp2_with fail
    refine ⟨rfl, _, ?_, rfl, HX.out⟩
    simp [results, Try.results17, go_sem]

end Go.Proofs.Ytanekdcmealoeaa
