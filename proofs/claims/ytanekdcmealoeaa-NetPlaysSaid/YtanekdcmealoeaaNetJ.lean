/-
  The walks of Peek and Deliver.
-/
import Derived.Test.YtanekdcmealoeaaNetI
namespace Go.Proofs.Ytanekdcmealoeaa
open Go.RowKit Go.Maps

theorem Tn.drewN {F : Nat → Prop} (w : World) (n : Nat) : Tn F w (w.drewN n) := ⟨rfl, rfl, rfl, Nat.le_refl _, fun _ _ _ => rfl⟩

def msg0 : Msg := ⟨0, 0, ⟨#[]⟩⟩
theorem new_msg (w : World) : MAt (w.alloc (.cells #[.int .i64 0, .int .i64 0, .string ⟨#[]⟩] 55)) w.heap.size msg0 := by
  refine ⟨?_, ?_, ?_, fun j => ?_⟩ <;> simp [go_sem, msg0]

set_option maxRecDepth 100000 in
theorem peek_ok {W : World} {nb mb : Nat} {lv : Value} {c : Nat} {s : St} (h : NetAt W nb mb lv c s) (i : Nat) (hi : i < s.l.length) :
    Calls Try.prog 19 #[.pointer (some ⟨nb, 0, none⟩), .int .i64 (i : Int)] W fun e w' => e = .returned (.tuple #[.int .i64 s.l[i].f, .int .i64 s.l[i].t, .string s.l[i].d, .int .i64 0]) ∧ Below W.heap.size W w' := by
  have hmf : ∀ (fn : Fn) (first cap : Array Value) (w : World), (Instr.makeFunc fn first cap).run Try.prog w = .ok (.func fn first cap) w := fun _ _ _ _ => rfl
  obtain ⟨W2, hW2⟩ : ∃ W2, W2 = W.alloc (.cells #[.int .i64 0, .int .i64 0, .string ⟨#[]⟩] 55) := ⟨_, rfl⟩
  have b2 : Below W.heap.size W W2 := by rw [hW2]; exact (Below.refl _ _).alloc (Nat.le_refl _) _
  have hm2 : MAt W2 W.heap.size msg0 := by rw [hW2]; exact new_msg W
  have hsz : W2.heap.size = W.heap.size + 1 := by rw [hW2]; simp
  have hw := hW2.symm
  have hz := @zero55
  have HN := Lib.hid h
  have HB := Lib.hid b2
  have h2 := Lib.hid (h.turn (Tn.ofBelow (F := fun _ => False) b2) (fun _ _ e => e))
  have HM := Lib.hid hm2
  have HZ := Lib.hid hsz
  clear h b2 hW2 hm2 hsz
  go_enter Try.func19, Try.ntmps19
  go_wp2_with fail
  refine (asked_run (.pointer (some ⟨nb, 0, none⟩)) (i : Int) 35 #[.pointer (some ⟨W.heap.size, 0, none⟩)] s.l[i] W2
    (fun code W' w' => code = 0 ∧ MAt w' W.heap.size s.l[i] ∧ Tn (fun k => k = W.heap.size) W' w') (fun _ _ => rfl) (fun W' hb => at_ok (h2.out.below hb) i hi) (fun W' hb hlt => ?_)).mono ?_
  · have hsz := HZ.out
    refine (peek1_any (HM.out.turn (Tn.ofBelow (F := fun _ => False) hb) (fun e => e)) s.l[i]).mono ?_
    rintro e w' ⟨rfl, hm, ht⟩
    exact ⟨Or.inl ⟨rfl, rfl, hm, ht⟩, ht.block _ hlt (fun e => by omega)⟩
  · rintro e w3 ⟨code, W', w2, rfl, hb, hlt, ⟨rfl, hm, ht⟩, rfl⟩
    have hsz := HZ.out
    have hs2 := hb.size
    have hm4 := hm.turn (Tn.setCell (F := fun k => k = W2.heap.size) w2 ⟨W2.heap.size, 0, none⟩ (.int .i64 0) rfl) (fun e => by omega)
    have hb4 : Below W.heap.size W (w2.setCell ⟨W2.heap.size, 0, none⟩ (.int .i64 0)) :=
      ((HB.out.trans (hb.mono HB.out.size)).trans (ht.below (by omega) (fun k e => by omega))).setCell (p := ⟨W2.heap.size, 0, none⟩) HB.out.size _
    obtain ⟨w4, hw4⟩ : ∃ w4, w4 = w2.setCell ⟨W2.heap.size, 0, none⟩ (.int .i64 0) := ⟨_, rfl⟩
    rw [← hw4] at hm4 hb4 ⊢
    have HX := Lib.hid hb4
    have k0 := hm4.c0
    have k1 := hm4.c1
    have k2 := hm4.c2
    clear hw4 hm ht hs2 hsz hb4 hm4 hw
    simp only []
    go_wp2_with fail
    go_quiet (fail)
    go_wp2
    refine ⟨rfl, _, ?_, rfl, HX.out.trans ((Tn.drewN (F := fun _ => False) _ _).below HX.out.size (fun _ e => e.elim))⟩
    simp [results, Try.results19, go_sem]

set_option maxRecDepth 100000 in
theorem peek_bad {W : World} {nb mb : Nat} {lv : Value} {c : Nat} {s : St} (h : NetAt W nb mb lv c s) (i : Int) (hi : i < 0 ∨ s.l.length ≤ i) :
    Calls Try.prog 19 #[.pointer (some ⟨nb, 0, none⟩), .int .i64 i] W fun e w' => e = .returned (.tuple #[.int .i64 0, .int .i64 0, .string ⟨#[]⟩, .int .i64 5]) ∧ Below W.heap.size W w' := by
  have hmf : ∀ (fn : Fn) (first cap : Array Value) (w : World), (Instr.makeFunc fn first cap).run Try.prog w = .ok (.func fn first cap) w := fun _ _ _ _ => rfl
  obtain ⟨W2, hW2⟩ : ∃ W2, W2 = W.alloc (.cells #[.int .i64 0, .int .i64 0, .string ⟨#[]⟩] 55) := ⟨_, rfl⟩
  have b2 : Below W.heap.size W W2 := by rw [hW2]; exact (Below.refl _ _).alloc (Nat.le_refl _) _
  have hm2 : MAt W2 W.heap.size msg0 := by rw [hW2]; exact new_msg W
  have hsz : W2.heap.size = W.heap.size + 1 := by rw [hW2]; simp
  have hw := hW2.symm
  have hz := @zero55
  have HN := Lib.hid h
  have HB := Lib.hid b2
  have h2 := Lib.hid (h.turn (Tn.ofBelow (F := fun _ => False) b2) (fun _ _ e => e))
  have HM := Lib.hid hm2
  have HZ := Lib.hid hsz
  clear h b2 hW2 hm2 hsz
  go_enter Try.func19, Try.ntmps19
  go_wp2_with fail
  refine (asked_bad (.pointer (some ⟨nb, 0, none⟩)) i 35 #[.pointer (some ⟨W.heap.size, 0, none⟩)] W2 5 (fun W' hb => at_index (h2.out.below hb) i hi)).mono ?_
  rintro e w4 ⟨rfl, hb⟩
  have hsz := HZ.out
  have hm4 := HM.out.turn (Tn.ofBelow (F := fun _ => False) hb) (fun e => e)
  have HX := Lib.hid (HB.out.trans (hb.mono HB.out.size))
  have k0 := hm4.c0
  have k1 := hm4.c1
  have k2 := hm4.c2
  unfold msg0 at k0 k1 k2
  clear hb hm4 hw
  simp only []
  go_wp2_with fail
  go_quiet (fail)
  go_wp2
  refine ⟨rfl, _, ?_, rfl, HX.out.trans ((Tn.drewN (F := fun _ => False) _ _).below HX.out.size (fun _ e => e.elim))⟩
  simp [results, Try.results19, go_sem]

set_option maxRecDepth 100000 in
theorem deliver_ok {W : World} {nb mb : Nat} {lv : Value} {c : Nat} {s : St} (h : NetAt W nb mb lv c s) (i : Nat) (hi : i < s.l.length) :
    Calls Try.prog 11 #[.pointer (some ⟨nb, 0, none⟩), .int .i64 (i : Int)] W fun e w' => e = .returned (.tuple #[.int .i64 s.l[i].f, .int .i64 s.l[i].t, .string s.l[i].d, .int .i64 0]) ∧ ∃ lv', NetAt w' nb mb lv' c (s.take i) ∧ Step nb mb lv W lv' w' := by
  have hmf : ∀ (fn : Fn) (first cap : Array Value) (w : World), (Instr.makeFunc fn first cap).run Try.prog w = .ok (.func fn first cap) w := fun _ _ _ _ => rfl
  obtain ⟨W2, hW2⟩ : ∃ W2, W2 = ((W.alloc (.cells #[.pointer (some ⟨nb, 0, none⟩)] 24)).alloc (.cells #[.int .i64 (i : Int)] 3)).alloc (.cells #[.int .i64 0, .int .i64 0, .string ⟨#[]⟩] 55) := ⟨_, rfl⟩
  have b2 : Below W.heap.size W W2 := by rw [hW2]; exact (((Below.refl _ _).alloc (Nat.le_refl _) _).alloc (by simp) _).alloc (by simp; omega) _
  have hm2 : MAt W2 (W.heap.size + 1 + 1) msg0 := by
    have := new_msg ((W.alloc (.cells #[.pointer (some ⟨nb, 0, none⟩)] 24)).alloc (.cells #[.int .i64 (i : Int)] 3))
    rw [← hW2] at this
    simpa using this
  have k0 : W2.cell? ⟨W.heap.size, 0, none⟩ = some (.pointer (some ⟨nb, 0, none⟩)) := by rw [hW2]; simp [go_sem]
  have k1 : W2.cell? ⟨W.heap.size + 1, 0, none⟩ = some (.int .i64 (i : Int)) := by rw [hW2]; simp [go_sem]
  have HK := Lib.hid (And.intro k0 k1)
  have hsz : W2.heap.size = W.heap.size + 1 + 1 + 1 := by rw [hW2]; simp
  have hw := hW2.symm
  have hz := @zero55
  have HN := Lib.hid h
  have HB := Lib.hid b2
  have h2 := Lib.hid (h.turn (Tn.ofBelow (F := fun _ => False) b2) (fun _ _ e => e))
  have HM := Lib.hid hm2
  have HZ := Lib.hid hsz
  clear h b2 hW2 hm2 hsz
  go_enter Try.func11, Try.ntmps11
  go_wp2_with fail
  refine (asked_run (.pointer (some ⟨nb, 0, none⟩)) (i : Int) 30 #[.pointer (some ⟨W.heap.size + 1 + 1, 0, none⟩), .pointer (some ⟨W.heap.size, 0, none⟩), .pointer (some ⟨W.heap.size + 1, 0, none⟩)] s.l[i] W2
    (fun code W' w' => code = 0 ∧ (∃ lv', NetAt w' nb mb lv' c (s.take i) ∧ Tn (fun k => Foot nb mb lv k ∨ k = W.heap.size + 1 + 1) W' w' ∧ lv'.ownBlock = lv.ownBlock) ∧ MAt w' (W.heap.size + 1 + 1) s.l[i]) (fun _ _ => rfl) (fun W' hb => at_ok (h2.out.below hb) i hi) (fun W' hb hlt => ?_)).mono ?_
  · have hsz := HZ.out
    have hf := HN.out.foot_lt
    have hk0 := (hb.cell (World.block_lt_of_cell? _ _ HK.out.1)).trans HK.out.1
    have hk1 := (hb.cell (World.block_lt_of_cell? _ _ HK.out.2)).trans HK.out.2
    refine (deliver1_any (h2.out.below hb) i hi s.l[i] (W.heap.size + 1 + 1) W.heap.size (W.heap.size + 1) (HM.out.turn (Tn.ofBelow (F := fun _ => False) hb) (fun e => e)) hk0 hk1
      (fun e => by have := hf _ e; omega) (fun e => by have := hf _ e; omega) (fun e => by have := hf _ e; omega) (by omega) (by omega)).mono ?_
    rintro e w' ⟨rfl, ⟨lv', hn, ht, ho⟩, hm⟩
    exact ⟨Or.inl ⟨rfl, rfl, ⟨lv', hn, ht, ho⟩, hm⟩, ht.block _ hlt (fun e => e.elim (fun e => by have := hf _ e; omega) (fun e => by omega))⟩
  · rintro e w3 ⟨code, W', w2, rfl, hb, hlt, ⟨rfl, ⟨lv', hn, ht, ho⟩, hm⟩, rfl⟩
    have hsz := HZ.out
    have hs2 := hb.size
    have hf := HN.out.foot_lt
    have hm4 := hm.turn (Tn.setCell (F := fun k => k = W2.heap.size) w2 ⟨W2.heap.size, 0, none⟩ (.int .i64 0) rfl) (fun e => by omega)
    have hn4 : NetAt (w2.setCell ⟨W2.heap.size, 0, none⟩ (.int .i64 0)) nb mb lv' c (s.take i) := by
      refine hn.turn (Tn.setCell (F := fun k => k = W2.heap.size) _ _ _ rfl) ?_
      rintro k hk e
      have e : k = W2.heap.size := e
      have hk2 : Foot nb mb lv k := by
        rcases hk with h | h | h
        · exact Or.inl h
        · exact Or.inr (Or.inl h)
        · exact Or.inr (Or.inr (ho ▸ h))
      have := hf k hk2
      omega
    have ht4 : Tn (Foot nb mb lv) W (w2.setCell ⟨W2.heap.size, 0, none⟩ (.int .i64 0)) := by
      have h0 : Tn (Foot nb mb lv) W W' := (Tn.ofBelow HB.out).andThen (Tn.ofBelow (F := fun _ => False) hb) (fun _ e => e.elim)
      refine (h0.andThen ht (fun k e => e.imp id (fun e => by omega))).andThen (Tn.setCell (F := fun k => k = W2.heap.size) _ _ _ rfl) (fun k e => Or.inr (by omega))
    obtain ⟨w4, hw4⟩ : ∃ w4, w4 = w2.setCell ⟨W2.heap.size, 0, none⟩ (.int .i64 0) := ⟨_, rfl⟩
    rw [← hw4] at hm4 hn4 ht4 ⊢
    have HX := Lib.hid (And.intro hn4 (And.intro ht4 ho))
    have k0 := hm4.c0
    have k1 := hm4.c1
    have k2 := hm4.c2
    clear hw4 hm ht hs2 hsz hn4 hm4 ht4 hw hn ho hf
    simp only []
    go_wp2_with fail
    go_quiet (fail)
    go_wp2
    refine ⟨rfl, _, ?_, rfl, lv', HX.out.1.turn (Tn.drewN (F := fun _ => False) w4 _) (fun _ _ e => e), HX.out.2.1.trans (Tn.drewN _ _), fun k hk => Or.inl (HX.out.2.2 ▸ hk)⟩
    simp [results, Try.results11, go_sem]

set_option maxRecDepth 100000 in
theorem deliver_bad {W : World} {nb mb : Nat} {lv : Value} {c : Nat} {s : St} (h : NetAt W nb mb lv c s) (i : Int) (hi : i < 0 ∨ s.l.length ≤ i) :
    Calls Try.prog 11 #[.pointer (some ⟨nb, 0, none⟩), .int .i64 i] W fun e w' => e = .returned (.tuple #[.int .i64 0, .int .i64 0, .string ⟨#[]⟩, .int .i64 5]) ∧ Below W.heap.size W w' := by
  have hmf : ∀ (fn : Fn) (first cap : Array Value) (w : World), (Instr.makeFunc fn first cap).run Try.prog w = .ok (.func fn first cap) w := fun _ _ _ _ => rfl
  obtain ⟨W2, hW2⟩ : ∃ W2, W2 = ((W.alloc (.cells #[.pointer (some ⟨nb, 0, none⟩)] 24)).alloc (.cells #[.int .i64 i] 3)).alloc (.cells #[.int .i64 0, .int .i64 0, .string ⟨#[]⟩] 55) := ⟨_, rfl⟩
  have b2 : Below W.heap.size W W2 := by rw [hW2]; exact (((Below.refl _ _).alloc (Nat.le_refl _) _).alloc (by simp) _).alloc (by simp; omega) _
  have hm2 : MAt W2 (W.heap.size + 1 + 1) msg0 := by
    have := new_msg ((W.alloc (.cells #[.pointer (some ⟨nb, 0, none⟩)] 24)).alloc (.cells #[.int .i64 i] 3))
    rw [← hW2] at this
    simpa using this
  have k0 : W2.cell? ⟨W.heap.size, 0, none⟩ = some (.pointer (some ⟨nb, 0, none⟩)) := by rw [hW2]; simp [go_sem]
  have k1 : W2.cell? ⟨W.heap.size + 1, 0, none⟩ = some (.int .i64 i) := by rw [hW2]; simp [go_sem]
  have HK := Lib.hid (And.intro k0 k1)
  have hsz : W2.heap.size = W.heap.size + 1 + 1 + 1 := by rw [hW2]; simp
  have hw := hW2.symm
  have hz := @zero55
  have HN := Lib.hid h
  have HB := Lib.hid b2
  have h2 := Lib.hid (h.turn (Tn.ofBelow (F := fun _ => False) b2) (fun _ _ e => e))
  have HM := Lib.hid hm2
  have HZ := Lib.hid hsz
  clear h b2 hW2 hm2 hsz
  go_enter Try.func11, Try.ntmps11
  go_wp2_with fail
  refine (asked_bad (.pointer (some ⟨nb, 0, none⟩)) i 30 #[.pointer (some ⟨W.heap.size + 1 + 1, 0, none⟩), .pointer (some ⟨W.heap.size, 0, none⟩), .pointer (some ⟨W.heap.size + 1, 0, none⟩)] W2 5 (fun W' hb => at_index (h2.out.below hb) i hi)).mono ?_
  rintro e w4 ⟨rfl, hb⟩
  have hsz := HZ.out
  have hm4 := HM.out.turn (Tn.ofBelow (F := fun _ => False) hb) (fun e => e)
  have HX := Lib.hid (HB.out.trans (hb.mono HB.out.size))
  have r0 := hm4.c0
  have r1 := hm4.c1
  have r2 := hm4.c2
  unfold msg0 at r0 r1 r2
  clear hb hm4 hw
  simp only []
  go_wp2_with fail
  go_quiet (fail)
  go_wp2
  refine ⟨rfl, _, ?_, rfl, HX.out.trans ((Tn.drewN (F := fun _ => False) _ _).below HX.out.size (fun _ e => e.elim))⟩
  simp [results, Try.results11, go_sem]

end Go.Proofs.Ytanekdcmealoeaa
