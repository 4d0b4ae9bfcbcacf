/-
  The document's net: Send.
-/
import Derived.Test.YtanekdcmealoeaaRefB
namespace Go.Proofs.Ytanekdcmealoeaa
open Go.RowKit Go.Maps

/-- Only the net's own block turned, and what its slices lie in is what it was, or new. -/
structure RStep (rb : Nat) (lr cr : Value) (w : World) (lr' cr' : Value) (w' : World) : Prop where
  tn : Tn (fun k => k = rb) w w'
  new : ∀ k, RFoot rb lr' cr' k → RFoot rb lr cr k ∨ w.heap.size ≤ k
theorem RStep.refl {rb : Nat} {lr cr : Value} {w w' : World} (h : Tn (fun k => k = rb) w w') : RStep rb lr cr w lr cr w' := ⟨h, fun _ hk => Or.inl hk⟩
theorem RStep.trans {rb : Nat} {l1 c1 l2 c2 l3 c3 : Value} {a b c : World} (h : RStep rb l1 c1 a l2 c2 b) (k : RStep rb l2 c2 b l3 c3 c) : RStep rb l1 c1 a l3 c3 c :=
  ⟨h.tn.trans k.tn, fun i hi => (k.new i hi).elim (fun e => h.new i e) (fun e => Or.inr (Nat.le_trans h.tn.size e))⟩

theorem ne_off {b i j : Nat} (h : i ≠ j) : (⟨b, i, none⟩ : Addr) ≠ ⟨b, j, none⟩ := fun e => h (by injection e)

theorem RefAt.relist {w w1 : World} {rb : Nat} {lr cr lr' : Value} {cl : List (Int × Int)} {s : St} {l' : List Msg} (h : RefAt w rb lr cr cl s) (ht : Tn (fun _ => False) w w1) (hrow : OwnR w1 lr' l') (hlen : l'.length ≤ 400) (hnl : lr'.ownBlock ≠ some rb) :
    RefAt (w1.setCell ⟨rb, 1, none⟩ lr') rb lr' cr cl { s with l := l' } := by
  have k0 := ht.cell h.c0 (fun e => e)
  have k1 := ht.cell h.c1 (fun e => e)
  have k2 := ht.cell h.c2 (fun e => e)
  have k3 := ht.cell h.c3 (fun e => e)
  have hts : Tn (fun k => k = rb) w1 (w1.setCell ⟨rb, 1, none⟩ lr') := Tn.setCell _ _ _ rfl
  refine ⟨?_, World.cell?_setCell_same _ _ _ k1, ?_, ?_, fun j => by rw [World.frozen?_setCell]; exact (ht.frozen h.lt (fun e => e)).trans (h.fz j), hts.row hrow (fun k hk e => hnl (e ▸ hk)), ?_, h.cut, hnl, h.nc, h.n0, h.n8, hlen, h.l0⟩
  · rw [World.cell?_setCell_other _ _ _ _ (ne_off (by decide))]; exact k0
  · rw [World.cell?_setCell_other _ _ _ _ (ne_off (by decide))]; exact k2
  · rw [World.cell?_setCell_other _ _ _ _ (ne_off (by decide))]; exact k3
  · exact hts.row (ht.row h.cuts (fun _ _ e => e)) (fun k hk e => h.nc (e ▸ hk))

theorem RefAt.setLost {w : World} {rb : Nat} {lr cr : Value} {cl : List (Int × Int)} {s : St} (h : RefAt w rb lr cr cl s) (x : Int) (h0 : 0 ≤ x) : RefAt (w.setCell ⟨rb, 3, none⟩ (.int .i64 x)) rb lr cr cl { s with lost := x } := by
  have hts : Tn (fun k => k = rb) w (w.setCell ⟨rb, 3, none⟩ (.int .i64 x)) := Tn.setCell _ _ _ rfl
  refine ⟨?_, ?_, ?_, World.cell?_setCell_same _ _ _ h.c3, fun j => by rw [World.frozen?_setCell]; exact h.fz j, hts.row h.row (fun k hk e => h.nl (e ▸ hk)), hts.row h.cuts (fun k hk e => h.nc (e ▸ hk)), h.cut, h.nl, h.nc, h.n0, h.n8, h.len, h0⟩
  · rw [World.cell?_setCell_other _ _ _ _ (ne_off (by decide))]; exact h.c0
  · rw [World.cell?_setCell_other _ _ _ _ (ne_off (by decide))]; exact h.c1
  · rw [World.cell?_setCell_other _ _ _ _ (ne_off (by decide))]; exact h.c2

theorem RefAt.form {w : World} {rb : Nat} {lr cr : Value} {cl : List (Int × Int)} {s : St} (h : RefAt w rb lr cr cl s) : ∃ a cap, lr = .slice a s.l.length cap := by
  rcases own_reads h.row with ⟨rfl, h0⟩ | ⟨g, cap, rfl, _⟩
  · exact ⟨none, 0, by rw [h0]⟩
  · exact ⟨_, _, rfl⟩

set_option maxRecDepth 100000 in
theorem rsend_none {w : World} {rb : Nat} {lr cr : Value} {cl : List (Int × Int)} {s : St} (h : RefAt w rb lr cr cl s) (a b : Int) (d : ByteArray) (hw : s.way a b = false) :
    Calls Try.prog 18 #[.pointer (some ⟨rb, 0, none⟩), .int .i64 a, .int .i64 b, .string d] w fun e w' => e = .returned (.int .i64 1) ∧ w = w' := by
  have HN := Lib.hid h
  clear h
  go_enter Try.func18, Try.ntmps18
  go_wp2_with (go_at_call 34; refine (rways_any HN.out a b).mono ?_; rintro _ _ ⟨rfl, rfl⟩; simp only [hw])
  go_ret
  exact ⟨rfl, rfl⟩

set_option maxRecDepth 100000 in
theorem rsend_long {w : World} {rb : Nat} {lr cr : Value} {cl : List (Int × Int)} {s : St} (h : RefAt w rb lr cr cl s) (a b : Int) (d : ByteArray) (hw : s.way a b = true) (hd : 65536 < d.size) :
    Calls Try.prog 18 #[.pointer (some ⟨rb, 0, none⟩), .int .i64 a, .int .i64 b, .string d] w fun e w' => e = .returned (.int .i64 2) ∧ w = w' := by
  have HN := Lib.hid h
  have t1 : decide ((65536 : Int) < (d.size : Int)) = true := by simp; omega
  clear h
  go_enter Try.func18, Try.ntmps18
  go_wp2_with (go_at_call 34; refine (rways_any HN.out a b).mono ?_; rintro _ _ ⟨rfl, rfl⟩; simp only [hw])
  go_ret
  exact ⟨rfl, rfl⟩

set_option maxRecDepth 100000 in
theorem rsend_lose {w : World} {rb : Nat} {lr cr : Value} {cl : List (Int × Int)} {s : St} (h : RefAt w rb lr cr cl s) (a b : Int) (d : ByteArray) (hw : s.way a b = true) (hd : d.size ≤ 65536) (hc : s.cut a b = true ∨ 400 ≤ s.l.length) (hx : s.lost ≤ 100000) :
    Calls Try.prog 18 #[.pointer (some ⟨rb, 0, none⟩), .int .i64 a, .int .i64 b, .string d] w fun e w' => e = .returned (.int .i64 0) ∧ RefAt w' rb lr cr cl s.lose ∧ RStep rb lr cr w lr cr w' := by
  have t1 : decide ((65536 : Int) < (d.size : Int)) = false := by simp; omega
  have t1n : ¬ 65536 < d.size := by omega
  have h3 := h.c3
  have hf := h.fz 3
  have h0 := h.l0
  have hls : s.lose = { s with lost := s.lost + 1 } := by rw [St.lose, if_pos (by omega)]
  have HL := Lib.hid hls
  have HN := Lib.hid h
  obtain ⟨x, hxe⟩ : ∃ x, x = s.lost := ⟨_, rfl⟩
  rw [← hxe] at h3 h0 hx
  have HX := Lib.hid hxe
  have hadd : IntKind.i64.wrap (x + 1) = x + 1 := by rw [IntKind.wrap_i64]; omega
  cases hcc : s.cut a b with
  | true =>
    clear h hd hc hxe hls
    go_enter Try.func18, Try.ntmps18
    go_wp2_with (first | (go_at_call 34; refine (rways_any HN.out a b).mono ?_; rintro _ _ ⟨rfl, rfl⟩; simp only [hw]) | (go_at_call 25; refine (riscut_any HN.out a b).mono ?_; rintro _ _ ⟨rfl, rfl⟩; simp only [hcc]))
    go_ret
    exact ⟨rfl, by rw [HL.out, ← HX.out]; exact HN.out.setLost _ (by omega), RStep.refl (Tn.setCell _ _ _ rfl)⟩
  | false =>
    obtain ⟨a0, cap, hlr⟩ := h.form
    have h1 := h.c1
    obtain ⟨n, hn⟩ : ∃ n, n = s.l.length := ⟨_, rfl⟩
    rw [hlr, ← hn] at h1
    have hl4 : 400 ≤ n := by rw [hn]; exact hc.resolve_left (by rw [hcc]; simp)
    have t2 : decide ((400 : Int) ≤ (n : Int)) = true := by simp; omega
    clear h hd hc hxe hls hlr hn
    go_enter Try.func18, Try.ntmps18
    go_wp2_with (first | (go_at_call 34; refine (rways_any HN.out a b).mono ?_; rintro _ _ ⟨rfl, rfl⟩; simp only [hw]) | (go_at_call 25; refine (riscut_any HN.out a b).mono ?_; rintro _ _ ⟨rfl, rfl⟩; simp only [hcc]))
    go_ret
    exact ⟨rfl, by rw [HL.out, ← HX.out]; exact HN.out.setLost _ (by omega), RStep.refl (Tn.setCell _ _ _ rfl)⟩

set_option maxRecDepth 100000 in
set_option maxHeartbeats 400000 in
theorem rsend_ok {w : World} {rb : Nat} {lr cr : Value} {cl : List (Int × Int)} {s : St} (h : RefAt w rb lr cr cl s) (a b : Int) (d : ByteArray) (hw : s.way a b = true) (hd : d.size ≤ 65536) (hcc : s.cut a b = false) (hl4 : s.l.length < 400) :
    Calls Try.prog 18 #[.pointer (some ⟨rb, 0, none⟩), .int .i64 a, .int .i64 b, .string d] w fun e w' => e = .returned (.int .i64 0) ∧ ∃ lr', RefAt w' rb lr' cr cl (s.add ⟨a, b, d⟩) ∧ RStep rb lr cr w lr' cr w' := by
  have t1 : decide ((65536 : Int) < (d.size : Int)) = false := by simp; omega
  have t1n : ¬ 65536 < d.size := by omega
  have HN := Lib.hid h
  obtain ⟨a0, cap, hlr⟩ := h.form
  have h1 := h.c1
  have hf := h.fz 1
  obtain ⟨n, hn⟩ : ∃ n, n = s.l.length := ⟨_, rfl⟩
  rw [hlr, ← hn] at h1
  have hl4n : n < 400 := by omega
  have t2 : decide ((400 : Int) ≤ (n : Int)) = false := by simp; omega
  have HE := Lib.hid (And.intro hlr hn)
  have HSRC : Hid (SrcR w (.slice a0 n cap) s.l) := by unfold Hid; rw [hn, ← hlr]; exact src_own h.row
  have HC1 := Lib.hid h
  clear h hd hlr hn hl4
  go_enter Try.func18, Try.ntmps18
  go_wp2_with (first | (go_at_call 34; refine (rways_any HN.out a b).mono ?_; rintro _ _ ⟨rfl, rfl⟩; simp only [hw]) | (go_at_call 25; refine (riscut_any HN.out a b).mono ?_; rintro _ _ ⟨rfl, rfl⟩; simp only [hcc]) | (at_builtin; refine wpList_app rfl _ _ rfl (.slice none 0 0) [] rfl (own_nil _) (.slice a0 n cap) s.l rfl HSRC.out (by have := HE.out.2; simp only [List.length_nil]; omega) ?_))
  intro v1 w1 ho1 hg1 hb1
  have ht1 : Tn (fun _ => False) w w1 := Tn.ofGrown hg1 (fun k hk => by simp [Value.ownBlock] at hk)
  have hb1' : v1.ownBlock ≠ some rb := by
    intro e
    rcases hb1 with h | h
    · rw [e] at h; simp [Value.ownBlock] at h
    · rw [e] at h; have := HN.out.lt; injection h with h; omega
  have hf1 := (ht1.frozen HN.out.lt (fun e => e)).trans hf
  have hc1 := ht1.cell h1 (fun e => e)
  obtain ⟨a1, n1, cap1, rfl⟩ := own_formR ho1
  have HO1 := Lib.hid (And.intro ho1 (And.intro ht1 hb1'))
  have HB1 := Lib.hid hb1
  clear ho1 ht1 hb1' hg1 hb1
  obtain ⟨w2, hw2⟩ : ∃ w2, w1.alloc (.cells #[.int .i64 a, .int .i64 b, .string d] 46) = w2 := ⟨_, rfl⟩
  have hta : Tn (fun _ => False) w1 w2 := by rw [← hw2]; exact Tn.alloc _ _
  have HS2 := Lib.hid (src_one w1 ⟨a, b, d⟩ w2 hw2.symm)
  have HO2 := Lib.hid (hta.row HO1.out.1 (fun _ _ e => e))
  have HT2 := Lib.hid hta
  clear hta
  go_wp2_with (at_builtin; refine wpList_app rfl _ _ rfl (.slice a1 n1 cap1) s.l rfl HO2.out (.slice (some ⟨w1.heap.size, 0, none⟩) 1 1) [⟨a, b, d⟩] rfl HS2.out (by have := HE.out.2; simp only [List.length_cons, List.length_nil]; omega) ?_)
  intro v3 w3 ho3 hg3 hb3
  have ht3 : Tn (fun k => (Value.slice a1 n1 cap1).ownBlock = some k) w2 w3 := Tn.ofGrown hg3 (fun _ hk => hk)
  have hlt2 : rb < w2.heap.size := by have := HN.out.lt; have := HO1.out.2.1.size; have := HT2.out.size; omega
  have htw : Tn (fun _ => False) w w3 := by
    refine (HO1.out.2.1.trans HT2.out).andThen ht3 (fun k hk => Or.inr ?_)
    rcases HB1.out with h | h
    · rw [hk] at h; simp [Value.ownBlock] at h
    · rw [hk] at h; injection h with h; omega
  have hc3 := htw.cell h1 (fun e => e)
  have hf3 := (htw.frozen HN.out.lt (fun e => e)).trans hf
  have hb3' : v3.ownBlock ≠ some rb := by
    intro e
    rcases hb3 with h | h
    · rw [e] at h; exact HO1.out.2.2 h.symm
    · rw [e] at h; injection h with h; omega
  have hnew : ∀ k, v3.ownBlock = some k → w.heap.size ≤ k := by
    intro k hk
    have z1 := HO1.out.2.1.size
    have z2 := HT2.out.size
    rcases hb3 with h | h
    · rw [hk] at h
      rcases HB1.out with h2 | h2
      · rw [← h] at h2; simp [Value.ownBlock] at h2
      · rw [← h] at h2; injection h2 with h2; omega
    · rw [hk] at h; injection h with h; omega
  obtain ⟨a3, n3, cap3, rfl⟩ := own_formR ho3
  have HX := Lib.hid (And.intro (HN.out.relist (l' := s.l ++ [⟨a, b, d⟩]) htw ho3 (by rw [List.length_append]; have := HE.out.2; simp only [List.length_cons, List.length_nil]; omega) hb3') (And.intro htw hnew))
  clear ho3 hg3 hb3 hb3' hnew ht3 hlt2 htw hc1 hf1
  go_wp2
  refine ⟨rfl, _, ?_, rfl, _, HX.out.1, HX.out.2.1.mono (fun _ e => e.elim) |>.trans (Tn.setCell _ _ _ rfl), ?_⟩
  · simp [results, Try.results18, go_sem]
  · rintro k (hk | hk | hk)
    · exact Or.inl (Or.inl hk)
    · exact Or.inr (HX.out.2.2 k hk)
    · exact Or.inl (Or.inr (Or.inr hk))
end Go.Proofs.Ytanekdcmealoeaa
