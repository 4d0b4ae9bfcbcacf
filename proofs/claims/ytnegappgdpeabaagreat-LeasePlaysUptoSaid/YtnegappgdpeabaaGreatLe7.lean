import Derived.Test.YtnegappgdpeabaaGreatLe6
import Derived.Test.YtnegappgdpeabaaGreatLe4
set_option linter.unusedSimpArgs false
set_option linter.unusedVariables false
/-
  Lease: leases are read.
-/
namespace Go.Proofs.YtnegappgdpeabaaGreat
open Go.RowKit
variable {w w' w0 w1 w2 w3 w4 : World} {mb lb B : Nat} {ob : Option Nat} {m : Lm} {last now ahead : Int} {s r : ByteArray}

theorem cell_ob {a b i j : Nat} {u v : Value} (h : w.cell? ⟨b, j, none⟩ = some u) (hab : a ≠ b) : (w.setCell ⟨a, i, none⟩ v).cell? ⟨b, j, none⟩ = some u := by
  rw [World.cell?_setCell_other _ _ _ _ (by intro e; injection e with e1 _; exact hab e1)]
  exact h
/-- What has been read so far. -/
structure RdSt (w0 w : World) (s : ByteArray) (m : Lm) (last ahead : Int) (r : ByteArray) : Prop where
  cb : w.cell? ⟨w0.heap.size, 0, none⟩ = some (.string r)
  fb : w.frozen? ⟨w0.heap.size, 0, none⟩ = false
  c0 : w.cell? ⟨w0.heap.size + 1 + 1, 0, none⟩ = some (.map (some (w0.heap.size + 1)))
  c1 : w.cell? ⟨w0.heap.size + 1 + 1, 1, none⟩ = some (.int .i64 last)
  fz : ∀ j, w.frozen? ⟨w0.heap.size + 1 + 1, j, none⟩ = false
  mp : MapL ckZ cvL w (w0.heap.size + 1) m
  rise : (m.map (·.1)).Pairwise (· < ·)
  key : ∀ p ∈ m, 1 ≤ p.1 ∧ p.1 ≤ ahead ∧ p.2.id = p.1 ∧ validB p.2.vs = true ∧ 1 ≤ p.2.till ∧ p.2.till ≤ 281474976710656
  ah : 0 ≤ ahead ∧ ahead ≤ last
  rd : ∀ p ∈ m, RdX (fun q => q ≤ w0.heap.size + 1 + 1) w p.2
  la : 0 ≤ last ∧ last < 72057594037927936
  eq : s.data.toList = putS last (m.map (fun p => core p.2)) ++ r.data.toList
  b : Below w0.heap.size w0 w
  z : w0.heap.size + 3 ≤ w.heap.size
  al : ahead = 0 ∨ ∃ p ∈ m, p.1 = ahead
/-- What read leaves. -/
def ReadE (s : ByteArray) (w : World) (e : Ending) (w' : World) : Prop :=
  (e = .panicked [{ v := errV 4, recovered := false }] ∧ ¬ Encd s) ∨
  ∃ lb mb m last, e = .returned (.pointer (some ⟨lb, 0, none⟩)) ∧ LsAt w' lb (some mb) m last ∧ last < 72057594037927936 ∧ (m.map (·.1)).Pairwise (· < ·) ∧ (∀ p ∈ m, 1 ≤ p.2.till ∧ p.2.till ≤ 281474976710656) ∧ s.data.toList = putS last (m.map (fun p => core p.2)) ∧ w.heap.size ≤ lb ∧ w.heap.size ≤ mb ∧ ∀ p ∈ m, RdX (fun q => q < w.heap.size) w' p.2
def szAt (w : World) (b : Nat) : Nat := match w.cell? ⟨b, 0, none⟩ with | some (.string s) => s.size | _ => 0
theorem toList_empty (s : ByteArray) : s.toList.isEmpty = decide (s.size = 0) := by
  rw [ByteArray.toList_eq]
  cases h : s.data.toList with
  | nil =>
    have : s.size = 0 := by
      have := congrArg List.length h
      exact this
    simp [this]
  | cons a l =>
    have : s.size = l.length + 1 := by
      have := congrArg List.length h
      exact this
    simp [this]
theorem RdSt.le (h : RdSt w0 w s m last ahead r) : r.size ≤ s.size := by
  have h1 := congrArg List.length h.eq
  rw [List.length_append] at h1
  have e1 : s.data.toList.length = s.size := rfl
  have e2 : r.data.toList.length = r.size := rfl
  omega

theorem RdSt.nx (h : RdSt w0 w s m last ahead r) (he : Encd s) : (r.size = 0 → m.length ≤ 16) ∧ (¬ r.size = 0 → Nxt r ahead last) := by
  have h1 := nxt_of (M := m.map (fun p => core p.2)) (ahead := ahead) he h.la (fun c hc => ?_) h.eq ?_
  · rw [List.length_map] at h1
    exact h1
  · obtain ⟨p, hp, rfl⟩ := List.mem_map.1 hc
    have h2 := h.key p hp
    have := h.ah
    unfold okC core
    exact ⟨by show 1 ≤ p.2.id; omega, by show p.2.id ≤ last; omega, h2.2.2.2⟩
  · refine h.al.imp _root_.id ?_
    rintro ⟨p, hp, e⟩
    exact ⟨_, List.mem_map.2 ⟨p, hp, rfl⟩, by show p.2.id = ahead; rw [(h.key p hp).2.2.1, e]⟩
theorem encd_long {s : ByteArray} (h : Encd s) : 7 ≤ s.size := by
  obtain ⟨last, L, _, e⟩ := h
  have := congrArg List.length e
  unfold putS at this
  rw [List.length_append, enc7_len] at this
  have e1 : s.data.toList.length = s.size := rfl
  omega
set_option maxRecDepth 100000 in
set_option maxHeartbeats 4000000 in
theorem read_any (s : ByteArray) (w : World) (hs : s.size ≤ 9223372036854775807) : Calls Tryz.prog 43 #[.string s] w fun e w' => ReadE s w e w' ∧ Below w.heap.size w w' := by
  have hmf : ∀ (fn : Fn) (first cap : Array Value) (w : World), (Instr.makeFunc fn first cap).run Tryz.prog w = .ok (.func fn first cap) w := fun _ _ _ _ => rfl
  have hmk : ∀ w, (Instr.makeMap 30 none).run Tryz.prog w = .ok (.map (some w.heap.size)) (w.alloc (.map #[] 0)) := fun _ => rfl
  obtain ⟨W1, hW1⟩ : ∃ W1, (w.alloc (.cells #[.string s] 9)).alloc (.map #[] 0) = W1 := ⟨_, rfl⟩
  have q0 : W1.cell? ⟨w.heap.size, 0, none⟩ = some (.string s) := by rw [← hW1]; simp [go_sem]
  have f0 : W1.frozen? ⟨w.heap.size, 0, none⟩ = false := by rw [← hW1]; simp [go_sem]
  have hz1 : W1.heap.size = w.heap.size + 2 := by rw [← hW1]; simp
  have hb1 : Below w.heap.size w W1 := by rw [← hW1]; exact ((Below.refl _ _).alloc (Nat.le_refl _) _).alloc (by simp) _
  have hm1 : MapL ckZ cvL W1 (w.heap.size + 1) ([] : Lm) := by
    rw [← hW1]
    have := MapL.made (ck := ckZ) (cv := cvL) (w.alloc (.cells #[.string s] 9))
    simpa using this
  have H1 := Lib.hid (And.intro hb1 (And.intro hz1 hm1))
  clear hb1 hz1 hm1
  by_cases h7 : s.size < 7
  · have hN := num_short q0 h7
    go_enter Tryz.func43, Tryz.ntmps43
    go_wp2_with (go_at_call 117; go_loud (refine hN.mono ?_); rintro e w2 ⟨rfl, rfl⟩)
    exact ⟨rfl, .inl ⟨rfl, fun he => by have := encd_long he; omega⟩, H1.out.1⟩
  · have hN := num_ok q0 f0 (by omega) hs
    obtain ⟨last, hl⟩ : ∃ last, num7 s = last := ⟨_, rfl⟩
    obtain ⟨r0, hr0⟩ : ∃ r0, s.extract 7 s.size = r0 := ⟨_, rfl⟩
    have henc := num7_enc (s := s) (by omega)
    rw [hl, hr0] at henc hN
    obtain ⟨W2, hW2⟩ : ∃ W2, W1.setCell ⟨w.heap.size, 0, none⟩ (.string r0) = W2 := ⟨_, rfl⟩
    rw [hW2] at hN
    obtain ⟨W3, hW3⟩ : ∃ W3, W2.alloc (.cells #[.map (some (w.heap.size + 1)), .int .i64 last] 32) = W3 := ⟨_, rfl⟩
    have hz2 : W2.heap.size = w.heap.size + 1 + 1 := by rw [← hW2]; simpa using H1.out.2.1
    have T2 : Tn (fun q => q = w.heap.size) W1 W2 := by rw [← hW2]; exact Tn.setCell _ _ _ rfl
    have b3 : Below W2.heap.size W2 W3 := by rw [← hW3]; exact (Below.refl _ _).alloc (Nat.le_refl _) _
    have st : RdSt w W3 s [] last 0 r0 := by
      refine ⟨?_, ?_, ?_, ?_, fun j => ?_, (H1.out.2.2.tn T2 (by omega)).below b3, by simp, fun p hp => by simp at hp, ⟨by omega, by omega⟩, fun p hp => by simp at hp, henc.2, by simpa [putS] using henc.1, ?_, ?_, .inl rfl⟩
      · exact (b3.cell (p := ⟨w.heap.size, 0, none⟩) (by show w.heap.size < _; omega)).trans (by rw [← hW2]; exact World.cell?_setCell_same _ _ _ q0)
      · exact (b3.frozen (p := ⟨w.heap.size, 0, none⟩) (by show w.heap.size < _; omega)).trans (by rw [← hW2]; simp [go_sem, f0])
      · rw [← hW3, ← hz2]; simp [go_sem]
      · rw [← hW3, ← hz2]; simp [go_sem]
      · rw [← hW3, ← hz2]; simp [go_sem]
      · exact (H1.out.1.trans (T2.below (by have := H1.out.2.1; omega) (fun k hk => by omega))).trans (b3.mono (by omega))
      · rw [← hW3]; simp; omega
    have ST := Lib.hid st
    have HT := Lib.hid (And.intro T2 b3)
    clear st T2 b3 henc hl hr0 hW2 q0 f0
    go_enter Tryz.func43, Tryz.ntmps43
    go_wp2_with (go_at_call 117; go_loud (refine hN.mono ?_); rintro e w2 ⟨rfl, rfl⟩)
    go_loopw [5, 6, 7, 8, 9] (fun av _ _ _ _ wr => ∃ (m : Lm) (ahead : Int) (r : ByteArray), av = .int .i64 ahead ∧ RdSt w wr s m last ahead r) (fun _ _ _ _ _ wr => szAt wr w.heap.size)
    case atStart => exact ⟨[], 0, r0, rfl, ST.out⟩
    case round =>
      obtain ⟨m, ahead, r, rfl, st⟩ := hrel
      have hrs := st.le
      have la0 := st.la.1
      have la1 := st.la.2
      have ah0 := st.ah.1
      have ah1 := st.ah.2
      have cb := st.cb
      have fb := st.fb
      have c0 := st.c0
      have c1 := st.c1
      have hzr := st.z
      have SR := Lib.hid st
      have HNX := Lib.hid st.nx
      clear st
      by_cases h0 : r.size = 0
      · have te : r.toList.isEmpty = true := by rw [toList_empty]; simp [h0]
        have hr0 : r.data.toList = [] := List.eq_nil_of_length_eq_zero h0
        have hlen : (Builtin.len_ #[30] 3 #[.map (some (w.heap.size + 1))]).run Tryz.prog wr = .ok (.int .i64 m.length) wr := MapL.len SR.out.mp und_map _
        by_cases h16 : m.length ≤ 16
        · have t1 : (m.length : Int) ≤ 16 := by omega
          have t1' : decide ((m.length : Int) ≤ 16) = true := decide_eq_true t1
          go_wp2_with (go_at_call 118; go_loud (refine (want_true _).mono ?_); rintro e w5 ⟨rfl, rfl⟩)
          go_ret
          refine ⟨.inr ⟨_, _, m, last, rfl, ⟨SR.out.c0, SR.out.c1, SR.out.mp, SR.out.fz, fun p hp => ?_, ⟨fun p hp => (SR.out.key p hp).2.2.1, fun p hp => ?_, fun p hp => (SR.out.key p hp).2.2.2.1, ⟨la0, by omega⟩, h16⟩, fun e => by have := Option.some.inj e; omega⟩, la1, SR.out.rise, fun p hp => ?_, ?_, by omega, by omega, fun p hp => (SR.out.rd p hp).imp id (fun ⟨b, off, e, hf, r2⟩ => ⟨b, off, e, fun hq => hf (by omega), r2⟩)⟩, SR.out.b⟩
          · refine (SR.out.rd p hp).imp id ?_
            rintro ⟨b, off, e, hf, r2⟩
            refine ⟨b, off, e, ?_, r2⟩
            rintro (e2 | e2)
            · exact hf (by omega)
            · have := Option.some.inj e2; exact hf (by omega)
          · have := SR.out.key p hp; omega
          · have := SR.out.key p hp; omega
          · have h8 := SR.out.eq; rw [hr0, List.append_nil] at h8; exact h8
        · have t1 : ¬ (m.length : Int) ≤ 16 := by omega
          have t1' : decide ((m.length : Int) ≤ 16) = false := decide_eq_false t1
          go_wp2_with (go_at_call 118; go_loud (refine (want_false _).mono ?_); rintro e w5 ⟨rfl, rfl⟩)
          exact ⟨rfl, .inl ⟨rfl, fun he => h16 ((HNX.out he).1 h0)⟩, SR.out.b⟩
      · have te : r.toList.isEmpty = false := by rw [toList_empty]; simp [h0]
        by_cases k1 : r.size < 7
        · have hN1 := num_short cb k1
          go_wp2_with (go_at_call 117; go_loud (refine hN1.mono ?_); rintro e w5 ⟨rfl, rfl⟩)
          exact ⟨rfl, .inl ⟨rfl, fun he => by have := nxt_long ((HNX.out he).2 h0); omega⟩, SR.out.b⟩
        have hN1 := num_ok cb fb (by omega) (by omega)
        have he1 := num7_enc (s := r) (by omega)
        obtain ⟨id, hid⟩ : ∃ id, num7 r = id := ⟨_, rfl⟩
        obtain ⟨r1, hr1⟩ : ∃ r1, r.extract 7 r.size = r1 := ⟨_, rfl⟩
        rw [hid, hr1] at he1 hN1
        have HN1 := Lib.hid (fun he => nxt_id ((HNX.out he).2 h0) la1 he1)
        have hr1s : r1.size ≤ r.size := by rw [← hr1, ByteArray.size_extract]; omega
        obtain ⟨W4, hW4⟩ : ∃ W4, wr.setCell ⟨w.heap.size, 0, none⟩ (.string r1) = W4 := ⟨_, rfl⟩
        rw [hW4] at hN1
        have db : W4.cell? ⟨w.heap.size, 0, none⟩ = some (.string r1) := by rw [← hW4]; exact World.cell?_setCell_same _ _ _ cb
        have gb : W4.frozen? ⟨w.heap.size, 0, none⟩ = false := by rw [← hW4]; simp [go_sem, fb]
        by_cases k2 : r1.size < 7
        · have hN2 := num_short db k2
          have hb4 : Below w.heap.size w W4 := by rw [← hW4]; exact SR.out.b.setCell (Nat.le_refl _) _
          have HB4 := Lib.hid hb4
          clear hb4 hW4 hid hr1 he1
          go_wp2_with (first
            | (go_at_call 117; with_reducible refine hN2.mono ?_; rintro e w6 ⟨rfl, rfl⟩)
            | (go_at_call 117; with_reducible refine hN1.mono ?_; rintro e w5 ⟨rfl, hw5⟩; obtain rfl := hw5.symm))
          exact ⟨rfl, .inl ⟨rfl, fun he => by have := nxt1_long (HN1.out he).2.2; omega⟩, HB4.out⟩
        have hN2 := num_ok db gb (by omega) (by omega)
        have he2 := num7_enc (s := r1) (by omega)
        obtain ⟨ut, hut⟩ : ∃ ut, num7 r1 = ut := ⟨_, rfl⟩
        obtain ⟨r2, hr2⟩ : ∃ r2, r1.extract 7 r1.size = r2 := ⟨_, rfl⟩
        rw [hut, hr2] at he2 hN2
        have HN2 := Lib.hid (fun he => nxt1_u (HN1.out he).2.2 he2)
        have hr2s : r2.size ≤ r1.size := by rw [← hr2, ByteArray.size_extract]; omega
        have hr2l : r2.size + 7 = r1.size := by rw [← hr2, ByteArray.size_extract]; omega
        obtain ⟨W5, hW5⟩ : ∃ W5, W4.setCell ⟨w.heap.size, 0, none⟩ (.string r2) = W5 := ⟨_, rfl⟩
        rw [hW5] at hN2
        have hz5 : W5.heap.size = wr.heap.size := by rw [← hW5, ← hW4]; simp
        obtain ⟨W6, hW6⟩ : ∃ W6, W5.alloc (.cells #[.int .i64 id, .slice none 0 0, .int .i64 ut] 65) = W6 := ⟨_, rfl⟩
        have T5 : Tn (fun q => q = w.heap.size) wr W5 := by rw [← hW5, ← hW4]; exact (Tn.setCell (F := fun q => q = w.heap.size) wr ⟨w.heap.size, 0, none⟩ _ rfl).trans (Tn.setCell (F := fun q => q = w.heap.size) _ ⟨w.heap.size, 0, none⟩ _ rfl)
        have b6 : Below W5.heap.size W5 W6 := by rw [← hW6]; exact (Below.refl _ _).alloc (Nat.le_refl _) _
        have T6 := T5.trans (Tn.ofBelow b6)
        have nq : w.heap.size < wr.heap.size := by omega
        have j0 : W6.cell? ⟨w.heap.size + 1 + 1, 0, none⟩ = some (.map (some (w.heap.size + 1))) := T6.cell c0 (by show ¬ w.heap.size + 1 + 1 = w.heap.size; omega)
        have j1 : W6.cell? ⟨w.heap.size + 1 + 1, 1, none⟩ = some (.int .i64 last) := T6.cell c1 (by show ¬ w.heap.size + 1 + 1 = w.heap.size; omega)
        have jb : W6.cell? ⟨w.heap.size, 0, none⟩ = some (.string r2) := (b6.cell (p := ⟨w.heap.size, 0, none⟩) (by show w.heap.size < _; omega)).trans (by rw [← hW5]; exact World.cell?_setCell_same _ _ _ db)
        have jf : W6.frozen? ⟨w.heap.size, 0, none⟩ = false := (b6.frozen (p := ⟨w.heap.size, 0, none⟩) (by show w.heap.size < _; omega)).trans (by rw [← hW5]; simp [go_sem, gb])
        have x0 : W6.cell? ⟨wr.heap.size, 0, none⟩ = some (.int .i64 id) := by rw [← hW6, ← hz5]; simp [go_sem]
        have x1 : W6.cell? ⟨wr.heap.size, 1, none⟩ = some (.slice none 0 0) := by rw [← hW6, ← hz5]; simp [go_sem]
        have x2 : W6.cell? ⟨wr.heap.size, 2, none⟩ = some (.int .i64 ut) := by rw [← hW6, ← hz5]; simp [go_sem]
        have xf : ∀ j, W6.frozen? ⟨wr.heap.size, j, none⟩ = false := fun j => by rw [← hW6, ← hz5]; simp [go_sem]
        have hz6 : W6.heap.size = wr.heap.size + 1 := by rw [← hW6]; simp; exact hz5
        have hGV := getv_any r2 W6 (by omega)
        have H6 := Lib.hid (And.intro T6 (And.intro he1 (And.intro he2 (And.intro hz6 xf))))
        have HGV := Lib.hid hGV
        clear T5 b6 T6 he1 he2 hW5 hid hr1 hut hr2 hz6 xf hGV hW4 db gb fb c0 c1
        go_wp2_with (first
          | (go_at_call 117; with_reducible refine hN2.mono ?_; rintro e w6 ⟨rfl, hw6⟩; obtain rfl := hw6.symm)
          | (go_at_call 117; with_reducible refine hN1.mono ?_; rintro e w5 ⟨rfl, hw5⟩; obtain rfl := hw5.symm))
        refine HGV.out.mono ?_
        rintro e w7 ⟨hgv, hb7⟩
        have i1 := (hb7.cell (p := ⟨w.heap.size + 1 + 1, 1, none⟩) (World.block_lt_of_cell? _ _ j1)).trans j1
        have i0 := (hb7.cell (p := ⟨w.heap.size + 1 + 1, 0, none⟩) (World.block_lt_of_cell? _ _ j0)).trans j0
        have ib := (hb7.cell (p := ⟨w.heap.size, 0, none⟩) (World.block_lt_of_cell? _ _ jb)).trans jb
        have if_ := (hb7.frozen (p := ⟨w.heap.size, 0, none⟩) (World.block_lt_of_cell? _ _ jb)).trans jf
        have y0 := (hb7.cell (p := ⟨wr.heap.size, 0, none⟩) (World.block_lt_of_cell? _ _ x0)).trans x0
        have y1 := (hb7.cell (p := ⟨wr.heap.size, 1, none⟩) (World.block_lt_of_cell? _ _ x1)).trans x1
        have y2 := (hb7.cell (p := ⟨wr.heap.size, 2, none⟩) (World.block_lt_of_cell? _ _ x2)).trans x2
        have yf : ∀ j, w7.frozen? ⟨wr.heap.size, j, none⟩ = false := fun j => (hb7.frozen (p := ⟨wr.heap.size, j, none⟩) (by show wr.heap.size < _; have := H6.out.2.2.2.1; omega)).trans (H6.out.2.2.2.2 j)
        have hbw : Below w.heap.size w w7 := (SR.out.b.trans (H6.out.1.below (by omega) (fun k hk => by omega))).trans (hb7.mono (by have := H6.out.2.2.2.1; omega))
        have H7 := Lib.hid (And.intro hb7 hbw)
        clear hb7 hbw j0 j1 jb jf x0 x1 x2 HGV
        rcases hgv with ⟨code, hc, rfl, hnv⟩ | ⟨ga, gc, vs, rr, rfl, hv, hsp, ho⟩
        · have HNV := Lib.hid hnv
          clear hnv
          have tc : (code == 0) = false := by simp [hc]
          have tc' : decide (code = 0) = false := decide_eq_false hc
          go_wp2_with fail
          have kd0 : w7.drew.cell? ⟨wr.heap.size, 0, none⟩ = some (.int .i64 id) := y0
          have kd2 : w7.drew.cell? ⟨wr.heap.size, 2, none⟩ = some (.int .i64 ut) := y2
          have kd3 : w7.drew.cell? ⟨w.heap.size + 1 + 1, 1, none⟩ = some (.int .i64 last) := i1
          refine wp_region_K (fun w' => w'.cell? ⟨wr.heap.size, 0, none⟩ = some (.int .i64 id) ∧ w'.cell? ⟨wr.heap.size, 2, none⟩ = some (.int .i64 ut) ∧ w'.cell? ⟨w.heap.size + 1 + 1, 1, none⟩ = some (.int .i64 last)) 27 28 (by kernel_rfl) (by kernel_rfl) ⟨kd0, kd2, kd3⟩ (fun hH => ?_)
          refine wpAnyK_take (i := 0) [1, 2, 8, 17, 22, 27] (v := ?v1) rfl (by kernel_rfl) (by kernel_rfl) (by kernel_rfl) (by kernel_rfl) (fun _ _ _ h => h) (Or.inl ⟨by rfl, ?hy1⟩) hH ?rest1
          case hy1 => (intro w hSw; (try dsimp only at hSw); go_simp; with_reducible rfl)
          try simp only [Act.put, List.setIfInBounds_toArray, List.set_cons_zero, List.set_cons_succ]
          refine wpAnyK_take (i := 1) [2, 8, 17, 22, 27] (v := ?v2) rfl (by kernel_rfl) (by kernel_rfl) (by kernel_rfl) (by kernel_rfl) (fun _ _ _ h => h) (Or.inl ⟨by rfl, ?hy2⟩) hH ?rest2
          case hy2 => (intro w hSw; (try dsimp only at hSw); go_simp; with_reducible rfl)
          try simp only [Act.put, List.setIfInBounds_toArray, List.set_cons_zero, List.set_cons_succ]
          refine wpAnyK_take (i := 2) [8, 17, 22, 27] (v := ?v3) rfl (by kernel_rfl) (by kernel_rfl) (by kernel_rfl) (by kernel_rfl) (fun _ _ _ h => h) (Or.inl ⟨by rfl, ?hy3⟩) hH ?rest3
          case hy3 => (intro w hSw; (try dsimp only at hSw); go_simp; with_reducible rfl)
          try simp only [Act.put, List.setIfInBounds_toArray, List.set_cons_zero, List.set_cons_succ]
          refine wpAnyK_take (i := 3) [4, 6, 7, 8, 17, 22, 27] (v := undef) rfl (by kernel_rfl) (by kernel_rfl) (by kernel_rfl) (by kernel_rfl) (fun _ _ _ h => h) (Or.inr ⟨by rfl, rfl⟩) hH ?rest4
          try simp only [Act.put, List.setIfInBounds_toArray, List.set_cons_zero, List.set_cons_succ]
          refine wpAnyK_take (i := 4) [6, 7, 8, 17, 22, 27] (v := undef) rfl (by kernel_rfl) (by kernel_rfl) (by kernel_rfl) (by kernel_rfl) (fun _ _ _ h => h) (Or.inr ⟨by rfl, rfl⟩) hH ?rest5
          try simp only [Act.put, List.setIfInBounds_toArray, List.set_cons_zero, List.set_cons_succ]
          refine wpAnyK_take (i := 5) [6, 7, 8, 17, 22, 27] (v := undef) rfl (by kernel_rfl) (by kernel_rfl) (by kernel_rfl) (by kernel_rfl) (fun _ _ _ h => h) (Or.inr ⟨by rfl, rfl⟩) hH ?rest6
          try simp only [Act.put, List.setIfInBounds_toArray, List.set_cons_zero, List.set_cons_succ]
          refine wpAnyK_take (i := 6) [7, 8, 17, 22, 27] (v := undef) rfl (by kernel_rfl) (by kernel_rfl) (by kernel_rfl) (by kernel_rfl) (fun _ _ _ h => h) (Or.inr ⟨by rfl, rfl⟩) hH ?rest7
          try simp only [Act.put, List.setIfInBounds_toArray, List.set_cons_zero, List.set_cons_succ]
          refine wpAnyK_take (i := 7) [8, 17, 22, 27] (v := ?v8) rfl (by kernel_rfl) (by kernel_rfl) (by kernel_rfl) (by kernel_rfl) (fun _ _ _ h => h) (Or.inl ⟨by rfl, ?hy8⟩) hH ?rest8
          case hy8 => (intro w hSw; (try dsimp only at hSw); go_simp; with_reducible rfl)
          try simp only [Act.put, List.setIfInBounds_toArray, List.set_cons_zero, List.set_cons_succ]
          refine wpAnyK_take (i := 8) [17, 22, 27] (v := ?v9) rfl (by kernel_rfl) (by kernel_rfl) (by kernel_rfl) (by kernel_rfl) (fun _ _ _ h => h) (Or.inl ⟨by rfl, ?hy9⟩) hH ?rest9
          case hy9 => (intro w hSw; (try dsimp only at hSw); go_simp; with_reducible rfl)
          try simp only [Act.put, List.setIfInBounds_toArray, List.set_cons_zero, List.set_cons_succ]
          refine wpAnyK_take (i := 9) [10, 15, 16, 17, 22, 27] (v := undef) rfl (by kernel_rfl) (by kernel_rfl) (by kernel_rfl) (by kernel_rfl) (fun _ _ _ h => h) (Or.inr ⟨by rfl, rfl⟩) hH ?rest10
          try simp only [Act.put, List.setIfInBounds_toArray, List.set_cons_zero, List.set_cons_succ]
          refine wpAnyK_take (i := 10) [15, 16, 17, 22, 27] (v := undef) rfl (by kernel_rfl) (by kernel_rfl) (by kernel_rfl) (by kernel_rfl) (fun _ _ _ h => h) (Or.inr ⟨by rfl, rfl⟩) hH ?rest11
          try simp only [Act.put, List.setIfInBounds_toArray, List.set_cons_zero, List.set_cons_succ]
          refine wpAnyK_take (i := 11) [12, 13, 14, 15, 16, 17, 22, 27] (v := undef) rfl (by kernel_rfl) (by kernel_rfl) (by kernel_rfl) (by kernel_rfl) (fun _ _ _ h => h) (Or.inr ⟨by rfl, rfl⟩) hH ?rest12
          try simp only [Act.put, List.setIfInBounds_toArray, List.set_cons_zero, List.set_cons_succ]
          refine wpAnyK_take (i := 12) [13, 14, 15, 16, 17, 22, 27] (v := undef) rfl (by kernel_rfl) (by kernel_rfl) (by kernel_rfl) (by kernel_rfl) (fun _ _ _ h => h) (Or.inr ⟨by rfl, rfl⟩) hH ?rest13
          try simp only [Act.put, List.setIfInBounds_toArray, List.set_cons_zero, List.set_cons_succ]
          refine wpAnyK_take (i := 13) [14, 15, 16, 17, 22, 27] (v := undef) rfl (by kernel_rfl) (by kernel_rfl) (by kernel_rfl) (by kernel_rfl) (fun _ _ _ h => h) (Or.inr ⟨by rfl, rfl⟩) hH ?rest14
          try simp only [Act.put, List.setIfInBounds_toArray, List.set_cons_zero, List.set_cons_succ]
          refine wpAnyK_take (i := 14) [15, 16, 17, 22, 27] (v := undef) rfl (by kernel_rfl) (by kernel_rfl) (by kernel_rfl) (by kernel_rfl) (fun _ _ _ h => h) (Or.inr ⟨by rfl, rfl⟩) hH ?rest15
          try simp only [Act.put, List.setIfInBounds_toArray, List.set_cons_zero, List.set_cons_succ]
          refine wpAnyK_take (i := 15) [16, 17, 22, 27] (v := undef) rfl (by kernel_rfl) (by kernel_rfl) (by kernel_rfl) (by kernel_rfl) (fun _ _ _ h => h) (Or.inr ⟨by rfl, rfl⟩) hH ?rest16
          try simp only [Act.put, List.setIfInBounds_toArray, List.set_cons_zero, List.set_cons_succ]
          refine wpAnyK_take (i := 16) [17, 22, 27] (v := ?v17) rfl (by kernel_rfl) (by kernel_rfl) (by kernel_rfl) (by kernel_rfl) (fun _ _ _ h => h) (Or.inl ⟨by rfl, ?hy17⟩) hH ?rest17
          case hy17 => (intro w hSw; (try dsimp only at hSw); go_simp; with_reducible rfl)
          try simp only [Act.put, List.setIfInBounds_toArray, List.set_cons_zero, List.set_cons_succ]
          refine wpAnyK_take (i := 17) [22, 27] (v := ?v18) rfl (by kernel_rfl) (by kernel_rfl) (by kernel_rfl) (by kernel_rfl) (fun _ _ _ h => h) (Or.inl ⟨by rfl, ?hy18⟩) hH ?rest18
          case hy18 => (intro w hSw; (try dsimp only at hSw); go_simp; with_reducible rfl)
          try simp only [Act.put, List.setIfInBounds_toArray, List.set_cons_zero, List.set_cons_succ]
          refine wpAnyK_take (i := 18) [19, 20, 21, 22, 27] (v := undef) rfl (by kernel_rfl) (by kernel_rfl) (by kernel_rfl) (by kernel_rfl) (fun _ _ _ h => h) (Or.inr ⟨by rfl, rfl⟩) hH ?rest19
          try simp only [Act.put, List.setIfInBounds_toArray, List.set_cons_zero, List.set_cons_succ]
          refine wpAnyK_take (i := 19) [20, 21, 22, 27] (v := undef) rfl (by kernel_rfl) (by kernel_rfl) (by kernel_rfl) (by kernel_rfl) (fun _ _ _ h => h) (Or.inr ⟨by rfl, rfl⟩) hH ?rest20
          try simp only [Act.put, List.setIfInBounds_toArray, List.set_cons_zero, List.set_cons_succ]
          refine wpAnyK_take (i := 20) [21, 22, 27] (v := undef) rfl (by kernel_rfl) (by kernel_rfl) (by kernel_rfl) (by kernel_rfl) (fun _ _ _ h => h) (Or.inr ⟨by rfl, rfl⟩) hH ?rest21
          try simp only [Act.put, List.setIfInBounds_toArray, List.set_cons_zero, List.set_cons_succ]
          refine wpAnyK_take (i := 21) [22, 27] (v := ?v22) rfl (by kernel_rfl) (by kernel_rfl) (by kernel_rfl) (by kernel_rfl) (fun _ _ _ h => h) (Or.inl ⟨by rfl, ?hy22⟩) hH ?rest22
          case hy22 => (intro w hSw; (try dsimp only at hSw); go_simp; with_reducible rfl)
          try simp only [Act.put, List.setIfInBounds_toArray, List.set_cons_zero, List.set_cons_succ]
          refine wpAnyK_take (i := 22) [27] (v := ?v23) rfl (by kernel_rfl) (by kernel_rfl) (by kernel_rfl) (by kernel_rfl) (fun _ _ _ h => h) (Or.inl ⟨by rfl, ?hy23⟩) hH ?rest23
          case hy23 => (intro w hSw; (try dsimp only at hSw); go_simp; with_reducible rfl)
          try simp only [Act.put, List.setIfInBounds_toArray, List.set_cons_zero, List.set_cons_succ]
          refine wpAnyK_take (i := 23) [24, 25, 26, 27] (v := undef) rfl (by kernel_rfl) (by kernel_rfl) (by kernel_rfl) (by kernel_rfl) (fun _ _ _ h => h) (Or.inr ⟨by rfl, rfl⟩) hH ?rest24
          try simp only [Act.put, List.setIfInBounds_toArray, List.set_cons_zero, List.set_cons_succ]
          refine wpAnyK_take (i := 24) [25, 26, 27] (v := undef) rfl (by kernel_rfl) (by kernel_rfl) (by kernel_rfl) (by kernel_rfl) (fun _ _ _ h => h) (Or.inr ⟨by rfl, rfl⟩) hH ?rest25
          try simp only [Act.put, List.setIfInBounds_toArray, List.set_cons_zero, List.set_cons_succ]
          refine wpAnyK_take (i := 25) [26, 27] (v := undef) rfl (by kernel_rfl) (by kernel_rfl) (by kernel_rfl) (by kernel_rfl) (fun _ _ _ h => h) (Or.inr ⟨by rfl, rfl⟩) hH ?rest26
          try simp only [Act.put, List.setIfInBounds_toArray, List.set_cons_zero, List.set_cons_succ]
          refine wpAnyK_take (i := 26) [27] (v := ?v27) rfl (by kernel_rfl) (by kernel_rfl) (by kernel_rfl) (by kernel_rfl) (fun _ _ _ h => h) (Or.inl ⟨by rfl, ?hy27⟩) hH ?rest27
          case hy27 => (intro w hSw; (try dsimp only at hSw); go_simp; with_reducible rfl)
          try simp only [Act.put, List.setIfInBounds_toArray, List.set_cons_zero, List.set_cons_succ]
          refine wpAnyK_last (by kernel_rfl) rfl (fun K hK => ?_) (by kernel_rfl)
          go_simp
          go_at_call 118
          refine (want_false _).mono ?_
          rintro e w8 ⟨rfl, rfl⟩
          exact ⟨rfl, .inl ⟨rfl, fun he => (HN2.out he).2.2 HNV.out⟩, H7.out.2.drew⟩
        · obtain ⟨en, hen⟩ : ∃ en, (encV vs).length = en := ⟨_, rfl⟩
          obtain ⟨nv, hnv⟩ : ∃ nv, vs.length = nv := ⟨_, rfl⟩
          rw [hnv] at ho
          have hel : en + rr.length = r2.size := by
            have h9 := congrArg List.length hsp
            rw [List.length_append] at h9
            have e2 : r2.data.toList.length = r2.size := rfl
            omega
          have hel1 : (en : Int) ≤ (r2.size : Int) := by omega
          have hdr : (r2.extract en r2.size).data.toList = rr := by
            have h9 := bytes_split r2 en
            have hl0 : (r2.extract 0 en).data.toList.length = en := by
              have : (r2.extract 0 en).size = en := by rw [ByteArray.size_extract]; omega
              exact this
            rw [hsp] at h9
            exact ((List.append_inj h9 (by rw [hl0]; exact hen)).2).symm
          obtain ⟨r3, hr3⟩ : ∃ r3, r2.extract en r2.size = r3 := ⟨_, rfl⟩
          rw [hr3] at hdr
          have hr3s : r3.size + en = r2.size := by rw [← hr3, ByteArray.size_extract]; omega
          rw [hen, hnv]
          have HV := Lib.hid (And.intro hv (And.intro hsp (And.intro ho (And.intro hen (And.intro hnv hdr)))))
          clear hv hsp ho hen hnv hdr hel
          by_cases v1 : ahead < id
          · have t1 : decide (ahead < id) = true := decide_eq_true v1
            by_cases v2 : id ≤ last
            · have t2 : decide (id ≤ last) = true := decide_eq_true v2
              by_cases v3 : 1 ≤ ut
              · have t3 : decide (1 ≤ ut) = true := decide_eq_true v3
                by_cases v4 : ut ≤ 281474976710656
                · have t4 : decide (ut ≤ 281474976710656) = true := decide_eq_true v4
                  go_wp2_with fail
                  have kd0 : w7.drew.cell? ⟨wr.heap.size, 0, none⟩ = some (.int .i64 id) := y0
                  have kd2 : w7.drew.cell? ⟨wr.heap.size, 2, none⟩ = some (.int .i64 ut) := y2
                  have kd3 : w7.drew.cell? ⟨w.heap.size + 1 + 1, 1, none⟩ = some (.int .i64 last) := i1
                  refine wp_region_K (fun w' => w'.cell? ⟨wr.heap.size, 0, none⟩ = some (.int .i64 id) ∧ w'.cell? ⟨wr.heap.size, 2, none⟩ = some (.int .i64 ut) ∧ w'.cell? ⟨w.heap.size + 1 + 1, 1, none⟩ = some (.int .i64 last)) 27 28 (by kernel_rfl) (by kernel_rfl) ⟨kd0, kd2, kd3⟩ (fun hH => ?_)
                  refine wpAnyK_take (i := 0) [1, 2, 8, 17, 22, 27] (v := ?v28) rfl (by kernel_rfl) (by kernel_rfl) (by kernel_rfl) (by kernel_rfl) (fun _ _ _ h => h) (Or.inl ⟨by rfl, ?hy28⟩) hH ?rest28
                  case hy28 => (intro w hSw; (try dsimp only at hSw); go_simp; with_reducible rfl)
                  try simp only [Act.put, List.setIfInBounds_toArray, List.set_cons_zero, List.set_cons_succ]
                  refine wpAnyK_take (i := 1) [2, 8, 17, 22, 27] (v := ?v29) rfl (by kernel_rfl) (by kernel_rfl) (by kernel_rfl) (by kernel_rfl) (fun _ _ _ h => h) (Or.inl ⟨by rfl, ?hy29⟩) hH ?rest29
                  case hy29 => (intro w hSw; (try dsimp only at hSw); go_simp; with_reducible rfl)
                  try simp only [Act.put, List.setIfInBounds_toArray, List.set_cons_zero, List.set_cons_succ]
                  refine wpAnyK_take (i := 2) [8, 17, 22, 27] (v := ?v30) rfl (by kernel_rfl) (by kernel_rfl) (by kernel_rfl) (by kernel_rfl) (fun _ _ _ h => h) (Or.inl ⟨by rfl, ?hy30⟩) hH ?rest30
                  case hy30 => (intro w hSw; (try dsimp only at hSw); go_simp; with_reducible rfl)
                  try simp only [Act.put, List.setIfInBounds_toArray, List.set_cons_zero, List.set_cons_succ]
                  refine wpAnyK_take (i := 3) [4, 6, 7, 8, 17, 22, 27] (v := ?v31) rfl (by kernel_rfl) (by kernel_rfl) (by kernel_rfl) (by kernel_rfl) (fun _ _ _ h => h) (Or.inl ⟨by rfl, ?hy31⟩) hH ?rest31
                  case hy31 => (intro w hSw; (try dsimp only at hSw); go_simp; with_reducible rfl)
                  try simp only [Act.put, List.setIfInBounds_toArray, List.set_cons_zero, List.set_cons_succ]
                  refine wpAnyK_take (i := 4) [6, 7, 8, 17, 22, 27] (v := ?v32) rfl (by kernel_rfl) (by kernel_rfl) (by kernel_rfl) (by kernel_rfl) (fun _ _ _ h => h) (Or.inl ⟨by rfl, ?hy32⟩) hH ?rest32
                  case hy32 => (intro w hSw; (try dsimp only at hSw); go_simp; with_reducible rfl)
                  try simp only [Act.put, List.setIfInBounds_toArray, List.set_cons_zero, List.set_cons_succ]
                  refine wpAnyK_take (i := 5) [6, 7, 8, 17, 22, 27] (v := ?v33) rfl (by kernel_rfl) (by kernel_rfl) (by kernel_rfl) (by kernel_rfl) (fun _ _ _ h => h) (Or.inl ⟨by rfl, ?hy33⟩) hH ?rest33
                  case hy33 => (intro w hSw; (try dsimp only at hSw); go_simp; with_reducible rfl)
                  try simp only [Act.put, List.setIfInBounds_toArray, List.set_cons_zero, List.set_cons_succ]
                  refine wpAnyK_take (i := 6) [7, 8, 17, 22, 27] (v := ?v34) rfl (by kernel_rfl) (by kernel_rfl) (by kernel_rfl) (by kernel_rfl) (fun _ _ _ h => h) (Or.inl ⟨by rfl, ?hy34⟩) hH ?rest34
                  case hy34 => (intro w hSw; (try dsimp only at hSw); go_simp; with_reducible rfl)
                  try simp only [Act.put, List.setIfInBounds_toArray, List.set_cons_zero, List.set_cons_succ]
                  refine wpAnyK_take (i := 7) [8, 17, 22, 27] (v := ?v35) rfl (by kernel_rfl) (by kernel_rfl) (by kernel_rfl) (by kernel_rfl) (fun _ _ _ h => h) (Or.inl ⟨by rfl, ?hy35⟩) hH ?rest35
                  case hy35 => (intro w hSw; (try dsimp only at hSw); go_simp; with_reducible rfl)
                  try simp only [Act.put, List.setIfInBounds_toArray, List.set_cons_zero, List.set_cons_succ]
                  refine wpAnyK_take (i := 8) [17, 22, 27] (v := ?v36) rfl (by kernel_rfl) (by kernel_rfl) (by kernel_rfl) (by kernel_rfl) (fun _ _ _ h => h) (Or.inl ⟨by rfl, ?hy36⟩) hH ?rest36
                  case hy36 => (intro w hSw; (try dsimp only at hSw); go_simp; with_reducible rfl)
                  try simp only [Act.put, List.setIfInBounds_toArray, List.set_cons_zero, List.set_cons_succ]
                  refine wpAnyK_take (i := 9) [10, 15, 16, 17, 22, 27] (v := ?v37) rfl (by kernel_rfl) (by kernel_rfl) (by kernel_rfl) (by kernel_rfl) (fun _ _ _ h => h) (Or.inl ⟨by rfl, ?hy37⟩) hH ?rest37
                  case hy37 => (intro w hSw; (try dsimp only at hSw); go_simp; with_reducible rfl)
                  try simp only [Act.put, List.setIfInBounds_toArray, List.set_cons_zero, List.set_cons_succ]
                  refine wpAnyK_take (i := 10) [15, 16, 17, 22, 27] (v := ?v38) rfl (by kernel_rfl) (by kernel_rfl) (by kernel_rfl) (by kernel_rfl) (fun _ _ _ h => h) (Or.inl ⟨by rfl, ?hy38⟩) hH ?rest38
                  case hy38 => (intro w hSw; (try dsimp only at hSw); go_simp; with_reducible rfl)
                  try simp only [Act.put, List.setIfInBounds_toArray, List.set_cons_zero, List.set_cons_succ]
                  refine wpAnyK_take (i := 11) [12, 13, 14, 15, 16, 17, 22, 27] (v := ?v39) rfl (by kernel_rfl) (by kernel_rfl) (by kernel_rfl) (by kernel_rfl) (fun _ _ _ h => h) (Or.inl ⟨by rfl, ?hy39⟩) hH ?rest39
                  case hy39 => (intro w hSw; (try dsimp only at hSw); go_simp; with_reducible rfl)
                  try simp only [Act.put, List.setIfInBounds_toArray, List.set_cons_zero, List.set_cons_succ]
                  refine wpAnyK_take (i := 12) [13, 14, 15, 16, 17, 22, 27] (v := ?v40) rfl (by kernel_rfl) (by kernel_rfl) (by kernel_rfl) (by kernel_rfl) (fun _ _ _ h => h) (Or.inl ⟨by rfl, ?hy40⟩) hH ?rest40
                  case hy40 => (intro w hSw; (try dsimp only at hSw); go_simp; with_reducible rfl)
                  try simp only [Act.put, List.setIfInBounds_toArray, List.set_cons_zero, List.set_cons_succ]
                  refine wpAnyK_take (i := 13) [14, 15, 16, 17, 22, 27] (v := ?v41) rfl (by kernel_rfl) (by kernel_rfl) (by kernel_rfl) (by kernel_rfl) (fun _ _ _ h => h) (Or.inl ⟨by rfl, ?hy41⟩) hH ?rest41
                  case hy41 => (intro w hSw; (try dsimp only at hSw); go_simp; with_reducible rfl)
                  try simp only [Act.put, List.setIfInBounds_toArray, List.set_cons_zero, List.set_cons_succ]
                  refine wpAnyK_take (i := 14) [15, 16, 17, 22, 27] (v := ?v42) rfl (by kernel_rfl) (by kernel_rfl) (by kernel_rfl) (by kernel_rfl) (fun _ _ _ h => h) (Or.inl ⟨by rfl, ?hy42⟩) hH ?rest42
                  case hy42 => (intro w hSw; (try dsimp only at hSw); go_simp; with_reducible rfl)
                  try simp only [Act.put, List.setIfInBounds_toArray, List.set_cons_zero, List.set_cons_succ]
                  refine wpAnyK_take (i := 15) [16, 17, 22, 27] (v := ?v43) rfl (by kernel_rfl) (by kernel_rfl) (by kernel_rfl) (by kernel_rfl) (fun _ _ _ h => h) (Or.inl ⟨by rfl, ?hy43⟩) hH ?rest43
                  case hy43 => (intro w hSw; (try dsimp only at hSw); go_simp; with_reducible rfl)
                  try simp only [Act.put, List.setIfInBounds_toArray, List.set_cons_zero, List.set_cons_succ]
                  refine wpAnyK_take (i := 16) [17, 22, 27] (v := ?v44) rfl (by kernel_rfl) (by kernel_rfl) (by kernel_rfl) (by kernel_rfl) (fun _ _ _ h => h) (Or.inl ⟨by rfl, ?hy44⟩) hH ?rest44
                  case hy44 => (intro w hSw; (try dsimp only at hSw); go_simp; with_reducible rfl)
                  try simp only [Act.put, List.setIfInBounds_toArray, List.set_cons_zero, List.set_cons_succ]
                  refine wpAnyK_take (i := 17) [22, 27] (v := ?v45) rfl (by kernel_rfl) (by kernel_rfl) (by kernel_rfl) (by kernel_rfl) (fun _ _ _ h => h) (Or.inl ⟨by rfl, ?hy45⟩) hH ?rest45
                  case hy45 => (intro w hSw; (try dsimp only at hSw); go_simp; with_reducible rfl)
                  try simp only [Act.put, List.setIfInBounds_toArray, List.set_cons_zero, List.set_cons_succ]
                  refine wpAnyK_take (i := 18) [19, 20, 21, 22, 27] (v := ?v46) rfl (by kernel_rfl) (by kernel_rfl) (by kernel_rfl) (by kernel_rfl) (fun _ _ _ h => h) (Or.inl ⟨by rfl, ?hy46⟩) hH ?rest46
                  case hy46 => (intro w hSw; (try dsimp only at hSw); go_simp; with_reducible rfl)
                  try simp only [Act.put, List.setIfInBounds_toArray, List.set_cons_zero, List.set_cons_succ]
                  refine wpAnyK_take (i := 19) [20, 21, 22, 27] (v := ?v47) rfl (by kernel_rfl) (by kernel_rfl) (by kernel_rfl) (by kernel_rfl) (fun _ _ _ h => h) (Or.inl ⟨by rfl, ?hy47⟩) hH ?rest47
                  case hy47 => (intro w hSw; (try dsimp only at hSw); go_simp; with_reducible rfl)
                  try simp only [Act.put, List.setIfInBounds_toArray, List.set_cons_zero, List.set_cons_succ]
                  refine wpAnyK_take (i := 20) [21, 22, 27] (v := ?v48) rfl (by kernel_rfl) (by kernel_rfl) (by kernel_rfl) (by kernel_rfl) (fun _ _ _ h => h) (Or.inl ⟨by rfl, ?hy48⟩) hH ?rest48
                  case hy48 => (intro w hSw; (try dsimp only at hSw); go_simp; with_reducible rfl)
                  try simp only [Act.put, List.setIfInBounds_toArray, List.set_cons_zero, List.set_cons_succ]
                  refine wpAnyK_take (i := 21) [22, 27] (v := ?v49) rfl (by kernel_rfl) (by kernel_rfl) (by kernel_rfl) (by kernel_rfl) (fun _ _ _ h => h) (Or.inl ⟨by rfl, ?hy49⟩) hH ?rest49
                  case hy49 => (intro w hSw; (try dsimp only at hSw); go_simp; with_reducible rfl)
                  try simp only [Act.put, List.setIfInBounds_toArray, List.set_cons_zero, List.set_cons_succ]
                  refine wpAnyK_take (i := 22) [27] (v := ?v50) rfl (by kernel_rfl) (by kernel_rfl) (by kernel_rfl) (by kernel_rfl) (fun _ _ _ h => h) (Or.inl ⟨by rfl, ?hy50⟩) hH ?rest50
                  case hy50 => (intro w hSw; (try dsimp only at hSw); go_simp; with_reducible rfl)
                  try simp only [Act.put, List.setIfInBounds_toArray, List.set_cons_zero, List.set_cons_succ]
                  refine wpAnyK_take (i := 23) [24, 25, 26, 27] (v := ?v51) rfl (by kernel_rfl) (by kernel_rfl) (by kernel_rfl) (by kernel_rfl) (fun _ _ _ h => h) (Or.inl ⟨by rfl, ?hy51⟩) hH ?rest51
                  case hy51 => (intro w hSw; (try dsimp only at hSw); go_simp; with_reducible rfl)
                  try simp only [Act.put, List.setIfInBounds_toArray, List.set_cons_zero, List.set_cons_succ]
                  refine wpAnyK_take (i := 24) [25, 26, 27] (v := ?v52) rfl (by kernel_rfl) (by kernel_rfl) (by kernel_rfl) (by kernel_rfl) (fun _ _ _ h => h) (Or.inl ⟨by rfl, ?hy52⟩) hH ?rest52
                  case hy52 => (intro w hSw; (try dsimp only at hSw); go_simp; with_reducible rfl)
                  try simp only [Act.put, List.setIfInBounds_toArray, List.set_cons_zero, List.set_cons_succ]
                  refine wpAnyK_take (i := 25) [26, 27] (v := ?v53) rfl (by kernel_rfl) (by kernel_rfl) (by kernel_rfl) (by kernel_rfl) (fun _ _ _ h => h) (Or.inl ⟨by rfl, ?hy53⟩) hH ?rest53
                  case hy53 => (intro w hSw; (try dsimp only at hSw); go_simp; with_reducible rfl)
                  try simp only [Act.put, List.setIfInBounds_toArray, List.set_cons_zero, List.set_cons_succ]
                  refine wpAnyK_take (i := 26) [27] (v := ?v54) rfl (by kernel_rfl) (by kernel_rfl) (by kernel_rfl) (by kernel_rfl) (fun _ _ _ h => h) (Or.inl ⟨by rfl, ?hy54⟩) hH ?rest54
                  case hy54 => (intro w hSw; (try dsimp only at hSw); go_simp; with_reducible rfl)
                  try simp only [Act.put, List.setIfInBounds_toArray, List.set_cons_zero, List.set_cons_succ]
                  refine wpAnyK_last (by kernel_rfl) rfl (fun K hK => ?_) (by kernel_rfl)
                  go_simp
                  go_at_call 118
                  refine (want_true _).mono ?_
                  rintro e w8 ⟨rfl, rfl⟩
                  refine hK.out _ _ (wpAnyK_done (by kernel_rfl) ?_ _)
                  clear hK K hH kd0 kd2 kd3
                  obtain ⟨W8, hW8⟩ : ∃ W8, w7.drew = W8 := ⟨_, rfl⟩
                  have i1 : W8.cell? ⟨w.heap.size + 1 + 1, 1, none⟩ = some (.int .i64 last) := by rw [← hW8]; exact i1
                  have i0 : W8.cell? ⟨w.heap.size + 1 + 1, 0, none⟩ = some (.map (some (w.heap.size + 1))) := by rw [← hW8]; exact i0
                  have ib : W8.cell? ⟨w.heap.size, 0, none⟩ = some (.string r2) := by rw [← hW8]; exact ib
                  have if_ : W8.frozen? ⟨w.heap.size, 0, none⟩ = false := by rw [← hW8]; exact if_
                  have y0 : W8.cell? ⟨wr.heap.size, 0, none⟩ = some (.int .i64 id) := by rw [← hW8]; exact y0
                  have y1 : W8.cell? ⟨wr.heap.size, 1, none⟩ = some (.slice none 0 0) := by rw [← hW8]; exact y1
                  have y2 : W8.cell? ⟨wr.heap.size, 2, none⟩ = some (.int .i64 ut) := by rw [← hW8]; exact y2
                  have yf : ∀ j, W8.frozen? ⟨wr.heap.size, j, none⟩ = false := fun j => by rw [← hW8]; exact yf j
                  have T8 : Tn (fun q => q = w.heap.size) wr W8 := by rw [← hW8]; exact (H6.out.1.trans (Tn.ofBelow H7.out.1)).trans (Tn.drew _)
                  have o8 : Own eVec W8 W6.heap.size (.slice ga nv gc) vs := by rw [← hW8]; exact World.ownsRow.drew HV.out.2.2.1
                  rw [hW8]
                  obtain ⟨W9, hW9⟩ : ∃ W9, W8.setCell ⟨w.heap.size, 0, none⟩ (.string r3) = W9 := ⟨_, rfl⟩
                  have a1 : W9.cell? ⟨w.heap.size + 1 + 1, 1, none⟩ = some (.int .i64 last) := by rw [← hW9]; exact cell_ob i1 (by omega)
                  have a0 : W9.cell? ⟨w.heap.size + 1 + 1, 0, none⟩ = some (.map (some (w.heap.size + 1))) := by rw [← hW9]; exact cell_ob i0 (by omega)
                  have ab : W9.cell? ⟨w.heap.size, 0, none⟩ = some (.string r3) := by rw [← hW9]; exact World.cell?_setCell_same _ _ _ ib
                  have af : W9.frozen? ⟨w.heap.size, 0, none⟩ = false := by rw [← hW9]; simp [go_sem, if_]
                  have z0 : W9.cell? ⟨wr.heap.size, 0, none⟩ = some (.int .i64 id) := by rw [← hW9]; exact cell_ob y0 (by omega)
                  have z1 : W9.cell? ⟨wr.heap.size, 1, none⟩ = some (.slice none 0 0) := by rw [← hW9]; exact cell_ob y1 (by omega)
                  have z2 : W9.cell? ⟨wr.heap.size, 2, none⟩ = some (.int .i64 ut) := by rw [← hW9]; exact cell_ob y2 (by omega)
                  have zf : ∀ j, W9.frozen? ⟨wr.heap.size, j, none⟩ = false := fun j => by rw [← hW9]; simp [go_sem, yf]
                  have T9 : Tn (fun q => q = w.heap.size) wr W9 := by rw [← hW9]; exact T8.trans (Tn.setCell _ _ _ rfl)
                  have o9 : Own eVec W9 W6.heap.size (.slice ga nv gc) vs := by rw [← hW9]; exact (Tn.setCell (F := fun q => q = w.heap.size) W8 ⟨w.heap.size, 0, none⟩ _ rfl).row o8 (fun q hq e => by have := (o8.lt q hq).1; have := H6.out.2.2.2.1; omega)
                  obtain ⟨W10, hW10⟩ : ∃ W10, W9.setCell ⟨wr.heap.size, 1, none⟩ (.slice ga nv gc) = W10 := ⟨_, rfl⟩
                  have c1 : W10.cell? ⟨w.heap.size + 1 + 1, 1, none⟩ = some (.int .i64 last) := by rw [← hW10]; exact cell_ob a1 (by omega)
                  have c0 : W10.cell? ⟨w.heap.size + 1 + 1, 0, none⟩ = some (.map (some (w.heap.size + 1))) := by rw [← hW10]; exact cell_ob a0 (by omega)
                  have cb2 : W10.cell? ⟨w.heap.size, 0, none⟩ = some (.string r3) := by rw [← hW10]; exact cell_ob ab (by omega)
                  have cf : W10.frozen? ⟨w.heap.size, 0, none⟩ = false := by rw [← hW10]; simp [go_sem, af]
                  have u0 : W10.cell? ⟨wr.heap.size, 0, none⟩ = some (.int .i64 id) := by rw [← hW10]; exact cell_set z0 (by omega)
                  have u1 : W10.cell? ⟨wr.heap.size, 1, none⟩ = some (.slice ga nv gc) := by rw [← hW10]; exact World.cell?_setCell_same _ _ _ z1
                  have u2 : W10.cell? ⟨wr.heap.size, 2, none⟩ = some (.int .i64 ut) := by rw [← hW10]; exact cell_set z2 (by omega)
                  have T10 : Tn (fun q => q = w.heap.size) wr W10 := by rw [← hW10]; exact T9.andThen (Tn.setCell (F := fun q => q = wr.heap.size) _ _ _ rfl) (fun q e => .inr (by omega))
                  have o10 : Own eVec W10 W6.heap.size (.slice ga nv gc) vs := by rw [← hW10]; exact (Tn.setCell (F := fun q => q = wr.heap.size) W9 ⟨wr.heap.size, 1, none⟩ _ rfl).row o9 (fun q hq e => by have := (o9.lt q hq).1; have := H6.out.2.2.2.1; omega)
                  have H10 := Lib.hid (And.intro T10 (And.intro o10 (And.intro cf (And.intro c1 cb2))))
                  clear T8 o8 T9 o9 T10 o10 af cf hW8
                  go_wp2_with fail
                  have k0 : W10.drew.cell? ⟨w.heap.size + 1 + 1, 0, none⟩ = some (.map (some (w.heap.size + 1))) := c0
                  have k1 : W10.drew.cell? ⟨wr.heap.size, 0, none⟩ = some (.int .i64 id) := u0
                  have k2 : W10.drew.cell? ⟨wr.heap.size, 1, none⟩ = some (.slice ga nv gc) := u1
                  have k3 : W10.drew.cell? ⟨wr.heap.size, 2, none⟩ = some (.int .i64 ut) := u2
                  refine wp_region_K (fun w' => w'.cell? ⟨w.heap.size + 1 + 1, 0, none⟩ = some (.map (some (w.heap.size + 1))) ∧ w'.cell? ⟨wr.heap.size, 0, none⟩ = some (.int .i64 id) ∧ w'.cell? ⟨wr.heap.size, 1, none⟩ = some (.slice ga nv gc) ∧ w'.cell? ⟨wr.heap.size, 2, none⟩ = some (.int .i64 ut)) 7 8 (by kernel_rfl) (by kernel_rfl) ⟨k0, k1, k2, k3⟩ (fun hH => ?_)
                  refine wpAnyK_take (i := 0) [7] (v := ?v55) rfl (by kernel_rfl) (by kernel_rfl) (by kernel_rfl) (by kernel_rfl) (fun _ _ _ h => h) (Or.inl ⟨by rfl, ?hy55⟩) hH ?rest55
                  case hy55 => (intro w hSw; (try dsimp only at hSw); go_simp; with_reducible rfl)
                  try simp only [Act.put, List.setIfInBounds_toArray, List.set_cons_zero, List.set_cons_succ]
                  refine wpAnyK_take (i := 1) [7] (v := ?v56) rfl (by kernel_rfl) (by kernel_rfl) (by kernel_rfl) (by kernel_rfl) (fun _ _ _ h => h) (Or.inl ⟨by rfl, ?hy56⟩) hH ?rest56
                  case hy56 => (intro w hSw; (try dsimp only at hSw); go_simp; with_reducible rfl)
                  try simp only [Act.put, List.setIfInBounds_toArray, List.set_cons_zero, List.set_cons_succ]
                  refine wpAnyK_take (i := 2) [7] (v := ?v57) rfl (by kernel_rfl) (by kernel_rfl) (by kernel_rfl) (by kernel_rfl) (fun _ _ _ h => h) (Or.inl ⟨by rfl, ?hy57⟩) hH ?rest57
                  case hy57 => (intro w hSw; (try dsimp only at hSw); go_simp; with_reducible rfl)
                  try simp only [Act.put, List.setIfInBounds_toArray, List.set_cons_zero, List.set_cons_succ]
                  refine wpAnyK_take (i := 3) [7] (v := ?v58) rfl (by kernel_rfl) (by kernel_rfl) (by kernel_rfl) (by kernel_rfl) (fun _ _ _ h => h) (Or.inl ⟨by rfl, ?hy58⟩) hH ?rest58
                  case hy58 => (intro w hSw; (try dsimp only at hSw); go_simp; with_reducible rfl)
                  try simp only [Act.put, List.setIfInBounds_toArray, List.set_cons_zero, List.set_cons_succ]
                  refine wpAnyK_take (i := 4) [7] (v := ?v59) rfl (by kernel_rfl) (by kernel_rfl) (by kernel_rfl) (by kernel_rfl) (fun _ _ _ h => h) (Or.inl ⟨by rfl, ?hy59⟩) hH ?rest59
                  case hy59 => (intro w hSw; (try dsimp only at hSw); go_simp; with_reducible rfl)
                  try simp only [Act.put, List.setIfInBounds_toArray, List.set_cons_zero, List.set_cons_succ]
                  refine wpAnyK_take (i := 5) [7] (v := ?v60) rfl (by kernel_rfl) (by kernel_rfl) (by kernel_rfl) (by kernel_rfl) (fun _ _ _ h => h) (Or.inl ⟨by rfl, ?hy60⟩) hH ?rest60
                  case hy60 => (intro w hSw; (try dsimp only at hSw); go_simp; with_reducible rfl)
                  try simp only [Act.put, List.setIfInBounds_toArray, List.set_cons_zero, List.set_cons_succ]
                  refine wpAnyK_take (i := 6) [7] (v := ?v61) rfl (by kernel_rfl) (by kernel_rfl) (by kernel_rfl) (by kernel_rfl) (fun _ _ _ h => h) (Or.inl ⟨by rfl, ?hy61⟩) hH ?rest61
                  case hy61 => (intro w hSw; (try dsimp only at hSw); go_simp; with_reducible rfl)
                  try simp only [Act.put, List.setIfInBounds_toArray, List.set_cons_zero, List.set_cons_succ]
                  refine wpAnyK_last (by kernel_rfl) rfl (fun K hK => ?_) (by kernel_rfl)
                  have T11 : Tn (fun q => q = w.heap.size) wr W10.drew := H10.out.1.trans (Tn.drew _)
                  have hm10 : MapL ckZ cvL W10.drew (w.heap.size + 1) m := SR.out.mp.tn T11 (by omega)
                  refine step_put rfl _ _ _ rfl keyZ und_map rfl hm10 id rfl ⟨id, ga, gc, vs, ut⟩ (by show _ = Value.agg #[.int .i64 id, .slice ga vs.length gc, .int .i64 ut]; rw [HV.out.2.2.2.2.1]; rfl) ?_
                  intro w11 hm11 ht11 hz11
                  refine hK.out _ _ (wpAnyK_done (by kernel_rfl) ?_ _)
                  clear hK K hH
                  rw [setL_new (fun p hp e => by have := SR.out.key p hp; omega)] at hm11
                  have T12 : Tn (fun q => q = w.heap.size ∨ q = w.heap.size + 1) wr w11 := (T11.mono (fun q e => .inl e)).trans (ht11.mono (fun q e => .inr e))
                  have lx : ∀ q, (Value.slice ga nv gc).ownBlock = some q → wr.heap.size + 1 ≤ q := fun q hq => by have := (H10.out.2.1.lt q hq).1; have := H6.out.2.2.2.1; omega
                  have o12 : Own eVec w11 W6.heap.size (.slice ga nv gc) vs := ht11.row (World.ownsRow.drew H10.out.2.1) (fun q hq e => by have := lx q hq; omega)
                  have s12 : RdSt w w11 s (m ++ [(id, ⟨id, ga, gc, vs, ut⟩)]) last id r3 := by
                    refine ⟨ht11.cell (show W10.drew.cell? _ = _ from H10.out.2.2.2.2) (by show ¬ w.heap.size = w.heap.size + 1; omega), (ht11.frozen (p := ⟨w.heap.size, 0, none⟩) (World.block_lt_of_cell? _ _ (show W10.drew.cell? _ = _ from H10.out.2.2.2.2)) (by show ¬ w.heap.size = w.heap.size + 1; omega)).trans H10.out.2.2.1, ht11.cell k0 (by show ¬ w.heap.size + 1 + 1 = w.heap.size + 1; omega), ht11.cell (show W10.drew.cell? _ = _ from H10.out.2.2.2.1) (by show ¬ w.heap.size + 1 + 1 = w.heap.size + 1; omega), fun j => ?_, hm11, ?_, ?_, ⟨by omega, by omega⟩, ?_, SR.out.la, ?_, ?_, ?_, .inr ⟨_, List.mem_append_right _ (List.mem_singleton.2 rfl), rfl⟩⟩
                    · exact (T12.frozen (p := ⟨w.heap.size + 1 + 1, j, none⟩) (by show w.heap.size + 1 + 1 < _; omega) (by rintro (e | e) <;> (have e : w.heap.size + 1 + 1 = _ := e; omega))).trans (SR.out.fz j)
                    · rw [List.map_append, List.pairwise_append]
                      refine ⟨SR.out.rise, by simp, fun a ha b hb => ?_⟩
                      obtain ⟨p, hp, rfl⟩ := List.mem_map.1 ha
                      have : b = id := by simpa using hb
                      have := SR.out.key p hp
                      omega
                    · intro p hp
                      rcases List.mem_append.1 hp with hp | hp
                      · have := SR.out.key p hp
                        exact ⟨this.1, by omega, this.2.2⟩
                      · rw [List.mem_singleton.1 hp]
                        exact ⟨by show 1 ≤ id; omega, Int.le_refl _, rfl, HV.out.1, v3, v4⟩
                    · intro p hp
                      rcases List.mem_append.1 hp with hp | hp
                      · exact (SR.out.rd p hp).tn T12 (fun q _ hq => by rcases hq with e | e <;> omega)
                      · rw [List.mem_singleton.1 hp]
                        rcases o12.2 with ⟨e, e0⟩ | ⟨g, cap', cur, e, hg, hh, hn', hc, hcl, htk⟩
                        · exact .inl (List.eq_nil_of_length_eq_zero (HV.out.2.2.2.2.1.trans (Value.slice.inj e).2.1))
                        · have e5 := rdI_own (v := .slice ga vs.length gc) (by rw [HV.out.2.2.2.2.1]; exact o12)
                          obtain ⟨a, c, e6, e7⟩ := e5
                          injection e6 with e8 e9 e10
                          refine e7.imp _root_.id ?_
                          rintro ⟨b, off, e11, e12, e13⟩
                          refine ⟨b, off, e8.trans e11, ?_, e12, e13⟩
                          have := lx b (by rw [e8, e11]; rfl)
                          omega
                    · rw [SR.out.eq, H6.out.2.1.1, H6.out.2.2.1.1, HV.out.2.1, HV.out.2.2.2.2.2, List.map_append]
                      unfold putS
                      rw [List.flatMap_append]
                      simp [encL, core]
                    · exact SR.out.b.trans (T12.below (by omega) (fun k hk => by rcases hk with e | e <;> omega))
                    · exact Nat.le_trans SR.out.z T12.size
                  have HF := Lib.hid s12
                  clear s12 o12 lx T12 hm11 ht11 hz11 hm10 T11 k0 k1 k2 k3
                  try simp only [Act.put]
                  go_wp2_with fail
                  go_roundw
                  case rel => exact ⟨_, _, _, rfl, HF.out⟩
                  case measure =>
                    have e1 : szAt wr w.heap.size = r.size := by unfold szAt; rw [SR.out.cb]
                    have e2 : szAt w11 w.heap.size = r3.size := by unfold szAt; rw [HF.out.cb]
                    rw [e1, e2]
                    omega
                · have t4 : decide (ut ≤ 281474976710656) = false := decide_eq_false v4
                  go_wp2_with fail
                  have kd0 : w7.drew.cell? ⟨wr.heap.size, 0, none⟩ = some (.int .i64 id) := y0
                  have kd2 : w7.drew.cell? ⟨wr.heap.size, 2, none⟩ = some (.int .i64 ut) := y2
                  have kd3 : w7.drew.cell? ⟨w.heap.size + 1 + 1, 1, none⟩ = some (.int .i64 last) := i1
                  refine wp_region_K (fun w' => w'.cell? ⟨wr.heap.size, 0, none⟩ = some (.int .i64 id) ∧ w'.cell? ⟨wr.heap.size, 2, none⟩ = some (.int .i64 ut) ∧ w'.cell? ⟨w.heap.size + 1 + 1, 1, none⟩ = some (.int .i64 last)) 27 28 (by kernel_rfl) (by kernel_rfl) ⟨kd0, kd2, kd3⟩ (fun hH => ?_)
                  refine wpAnyK_take (i := 0) [1, 2, 8, 17, 22, 27] (v := ?v62) rfl (by kernel_rfl) (by kernel_rfl) (by kernel_rfl) (by kernel_rfl) (fun _ _ _ h => h) (Or.inl ⟨by rfl, ?hy62⟩) hH ?rest62
                  case hy62 => (intro w hSw; (try dsimp only at hSw); go_simp; with_reducible rfl)
                  try simp only [Act.put, List.setIfInBounds_toArray, List.set_cons_zero, List.set_cons_succ]
                  refine wpAnyK_take (i := 1) [2, 8, 17, 22, 27] (v := ?v63) rfl (by kernel_rfl) (by kernel_rfl) (by kernel_rfl) (by kernel_rfl) (fun _ _ _ h => h) (Or.inl ⟨by rfl, ?hy63⟩) hH ?rest63
                  case hy63 => (intro w hSw; (try dsimp only at hSw); go_simp; with_reducible rfl)
                  try simp only [Act.put, List.setIfInBounds_toArray, List.set_cons_zero, List.set_cons_succ]
                  refine wpAnyK_take (i := 2) [8, 17, 22, 27] (v := ?v64) rfl (by kernel_rfl) (by kernel_rfl) (by kernel_rfl) (by kernel_rfl) (fun _ _ _ h => h) (Or.inl ⟨by rfl, ?hy64⟩) hH ?rest64
                  case hy64 => (intro w hSw; (try dsimp only at hSw); go_simp; with_reducible rfl)
                  try simp only [Act.put, List.setIfInBounds_toArray, List.set_cons_zero, List.set_cons_succ]
                  refine wpAnyK_take (i := 3) [4, 6, 7, 8, 17, 22, 27] (v := ?v65) rfl (by kernel_rfl) (by kernel_rfl) (by kernel_rfl) (by kernel_rfl) (fun _ _ _ h => h) (Or.inl ⟨by rfl, ?hy65⟩) hH ?rest65
                  case hy65 => (intro w hSw; (try dsimp only at hSw); go_simp; with_reducible rfl)
                  try simp only [Act.put, List.setIfInBounds_toArray, List.set_cons_zero, List.set_cons_succ]
                  refine wpAnyK_take (i := 4) [6, 7, 8, 17, 22, 27] (v := ?v66) rfl (by kernel_rfl) (by kernel_rfl) (by kernel_rfl) (by kernel_rfl) (fun _ _ _ h => h) (Or.inl ⟨by rfl, ?hy66⟩) hH ?rest66
                  case hy66 => (intro w hSw; (try dsimp only at hSw); go_simp; with_reducible rfl)
                  try simp only [Act.put, List.setIfInBounds_toArray, List.set_cons_zero, List.set_cons_succ]
                  refine wpAnyK_take (i := 5) [6, 7, 8, 17, 22, 27] (v := ?v67) rfl (by kernel_rfl) (by kernel_rfl) (by kernel_rfl) (by kernel_rfl) (fun _ _ _ h => h) (Or.inl ⟨by rfl, ?hy67⟩) hH ?rest67
                  case hy67 => (intro w hSw; (try dsimp only at hSw); go_simp; with_reducible rfl)
                  try simp only [Act.put, List.setIfInBounds_toArray, List.set_cons_zero, List.set_cons_succ]
                  refine wpAnyK_take (i := 6) [7, 8, 17, 22, 27] (v := ?v68) rfl (by kernel_rfl) (by kernel_rfl) (by kernel_rfl) (by kernel_rfl) (fun _ _ _ h => h) (Or.inl ⟨by rfl, ?hy68⟩) hH ?rest68
                  case hy68 => (intro w hSw; (try dsimp only at hSw); go_simp; with_reducible rfl)
                  try simp only [Act.put, List.setIfInBounds_toArray, List.set_cons_zero, List.set_cons_succ]
                  refine wpAnyK_take (i := 7) [8, 17, 22, 27] (v := ?v69) rfl (by kernel_rfl) (by kernel_rfl) (by kernel_rfl) (by kernel_rfl) (fun _ _ _ h => h) (Or.inl ⟨by rfl, ?hy69⟩) hH ?rest69
                  case hy69 => (intro w hSw; (try dsimp only at hSw); go_simp; with_reducible rfl)
                  try simp only [Act.put, List.setIfInBounds_toArray, List.set_cons_zero, List.set_cons_succ]
                  refine wpAnyK_take (i := 8) [17, 22, 27] (v := ?v70) rfl (by kernel_rfl) (by kernel_rfl) (by kernel_rfl) (by kernel_rfl) (fun _ _ _ h => h) (Or.inl ⟨by rfl, ?hy70⟩) hH ?rest70
                  case hy70 => (intro w hSw; (try dsimp only at hSw); go_simp; with_reducible rfl)
                  try simp only [Act.put, List.setIfInBounds_toArray, List.set_cons_zero, List.set_cons_succ]
                  refine wpAnyK_take (i := 9) [10, 15, 16, 17, 22, 27] (v := ?v71) rfl (by kernel_rfl) (by kernel_rfl) (by kernel_rfl) (by kernel_rfl) (fun _ _ _ h => h) (Or.inl ⟨by rfl, ?hy71⟩) hH ?rest71
                  case hy71 => (intro w hSw; (try dsimp only at hSw); go_simp; with_reducible rfl)
                  try simp only [Act.put, List.setIfInBounds_toArray, List.set_cons_zero, List.set_cons_succ]
                  refine wpAnyK_take (i := 10) [15, 16, 17, 22, 27] (v := ?v72) rfl (by kernel_rfl) (by kernel_rfl) (by kernel_rfl) (by kernel_rfl) (fun _ _ _ h => h) (Or.inl ⟨by rfl, ?hy72⟩) hH ?rest72
                  case hy72 => (intro w hSw; (try dsimp only at hSw); go_simp; with_reducible rfl)
                  try simp only [Act.put, List.setIfInBounds_toArray, List.set_cons_zero, List.set_cons_succ]
                  refine wpAnyK_take (i := 11) [12, 13, 14, 15, 16, 17, 22, 27] (v := ?v73) rfl (by kernel_rfl) (by kernel_rfl) (by kernel_rfl) (by kernel_rfl) (fun _ _ _ h => h) (Or.inl ⟨by rfl, ?hy73⟩) hH ?rest73
                  case hy73 => (intro w hSw; (try dsimp only at hSw); go_simp; with_reducible rfl)
                  try simp only [Act.put, List.setIfInBounds_toArray, List.set_cons_zero, List.set_cons_succ]
                  refine wpAnyK_take (i := 12) [13, 14, 15, 16, 17, 22, 27] (v := ?v74) rfl (by kernel_rfl) (by kernel_rfl) (by kernel_rfl) (by kernel_rfl) (fun _ _ _ h => h) (Or.inl ⟨by rfl, ?hy74⟩) hH ?rest74
                  case hy74 => (intro w hSw; (try dsimp only at hSw); go_simp; with_reducible rfl)
                  try simp only [Act.put, List.setIfInBounds_toArray, List.set_cons_zero, List.set_cons_succ]
                  refine wpAnyK_take (i := 13) [14, 15, 16, 17, 22, 27] (v := ?v75) rfl (by kernel_rfl) (by kernel_rfl) (by kernel_rfl) (by kernel_rfl) (fun _ _ _ h => h) (Or.inl ⟨by rfl, ?hy75⟩) hH ?rest75
                  case hy75 => (intro w hSw; (try dsimp only at hSw); go_simp; with_reducible rfl)
                  try simp only [Act.put, List.setIfInBounds_toArray, List.set_cons_zero, List.set_cons_succ]
                  refine wpAnyK_take (i := 14) [15, 16, 17, 22, 27] (v := ?v76) rfl (by kernel_rfl) (by kernel_rfl) (by kernel_rfl) (by kernel_rfl) (fun _ _ _ h => h) (Or.inl ⟨by rfl, ?hy76⟩) hH ?rest76
                  case hy76 => (intro w hSw; (try dsimp only at hSw); go_simp; with_reducible rfl)
                  try simp only [Act.put, List.setIfInBounds_toArray, List.set_cons_zero, List.set_cons_succ]
                  refine wpAnyK_take (i := 15) [16, 17, 22, 27] (v := ?v77) rfl (by kernel_rfl) (by kernel_rfl) (by kernel_rfl) (by kernel_rfl) (fun _ _ _ h => h) (Or.inl ⟨by rfl, ?hy77⟩) hH ?rest77
                  case hy77 => (intro w hSw; (try dsimp only at hSw); go_simp; with_reducible rfl)
                  try simp only [Act.put, List.setIfInBounds_toArray, List.set_cons_zero, List.set_cons_succ]
                  refine wpAnyK_take (i := 16) [17, 22, 27] (v := ?v78) rfl (by kernel_rfl) (by kernel_rfl) (by kernel_rfl) (by kernel_rfl) (fun _ _ _ h => h) (Or.inl ⟨by rfl, ?hy78⟩) hH ?rest78
                  case hy78 => (intro w hSw; (try dsimp only at hSw); go_simp; with_reducible rfl)
                  try simp only [Act.put, List.setIfInBounds_toArray, List.set_cons_zero, List.set_cons_succ]
                  refine wpAnyK_take (i := 17) [22, 27] (v := ?v79) rfl (by kernel_rfl) (by kernel_rfl) (by kernel_rfl) (by kernel_rfl) (fun _ _ _ h => h) (Or.inl ⟨by rfl, ?hy79⟩) hH ?rest79
                  case hy79 => (intro w hSw; (try dsimp only at hSw); go_simp; with_reducible rfl)
                  try simp only [Act.put, List.setIfInBounds_toArray, List.set_cons_zero, List.set_cons_succ]
                  refine wpAnyK_take (i := 18) [19, 20, 21, 22, 27] (v := ?v80) rfl (by kernel_rfl) (by kernel_rfl) (by kernel_rfl) (by kernel_rfl) (fun _ _ _ h => h) (Or.inl ⟨by rfl, ?hy80⟩) hH ?rest80
                  case hy80 => (intro w hSw; (try dsimp only at hSw); go_simp; with_reducible rfl)
                  try simp only [Act.put, List.setIfInBounds_toArray, List.set_cons_zero, List.set_cons_succ]
                  refine wpAnyK_take (i := 19) [20, 21, 22, 27] (v := ?v81) rfl (by kernel_rfl) (by kernel_rfl) (by kernel_rfl) (by kernel_rfl) (fun _ _ _ h => h) (Or.inl ⟨by rfl, ?hy81⟩) hH ?rest81
                  case hy81 => (intro w hSw; (try dsimp only at hSw); go_simp; with_reducible rfl)
                  try simp only [Act.put, List.setIfInBounds_toArray, List.set_cons_zero, List.set_cons_succ]
                  refine wpAnyK_take (i := 20) [21, 22, 27] (v := ?v82) rfl (by kernel_rfl) (by kernel_rfl) (by kernel_rfl) (by kernel_rfl) (fun _ _ _ h => h) (Or.inl ⟨by rfl, ?hy82⟩) hH ?rest82
                  case hy82 => (intro w hSw; (try dsimp only at hSw); go_simp; with_reducible rfl)
                  try simp only [Act.put, List.setIfInBounds_toArray, List.set_cons_zero, List.set_cons_succ]
                  refine wpAnyK_take (i := 21) [22, 27] (v := ?v83) rfl (by kernel_rfl) (by kernel_rfl) (by kernel_rfl) (by kernel_rfl) (fun _ _ _ h => h) (Or.inl ⟨by rfl, ?hy83⟩) hH ?rest83
                  case hy83 => (intro w hSw; (try dsimp only at hSw); go_simp; with_reducible rfl)
                  try simp only [Act.put, List.setIfInBounds_toArray, List.set_cons_zero, List.set_cons_succ]
                  refine wpAnyK_take (i := 22) [27] (v := ?v84) rfl (by kernel_rfl) (by kernel_rfl) (by kernel_rfl) (by kernel_rfl) (fun _ _ _ h => h) (Or.inl ⟨by rfl, ?hy84⟩) hH ?rest84
                  case hy84 => (intro w hSw; (try dsimp only at hSw); go_simp; with_reducible rfl)
                  try simp only [Act.put, List.setIfInBounds_toArray, List.set_cons_zero, List.set_cons_succ]
                  refine wpAnyK_take (i := 23) [24, 25, 26, 27] (v := ?v85) rfl (by kernel_rfl) (by kernel_rfl) (by kernel_rfl) (by kernel_rfl) (fun _ _ _ h => h) (Or.inl ⟨by rfl, ?hy85⟩) hH ?rest85
                  case hy85 => (intro w hSw; (try dsimp only at hSw); go_simp; with_reducible rfl)
                  try simp only [Act.put, List.setIfInBounds_toArray, List.set_cons_zero, List.set_cons_succ]
                  refine wpAnyK_take (i := 24) [25, 26, 27] (v := ?v86) rfl (by kernel_rfl) (by kernel_rfl) (by kernel_rfl) (by kernel_rfl) (fun _ _ _ h => h) (Or.inl ⟨by rfl, ?hy86⟩) hH ?rest86
                  case hy86 => (intro w hSw; (try dsimp only at hSw); go_simp; with_reducible rfl)
                  try simp only [Act.put, List.setIfInBounds_toArray, List.set_cons_zero, List.set_cons_succ]
                  refine wpAnyK_take (i := 25) [26, 27] (v := ?v87) rfl (by kernel_rfl) (by kernel_rfl) (by kernel_rfl) (by kernel_rfl) (fun _ _ _ h => h) (Or.inl ⟨by rfl, ?hy87⟩) hH ?rest87
                  case hy87 => (intro w hSw; (try dsimp only at hSw); go_simp; with_reducible rfl)
                  try simp only [Act.put, List.setIfInBounds_toArray, List.set_cons_zero, List.set_cons_succ]
                  refine wpAnyK_take (i := 26) [27] (v := ?v88) rfl (by kernel_rfl) (by kernel_rfl) (by kernel_rfl) (by kernel_rfl) (fun _ _ _ h => h) (Or.inl ⟨by rfl, ?hy88⟩) hH ?rest88
                  case hy88 => (intro w hSw; (try dsimp only at hSw); go_simp; with_reducible rfl)
                  try simp only [Act.put, List.setIfInBounds_toArray, List.set_cons_zero, List.set_cons_succ]
                  refine wpAnyK_last (by kernel_rfl) rfl (fun K hK => ?_) (by kernel_rfl)
                  go_simp
                  go_at_call 118
                  refine (want_false _).mono ?_
                  rintro e w8 ⟨rfl, rfl⟩
                  exact ⟨rfl, .inl ⟨rfl, fun he => by have := (HN2.out he).2.1; omega⟩, H7.out.2.drew⟩
              · have t3 : decide (1 ≤ ut) = false := decide_eq_false v3
                go_wp2_with fail
                have kd0 : w7.drew.cell? ⟨wr.heap.size, 0, none⟩ = some (.int .i64 id) := y0
                have kd2 : w7.drew.cell? ⟨wr.heap.size, 2, none⟩ = some (.int .i64 ut) := y2
                have kd3 : w7.drew.cell? ⟨w.heap.size + 1 + 1, 1, none⟩ = some (.int .i64 last) := i1
                refine wp_region_K (fun w' => w'.cell? ⟨wr.heap.size, 0, none⟩ = some (.int .i64 id) ∧ w'.cell? ⟨wr.heap.size, 2, none⟩ = some (.int .i64 ut) ∧ w'.cell? ⟨w.heap.size + 1 + 1, 1, none⟩ = some (.int .i64 last)) 27 28 (by kernel_rfl) (by kernel_rfl) ⟨kd0, kd2, kd3⟩ (fun hH => ?_)
                refine wpAnyK_take (i := 0) [1, 2, 8, 17, 22, 27] (v := ?v89) rfl (by kernel_rfl) (by kernel_rfl) (by kernel_rfl) (by kernel_rfl) (fun _ _ _ h => h) (Or.inl ⟨by rfl, ?hy89⟩) hH ?rest89
                case hy89 => (intro w hSw; (try dsimp only at hSw); go_simp; with_reducible rfl)
                try simp only [Act.put, List.setIfInBounds_toArray, List.set_cons_zero, List.set_cons_succ]
                refine wpAnyK_take (i := 1) [2, 8, 17, 22, 27] (v := ?v90) rfl (by kernel_rfl) (by kernel_rfl) (by kernel_rfl) (by kernel_rfl) (fun _ _ _ h => h) (Or.inl ⟨by rfl, ?hy90⟩) hH ?rest90
                case hy90 => (intro w hSw; (try dsimp only at hSw); go_simp; with_reducible rfl)
                try simp only [Act.put, List.setIfInBounds_toArray, List.set_cons_zero, List.set_cons_succ]
                refine wpAnyK_take (i := 2) [8, 17, 22, 27] (v := ?v91) rfl (by kernel_rfl) (by kernel_rfl) (by kernel_rfl) (by kernel_rfl) (fun _ _ _ h => h) (Or.inl ⟨by rfl, ?hy91⟩) hH ?rest91
                case hy91 => (intro w hSw; (try dsimp only at hSw); go_simp; with_reducible rfl)
                try simp only [Act.put, List.setIfInBounds_toArray, List.set_cons_zero, List.set_cons_succ]
                refine wpAnyK_take (i := 3) [4, 6, 7, 8, 17, 22, 27] (v := ?v92) rfl (by kernel_rfl) (by kernel_rfl) (by kernel_rfl) (by kernel_rfl) (fun _ _ _ h => h) (Or.inl ⟨by rfl, ?hy92⟩) hH ?rest92
                case hy92 => (intro w hSw; (try dsimp only at hSw); go_simp; with_reducible rfl)
                try simp only [Act.put, List.setIfInBounds_toArray, List.set_cons_zero, List.set_cons_succ]
                refine wpAnyK_take (i := 4) [6, 7, 8, 17, 22, 27] (v := ?v93) rfl (by kernel_rfl) (by kernel_rfl) (by kernel_rfl) (by kernel_rfl) (fun _ _ _ h => h) (Or.inl ⟨by rfl, ?hy93⟩) hH ?rest93
                case hy93 => (intro w hSw; (try dsimp only at hSw); go_simp; with_reducible rfl)
                try simp only [Act.put, List.setIfInBounds_toArray, List.set_cons_zero, List.set_cons_succ]
                refine wpAnyK_take (i := 5) [6, 7, 8, 17, 22, 27] (v := ?v94) rfl (by kernel_rfl) (by kernel_rfl) (by kernel_rfl) (by kernel_rfl) (fun _ _ _ h => h) (Or.inl ⟨by rfl, ?hy94⟩) hH ?rest94
                case hy94 => (intro w hSw; (try dsimp only at hSw); go_simp; with_reducible rfl)
                try simp only [Act.put, List.setIfInBounds_toArray, List.set_cons_zero, List.set_cons_succ]
                refine wpAnyK_take (i := 6) [7, 8, 17, 22, 27] (v := ?v95) rfl (by kernel_rfl) (by kernel_rfl) (by kernel_rfl) (by kernel_rfl) (fun _ _ _ h => h) (Or.inl ⟨by rfl, ?hy95⟩) hH ?rest95
                case hy95 => (intro w hSw; (try dsimp only at hSw); go_simp; with_reducible rfl)
                try simp only [Act.put, List.setIfInBounds_toArray, List.set_cons_zero, List.set_cons_succ]
                refine wpAnyK_take (i := 7) [8, 17, 22, 27] (v := ?v96) rfl (by kernel_rfl) (by kernel_rfl) (by kernel_rfl) (by kernel_rfl) (fun _ _ _ h => h) (Or.inl ⟨by rfl, ?hy96⟩) hH ?rest96
                case hy96 => (intro w hSw; (try dsimp only at hSw); go_simp; with_reducible rfl)
                try simp only [Act.put, List.setIfInBounds_toArray, List.set_cons_zero, List.set_cons_succ]
                refine wpAnyK_take (i := 8) [17, 22, 27] (v := ?v97) rfl (by kernel_rfl) (by kernel_rfl) (by kernel_rfl) (by kernel_rfl) (fun _ _ _ h => h) (Or.inl ⟨by rfl, ?hy97⟩) hH ?rest97
                case hy97 => (intro w hSw; (try dsimp only at hSw); go_simp; with_reducible rfl)
                try simp only [Act.put, List.setIfInBounds_toArray, List.set_cons_zero, List.set_cons_succ]
                refine wpAnyK_take (i := 9) [10, 15, 16, 17, 22, 27] (v := ?v98) rfl (by kernel_rfl) (by kernel_rfl) (by kernel_rfl) (by kernel_rfl) (fun _ _ _ h => h) (Or.inl ⟨by rfl, ?hy98⟩) hH ?rest98
                case hy98 => (intro w hSw; (try dsimp only at hSw); go_simp; with_reducible rfl)
                try simp only [Act.put, List.setIfInBounds_toArray, List.set_cons_zero, List.set_cons_succ]
                refine wpAnyK_take (i := 10) [15, 16, 17, 22, 27] (v := ?v99) rfl (by kernel_rfl) (by kernel_rfl) (by kernel_rfl) (by kernel_rfl) (fun _ _ _ h => h) (Or.inl ⟨by rfl, ?hy99⟩) hH ?rest99
                case hy99 => (intro w hSw; (try dsimp only at hSw); go_simp; with_reducible rfl)
                try simp only [Act.put, List.setIfInBounds_toArray, List.set_cons_zero, List.set_cons_succ]
                refine wpAnyK_take (i := 11) [12, 13, 14, 15, 16, 17, 22, 27] (v := ?v100) rfl (by kernel_rfl) (by kernel_rfl) (by kernel_rfl) (by kernel_rfl) (fun _ _ _ h => h) (Or.inl ⟨by rfl, ?hy100⟩) hH ?rest100
                case hy100 => (intro w hSw; (try dsimp only at hSw); go_simp; with_reducible rfl)
                try simp only [Act.put, List.setIfInBounds_toArray, List.set_cons_zero, List.set_cons_succ]
                refine wpAnyK_take (i := 12) [13, 14, 15, 16, 17, 22, 27] (v := ?v101) rfl (by kernel_rfl) (by kernel_rfl) (by kernel_rfl) (by kernel_rfl) (fun _ _ _ h => h) (Or.inl ⟨by rfl, ?hy101⟩) hH ?rest101
                case hy101 => (intro w hSw; (try dsimp only at hSw); go_simp; with_reducible rfl)
                try simp only [Act.put, List.setIfInBounds_toArray, List.set_cons_zero, List.set_cons_succ]
                refine wpAnyK_take (i := 13) [14, 15, 16, 17, 22, 27] (v := ?v102) rfl (by kernel_rfl) (by kernel_rfl) (by kernel_rfl) (by kernel_rfl) (fun _ _ _ h => h) (Or.inl ⟨by rfl, ?hy102⟩) hH ?rest102
                case hy102 => (intro w hSw; (try dsimp only at hSw); go_simp; with_reducible rfl)
                try simp only [Act.put, List.setIfInBounds_toArray, List.set_cons_zero, List.set_cons_succ]
                refine wpAnyK_take (i := 14) [15, 16, 17, 22, 27] (v := ?v103) rfl (by kernel_rfl) (by kernel_rfl) (by kernel_rfl) (by kernel_rfl) (fun _ _ _ h => h) (Or.inl ⟨by rfl, ?hy103⟩) hH ?rest103
                case hy103 => (intro w hSw; (try dsimp only at hSw); go_simp; with_reducible rfl)
                try simp only [Act.put, List.setIfInBounds_toArray, List.set_cons_zero, List.set_cons_succ]
                refine wpAnyK_take (i := 15) [16, 17, 22, 27] (v := ?v104) rfl (by kernel_rfl) (by kernel_rfl) (by kernel_rfl) (by kernel_rfl) (fun _ _ _ h => h) (Or.inl ⟨by rfl, ?hy104⟩) hH ?rest104
                case hy104 => (intro w hSw; (try dsimp only at hSw); go_simp; with_reducible rfl)
                try simp only [Act.put, List.setIfInBounds_toArray, List.set_cons_zero, List.set_cons_succ]
                refine wpAnyK_take (i := 16) [17, 22, 27] (v := ?v105) rfl (by kernel_rfl) (by kernel_rfl) (by kernel_rfl) (by kernel_rfl) (fun _ _ _ h => h) (Or.inl ⟨by rfl, ?hy105⟩) hH ?rest105
                case hy105 => (intro w hSw; (try dsimp only at hSw); go_simp; with_reducible rfl)
                try simp only [Act.put, List.setIfInBounds_toArray, List.set_cons_zero, List.set_cons_succ]
                refine wpAnyK_take (i := 17) [22, 27] (v := ?v106) rfl (by kernel_rfl) (by kernel_rfl) (by kernel_rfl) (by kernel_rfl) (fun _ _ _ h => h) (Or.inl ⟨by rfl, ?hy106⟩) hH ?rest106
                case hy106 => (intro w hSw; (try dsimp only at hSw); go_simp; with_reducible rfl)
                try simp only [Act.put, List.setIfInBounds_toArray, List.set_cons_zero, List.set_cons_succ]
                refine wpAnyK_take (i := 18) [19, 20, 21, 22, 27] (v := ?v107) rfl (by kernel_rfl) (by kernel_rfl) (by kernel_rfl) (by kernel_rfl) (fun _ _ _ h => h) (Or.inl ⟨by rfl, ?hy107⟩) hH ?rest107
                case hy107 => (intro w hSw; (try dsimp only at hSw); go_simp; with_reducible rfl)
                try simp only [Act.put, List.setIfInBounds_toArray, List.set_cons_zero, List.set_cons_succ]
                refine wpAnyK_take (i := 19) [20, 21, 22, 27] (v := ?v108) rfl (by kernel_rfl) (by kernel_rfl) (by kernel_rfl) (by kernel_rfl) (fun _ _ _ h => h) (Or.inl ⟨by rfl, ?hy108⟩) hH ?rest108
                case hy108 => (intro w hSw; (try dsimp only at hSw); go_simp; with_reducible rfl)
                try simp only [Act.put, List.setIfInBounds_toArray, List.set_cons_zero, List.set_cons_succ]
                refine wpAnyK_take (i := 20) [21, 22, 27] (v := ?v109) rfl (by kernel_rfl) (by kernel_rfl) (by kernel_rfl) (by kernel_rfl) (fun _ _ _ h => h) (Or.inl ⟨by rfl, ?hy109⟩) hH ?rest109
                case hy109 => (intro w hSw; (try dsimp only at hSw); go_simp; with_reducible rfl)
                try simp only [Act.put, List.setIfInBounds_toArray, List.set_cons_zero, List.set_cons_succ]
                refine wpAnyK_take (i := 21) [22, 27] (v := ?v110) rfl (by kernel_rfl) (by kernel_rfl) (by kernel_rfl) (by kernel_rfl) (fun _ _ _ h => h) (Or.inl ⟨by rfl, ?hy110⟩) hH ?rest110
                case hy110 => (intro w hSw; (try dsimp only at hSw); go_simp; with_reducible rfl)
                try simp only [Act.put, List.setIfInBounds_toArray, List.set_cons_zero, List.set_cons_succ]
                refine wpAnyK_take (i := 22) [27] (v := ?v111) rfl (by kernel_rfl) (by kernel_rfl) (by kernel_rfl) (by kernel_rfl) (fun _ _ _ h => h) (Or.inl ⟨by rfl, ?hy111⟩) hH ?rest111
                case hy111 => (intro w hSw; (try dsimp only at hSw); go_simp; with_reducible rfl)
                try simp only [Act.put, List.setIfInBounds_toArray, List.set_cons_zero, List.set_cons_succ]
                refine wpAnyK_take (i := 23) [24, 25, 26, 27] (v := undef) rfl (by kernel_rfl) (by kernel_rfl) (by kernel_rfl) (by kernel_rfl) (fun _ _ _ h => h) (Or.inr ⟨by rfl, rfl⟩) hH ?rest112
                try simp only [Act.put, List.setIfInBounds_toArray, List.set_cons_zero, List.set_cons_succ]
                refine wpAnyK_take (i := 24) [25, 26, 27] (v := undef) rfl (by kernel_rfl) (by kernel_rfl) (by kernel_rfl) (by kernel_rfl) (fun _ _ _ h => h) (Or.inr ⟨by rfl, rfl⟩) hH ?rest113
                try simp only [Act.put, List.setIfInBounds_toArray, List.set_cons_zero, List.set_cons_succ]
                refine wpAnyK_take (i := 25) [26, 27] (v := undef) rfl (by kernel_rfl) (by kernel_rfl) (by kernel_rfl) (by kernel_rfl) (fun _ _ _ h => h) (Or.inr ⟨by rfl, rfl⟩) hH ?rest114
                try simp only [Act.put, List.setIfInBounds_toArray, List.set_cons_zero, List.set_cons_succ]
                refine wpAnyK_take (i := 26) [27] (v := ?v115) rfl (by kernel_rfl) (by kernel_rfl) (by kernel_rfl) (by kernel_rfl) (fun _ _ _ h => h) (Or.inl ⟨by rfl, ?hy115⟩) hH ?rest115
                case hy115 => (intro w hSw; (try dsimp only at hSw); go_simp; with_reducible rfl)
                try simp only [Act.put, List.setIfInBounds_toArray, List.set_cons_zero, List.set_cons_succ]
                refine wpAnyK_last (by kernel_rfl) rfl (fun K hK => ?_) (by kernel_rfl)
                go_simp
                go_at_call 118
                refine (want_false _).mono ?_
                rintro e w8 ⟨rfl, rfl⟩
                exact ⟨rfl, .inl ⟨rfl, fun he => by have := (HN2.out he).1; omega⟩, H7.out.2.drew⟩
            · have t2 : decide (id ≤ last) = false := decide_eq_false v2
              go_wp2_with fail
              have kd0 : w7.drew.cell? ⟨wr.heap.size, 0, none⟩ = some (.int .i64 id) := y0
              have kd2 : w7.drew.cell? ⟨wr.heap.size, 2, none⟩ = some (.int .i64 ut) := y2
              have kd3 : w7.drew.cell? ⟨w.heap.size + 1 + 1, 1, none⟩ = some (.int .i64 last) := i1
              refine wp_region_K (fun w' => w'.cell? ⟨wr.heap.size, 0, none⟩ = some (.int .i64 id) ∧ w'.cell? ⟨wr.heap.size, 2, none⟩ = some (.int .i64 ut) ∧ w'.cell? ⟨w.heap.size + 1 + 1, 1, none⟩ = some (.int .i64 last)) 27 28 (by kernel_rfl) (by kernel_rfl) ⟨kd0, kd2, kd3⟩ (fun hH => ?_)
              refine wpAnyK_take (i := 0) [1, 2, 8, 17, 22, 27] (v := ?v116) rfl (by kernel_rfl) (by kernel_rfl) (by kernel_rfl) (by kernel_rfl) (fun _ _ _ h => h) (Or.inl ⟨by rfl, ?hy116⟩) hH ?rest116
              case hy116 => (intro w hSw; (try dsimp only at hSw); go_simp; with_reducible rfl)
              try simp only [Act.put, List.setIfInBounds_toArray, List.set_cons_zero, List.set_cons_succ]
              refine wpAnyK_take (i := 1) [2, 8, 17, 22, 27] (v := ?v117) rfl (by kernel_rfl) (by kernel_rfl) (by kernel_rfl) (by kernel_rfl) (fun _ _ _ h => h) (Or.inl ⟨by rfl, ?hy117⟩) hH ?rest117
              case hy117 => (intro w hSw; (try dsimp only at hSw); go_simp; with_reducible rfl)
              try simp only [Act.put, List.setIfInBounds_toArray, List.set_cons_zero, List.set_cons_succ]
              refine wpAnyK_take (i := 2) [8, 17, 22, 27] (v := ?v118) rfl (by kernel_rfl) (by kernel_rfl) (by kernel_rfl) (by kernel_rfl) (fun _ _ _ h => h) (Or.inl ⟨by rfl, ?hy118⟩) hH ?rest118
              case hy118 => (intro w hSw; (try dsimp only at hSw); go_simp; with_reducible rfl)
              try simp only [Act.put, List.setIfInBounds_toArray, List.set_cons_zero, List.set_cons_succ]
              refine wpAnyK_take (i := 3) [4, 6, 7, 8, 17, 22, 27] (v := ?v119) rfl (by kernel_rfl) (by kernel_rfl) (by kernel_rfl) (by kernel_rfl) (fun _ _ _ h => h) (Or.inl ⟨by rfl, ?hy119⟩) hH ?rest119
              case hy119 => (intro w hSw; (try dsimp only at hSw); go_simp; with_reducible rfl)
              try simp only [Act.put, List.setIfInBounds_toArray, List.set_cons_zero, List.set_cons_succ]
              refine wpAnyK_take (i := 4) [6, 7, 8, 17, 22, 27] (v := ?v120) rfl (by kernel_rfl) (by kernel_rfl) (by kernel_rfl) (by kernel_rfl) (fun _ _ _ h => h) (Or.inl ⟨by rfl, ?hy120⟩) hH ?rest120
              case hy120 => (intro w hSw; (try dsimp only at hSw); go_simp; with_reducible rfl)
              try simp only [Act.put, List.setIfInBounds_toArray, List.set_cons_zero, List.set_cons_succ]
              refine wpAnyK_take (i := 5) [6, 7, 8, 17, 22, 27] (v := ?v121) rfl (by kernel_rfl) (by kernel_rfl) (by kernel_rfl) (by kernel_rfl) (fun _ _ _ h => h) (Or.inl ⟨by rfl, ?hy121⟩) hH ?rest121
              case hy121 => (intro w hSw; (try dsimp only at hSw); go_simp; with_reducible rfl)
              try simp only [Act.put, List.setIfInBounds_toArray, List.set_cons_zero, List.set_cons_succ]
              refine wpAnyK_take (i := 6) [7, 8, 17, 22, 27] (v := ?v122) rfl (by kernel_rfl) (by kernel_rfl) (by kernel_rfl) (by kernel_rfl) (fun _ _ _ h => h) (Or.inl ⟨by rfl, ?hy122⟩) hH ?rest122
              case hy122 => (intro w hSw; (try dsimp only at hSw); go_simp; with_reducible rfl)
              try simp only [Act.put, List.setIfInBounds_toArray, List.set_cons_zero, List.set_cons_succ]
              refine wpAnyK_take (i := 7) [8, 17, 22, 27] (v := ?v123) rfl (by kernel_rfl) (by kernel_rfl) (by kernel_rfl) (by kernel_rfl) (fun _ _ _ h => h) (Or.inl ⟨by rfl, ?hy123⟩) hH ?rest123
              case hy123 => (intro w hSw; (try dsimp only at hSw); go_simp; with_reducible rfl)
              try simp only [Act.put, List.setIfInBounds_toArray, List.set_cons_zero, List.set_cons_succ]
              refine wpAnyK_take (i := 8) [17, 22, 27] (v := ?v124) rfl (by kernel_rfl) (by kernel_rfl) (by kernel_rfl) (by kernel_rfl) (fun _ _ _ h => h) (Or.inl ⟨by rfl, ?hy124⟩) hH ?rest124
              case hy124 => (intro w hSw; (try dsimp only at hSw); go_simp; with_reducible rfl)
              try simp only [Act.put, List.setIfInBounds_toArray, List.set_cons_zero, List.set_cons_succ]
              refine wpAnyK_take (i := 9) [10, 15, 16, 17, 22, 27] (v := ?v125) rfl (by kernel_rfl) (by kernel_rfl) (by kernel_rfl) (by kernel_rfl) (fun _ _ _ h => h) (Or.inl ⟨by rfl, ?hy125⟩) hH ?rest125
              case hy125 => (intro w hSw; (try dsimp only at hSw); go_simp; with_reducible rfl)
              try simp only [Act.put, List.setIfInBounds_toArray, List.set_cons_zero, List.set_cons_succ]
              refine wpAnyK_take (i := 10) [15, 16, 17, 22, 27] (v := ?v126) rfl (by kernel_rfl) (by kernel_rfl) (by kernel_rfl) (by kernel_rfl) (fun _ _ _ h => h) (Or.inl ⟨by rfl, ?hy126⟩) hH ?rest126
              case hy126 => (intro w hSw; (try dsimp only at hSw); go_simp; with_reducible rfl)
              try simp only [Act.put, List.setIfInBounds_toArray, List.set_cons_zero, List.set_cons_succ]
              refine wpAnyK_take (i := 11) [12, 13, 14, 15, 16, 17, 22, 27] (v := ?v127) rfl (by kernel_rfl) (by kernel_rfl) (by kernel_rfl) (by kernel_rfl) (fun _ _ _ h => h) (Or.inl ⟨by rfl, ?hy127⟩) hH ?rest127
              case hy127 => (intro w hSw; (try dsimp only at hSw); go_simp; with_reducible rfl)
              try simp only [Act.put, List.setIfInBounds_toArray, List.set_cons_zero, List.set_cons_succ]
              refine wpAnyK_take (i := 12) [13, 14, 15, 16, 17, 22, 27] (v := ?v128) rfl (by kernel_rfl) (by kernel_rfl) (by kernel_rfl) (by kernel_rfl) (fun _ _ _ h => h) (Or.inl ⟨by rfl, ?hy128⟩) hH ?rest128
              case hy128 => (intro w hSw; (try dsimp only at hSw); go_simp; with_reducible rfl)
              try simp only [Act.put, List.setIfInBounds_toArray, List.set_cons_zero, List.set_cons_succ]
              refine wpAnyK_take (i := 13) [14, 15, 16, 17, 22, 27] (v := ?v129) rfl (by kernel_rfl) (by kernel_rfl) (by kernel_rfl) (by kernel_rfl) (fun _ _ _ h => h) (Or.inl ⟨by rfl, ?hy129⟩) hH ?rest129
              case hy129 => (intro w hSw; (try dsimp only at hSw); go_simp; with_reducible rfl)
              try simp only [Act.put, List.setIfInBounds_toArray, List.set_cons_zero, List.set_cons_succ]
              refine wpAnyK_take (i := 14) [15, 16, 17, 22, 27] (v := ?v130) rfl (by kernel_rfl) (by kernel_rfl) (by kernel_rfl) (by kernel_rfl) (fun _ _ _ h => h) (Or.inl ⟨by rfl, ?hy130⟩) hH ?rest130
              case hy130 => (intro w hSw; (try dsimp only at hSw); go_simp; with_reducible rfl)
              try simp only [Act.put, List.setIfInBounds_toArray, List.set_cons_zero, List.set_cons_succ]
              refine wpAnyK_take (i := 15) [16, 17, 22, 27] (v := ?v131) rfl (by kernel_rfl) (by kernel_rfl) (by kernel_rfl) (by kernel_rfl) (fun _ _ _ h => h) (Or.inl ⟨by rfl, ?hy131⟩) hH ?rest131
              case hy131 => (intro w hSw; (try dsimp only at hSw); go_simp; with_reducible rfl)
              try simp only [Act.put, List.setIfInBounds_toArray, List.set_cons_zero, List.set_cons_succ]
              refine wpAnyK_take (i := 16) [17, 22, 27] (v := ?v132) rfl (by kernel_rfl) (by kernel_rfl) (by kernel_rfl) (by kernel_rfl) (fun _ _ _ h => h) (Or.inl ⟨by rfl, ?hy132⟩) hH ?rest132
              case hy132 => (intro w hSw; (try dsimp only at hSw); go_simp; with_reducible rfl)
              try simp only [Act.put, List.setIfInBounds_toArray, List.set_cons_zero, List.set_cons_succ]
              refine wpAnyK_take (i := 17) [22, 27] (v := ?v133) rfl (by kernel_rfl) (by kernel_rfl) (by kernel_rfl) (by kernel_rfl) (fun _ _ _ h => h) (Or.inl ⟨by rfl, ?hy133⟩) hH ?rest133
              case hy133 => (intro w hSw; (try dsimp only at hSw); go_simp; with_reducible rfl)
              try simp only [Act.put, List.setIfInBounds_toArray, List.set_cons_zero, List.set_cons_succ]
              refine wpAnyK_take (i := 18) [19, 20, 21, 22, 27] (v := undef) rfl (by kernel_rfl) (by kernel_rfl) (by kernel_rfl) (by kernel_rfl) (fun _ _ _ h => h) (Or.inr ⟨by rfl, rfl⟩) hH ?rest134
              try simp only [Act.put, List.setIfInBounds_toArray, List.set_cons_zero, List.set_cons_succ]
              refine wpAnyK_take (i := 19) [20, 21, 22, 27] (v := undef) rfl (by kernel_rfl) (by kernel_rfl) (by kernel_rfl) (by kernel_rfl) (fun _ _ _ h => h) (Or.inr ⟨by rfl, rfl⟩) hH ?rest135
              try simp only [Act.put, List.setIfInBounds_toArray, List.set_cons_zero, List.set_cons_succ]
              refine wpAnyK_take (i := 20) [21, 22, 27] (v := undef) rfl (by kernel_rfl) (by kernel_rfl) (by kernel_rfl) (by kernel_rfl) (fun _ _ _ h => h) (Or.inr ⟨by rfl, rfl⟩) hH ?rest136
              try simp only [Act.put, List.setIfInBounds_toArray, List.set_cons_zero, List.set_cons_succ]
              refine wpAnyK_take (i := 21) [22, 27] (v := ?v137) rfl (by kernel_rfl) (by kernel_rfl) (by kernel_rfl) (by kernel_rfl) (fun _ _ _ h => h) (Or.inl ⟨by rfl, ?hy137⟩) hH ?rest137
              case hy137 => (intro w hSw; (try dsimp only at hSw); go_simp; with_reducible rfl)
              try simp only [Act.put, List.setIfInBounds_toArray, List.set_cons_zero, List.set_cons_succ]
              refine wpAnyK_take (i := 22) [27] (v := ?v138) rfl (by kernel_rfl) (by kernel_rfl) (by kernel_rfl) (by kernel_rfl) (fun _ _ _ h => h) (Or.inl ⟨by rfl, ?hy138⟩) hH ?rest138
              case hy138 => (intro w hSw; (try dsimp only at hSw); go_simp; with_reducible rfl)
              try simp only [Act.put, List.setIfInBounds_toArray, List.set_cons_zero, List.set_cons_succ]
              refine wpAnyK_take (i := 23) [24, 25, 26, 27] (v := undef) rfl (by kernel_rfl) (by kernel_rfl) (by kernel_rfl) (by kernel_rfl) (fun _ _ _ h => h) (Or.inr ⟨by rfl, rfl⟩) hH ?rest139
              try simp only [Act.put, List.setIfInBounds_toArray, List.set_cons_zero, List.set_cons_succ]
              refine wpAnyK_take (i := 24) [25, 26, 27] (v := undef) rfl (by kernel_rfl) (by kernel_rfl) (by kernel_rfl) (by kernel_rfl) (fun _ _ _ h => h) (Or.inr ⟨by rfl, rfl⟩) hH ?rest140
              try simp only [Act.put, List.setIfInBounds_toArray, List.set_cons_zero, List.set_cons_succ]
              refine wpAnyK_take (i := 25) [26, 27] (v := undef) rfl (by kernel_rfl) (by kernel_rfl) (by kernel_rfl) (by kernel_rfl) (fun _ _ _ h => h) (Or.inr ⟨by rfl, rfl⟩) hH ?rest141
              try simp only [Act.put, List.setIfInBounds_toArray, List.set_cons_zero, List.set_cons_succ]
              refine wpAnyK_take (i := 26) [27] (v := ?v142) rfl (by kernel_rfl) (by kernel_rfl) (by kernel_rfl) (by kernel_rfl) (fun _ _ _ h => h) (Or.inl ⟨by rfl, ?hy142⟩) hH ?rest142
              case hy142 => (intro w hSw; (try dsimp only at hSw); go_simp; with_reducible rfl)
              try simp only [Act.put, List.setIfInBounds_toArray, List.set_cons_zero, List.set_cons_succ]
              refine wpAnyK_last (by kernel_rfl) rfl (fun K hK => ?_) (by kernel_rfl)
              go_simp
              go_at_call 118
              refine (want_false _).mono ?_
              rintro e w8 ⟨rfl, rfl⟩
              exact ⟨rfl, .inl ⟨rfl, fun he => by have := (HN1.out he).2.1; omega⟩, H7.out.2.drew⟩
          · have t1 : decide (ahead < id) = false := decide_eq_false v1
            go_wp2_with fail
            have kd0 : w7.drew.cell? ⟨wr.heap.size, 0, none⟩ = some (.int .i64 id) := y0
            have kd2 : w7.drew.cell? ⟨wr.heap.size, 2, none⟩ = some (.int .i64 ut) := y2
            have kd3 : w7.drew.cell? ⟨w.heap.size + 1 + 1, 1, none⟩ = some (.int .i64 last) := i1
            refine wp_region_K (fun w' => w'.cell? ⟨wr.heap.size, 0, none⟩ = some (.int .i64 id) ∧ w'.cell? ⟨wr.heap.size, 2, none⟩ = some (.int .i64 ut) ∧ w'.cell? ⟨w.heap.size + 1 + 1, 1, none⟩ = some (.int .i64 last)) 27 28 (by kernel_rfl) (by kernel_rfl) ⟨kd0, kd2, kd3⟩ (fun hH => ?_)
            refine wpAnyK_take (i := 0) [1, 2, 8, 17, 22, 27] (v := ?v143) rfl (by kernel_rfl) (by kernel_rfl) (by kernel_rfl) (by kernel_rfl) (fun _ _ _ h => h) (Or.inl ⟨by rfl, ?hy143⟩) hH ?rest143
            case hy143 => (intro w hSw; (try dsimp only at hSw); go_simp; with_reducible rfl)
            try simp only [Act.put, List.setIfInBounds_toArray, List.set_cons_zero, List.set_cons_succ]
            refine wpAnyK_take (i := 1) [2, 8, 17, 22, 27] (v := ?v144) rfl (by kernel_rfl) (by kernel_rfl) (by kernel_rfl) (by kernel_rfl) (fun _ _ _ h => h) (Or.inl ⟨by rfl, ?hy144⟩) hH ?rest144
            case hy144 => (intro w hSw; (try dsimp only at hSw); go_simp; with_reducible rfl)
            try simp only [Act.put, List.setIfInBounds_toArray, List.set_cons_zero, List.set_cons_succ]
            refine wpAnyK_take (i := 2) [8, 17, 22, 27] (v := ?v145) rfl (by kernel_rfl) (by kernel_rfl) (by kernel_rfl) (by kernel_rfl) (fun _ _ _ h => h) (Or.inl ⟨by rfl, ?hy145⟩) hH ?rest145
            case hy145 => (intro w hSw; (try dsimp only at hSw); go_simp; with_reducible rfl)
            try simp only [Act.put, List.setIfInBounds_toArray, List.set_cons_zero, List.set_cons_succ]
            refine wpAnyK_take (i := 3) [4, 6, 7, 8, 17, 22, 27] (v := ?v146) rfl (by kernel_rfl) (by kernel_rfl) (by kernel_rfl) (by kernel_rfl) (fun _ _ _ h => h) (Or.inl ⟨by rfl, ?hy146⟩) hH ?rest146
            case hy146 => (intro w hSw; (try dsimp only at hSw); go_simp; with_reducible rfl)
            try simp only [Act.put, List.setIfInBounds_toArray, List.set_cons_zero, List.set_cons_succ]
            refine wpAnyK_take (i := 4) [6, 7, 8, 17, 22, 27] (v := ?v147) rfl (by kernel_rfl) (by kernel_rfl) (by kernel_rfl) (by kernel_rfl) (fun _ _ _ h => h) (Or.inl ⟨by rfl, ?hy147⟩) hH ?rest147
            case hy147 => (intro w hSw; (try dsimp only at hSw); go_simp; with_reducible rfl)
            try simp only [Act.put, List.setIfInBounds_toArray, List.set_cons_zero, List.set_cons_succ]
            refine wpAnyK_take (i := 5) [6, 7, 8, 17, 22, 27] (v := ?v148) rfl (by kernel_rfl) (by kernel_rfl) (by kernel_rfl) (by kernel_rfl) (fun _ _ _ h => h) (Or.inl ⟨by rfl, ?hy148⟩) hH ?rest148
            case hy148 => (intro w hSw; (try dsimp only at hSw); go_simp; with_reducible rfl)
            try simp only [Act.put, List.setIfInBounds_toArray, List.set_cons_zero, List.set_cons_succ]
            refine wpAnyK_take (i := 6) [7, 8, 17, 22, 27] (v := ?v149) rfl (by kernel_rfl) (by kernel_rfl) (by kernel_rfl) (by kernel_rfl) (fun _ _ _ h => h) (Or.inl ⟨by rfl, ?hy149⟩) hH ?rest149
            case hy149 => (intro w hSw; (try dsimp only at hSw); go_simp; with_reducible rfl)
            try simp only [Act.put, List.setIfInBounds_toArray, List.set_cons_zero, List.set_cons_succ]
            refine wpAnyK_take (i := 7) [8, 17, 22, 27] (v := ?v150) rfl (by kernel_rfl) (by kernel_rfl) (by kernel_rfl) (by kernel_rfl) (fun _ _ _ h => h) (Or.inl ⟨by rfl, ?hy150⟩) hH ?rest150
            case hy150 => (intro w hSw; (try dsimp only at hSw); go_simp; with_reducible rfl)
            try simp only [Act.put, List.setIfInBounds_toArray, List.set_cons_zero, List.set_cons_succ]
            refine wpAnyK_take (i := 8) [17, 22, 27] (v := ?v151) rfl (by kernel_rfl) (by kernel_rfl) (by kernel_rfl) (by kernel_rfl) (fun _ _ _ h => h) (Or.inl ⟨by rfl, ?hy151⟩) hH ?rest151
            case hy151 => (intro w hSw; (try dsimp only at hSw); go_simp; with_reducible rfl)
            try simp only [Act.put, List.setIfInBounds_toArray, List.set_cons_zero, List.set_cons_succ]
            refine wpAnyK_take (i := 9) [10, 15, 16, 17, 22, 27] (v := undef) rfl (by kernel_rfl) (by kernel_rfl) (by kernel_rfl) (by kernel_rfl) (fun _ _ _ h => h) (Or.inr ⟨by rfl, rfl⟩) hH ?rest152
            try simp only [Act.put, List.setIfInBounds_toArray, List.set_cons_zero, List.set_cons_succ]
            refine wpAnyK_take (i := 10) [15, 16, 17, 22, 27] (v := undef) rfl (by kernel_rfl) (by kernel_rfl) (by kernel_rfl) (by kernel_rfl) (fun _ _ _ h => h) (Or.inr ⟨by rfl, rfl⟩) hH ?rest153
            try simp only [Act.put, List.setIfInBounds_toArray, List.set_cons_zero, List.set_cons_succ]
            refine wpAnyK_take (i := 11) [12, 13, 14, 15, 16, 17, 22, 27] (v := undef) rfl (by kernel_rfl) (by kernel_rfl) (by kernel_rfl) (by kernel_rfl) (fun _ _ _ h => h) (Or.inr ⟨by rfl, rfl⟩) hH ?rest154
            try simp only [Act.put, List.setIfInBounds_toArray, List.set_cons_zero, List.set_cons_succ]
            refine wpAnyK_take (i := 12) [13, 14, 15, 16, 17, 22, 27] (v := undef) rfl (by kernel_rfl) (by kernel_rfl) (by kernel_rfl) (by kernel_rfl) (fun _ _ _ h => h) (Or.inr ⟨by rfl, rfl⟩) hH ?rest155
            try simp only [Act.put, List.setIfInBounds_toArray, List.set_cons_zero, List.set_cons_succ]
            refine wpAnyK_take (i := 13) [14, 15, 16, 17, 22, 27] (v := undef) rfl (by kernel_rfl) (by kernel_rfl) (by kernel_rfl) (by kernel_rfl) (fun _ _ _ h => h) (Or.inr ⟨by rfl, rfl⟩) hH ?rest156
            try simp only [Act.put, List.setIfInBounds_toArray, List.set_cons_zero, List.set_cons_succ]
            refine wpAnyK_take (i := 14) [15, 16, 17, 22, 27] (v := undef) rfl (by kernel_rfl) (by kernel_rfl) (by kernel_rfl) (by kernel_rfl) (fun _ _ _ h => h) (Or.inr ⟨by rfl, rfl⟩) hH ?rest157
            try simp only [Act.put, List.setIfInBounds_toArray, List.set_cons_zero, List.set_cons_succ]
            refine wpAnyK_take (i := 15) [16, 17, 22, 27] (v := undef) rfl (by kernel_rfl) (by kernel_rfl) (by kernel_rfl) (by kernel_rfl) (fun _ _ _ h => h) (Or.inr ⟨by rfl, rfl⟩) hH ?rest158
            try simp only [Act.put, List.setIfInBounds_toArray, List.set_cons_zero, List.set_cons_succ]
            refine wpAnyK_take (i := 16) [17, 22, 27] (v := ?v159) rfl (by kernel_rfl) (by kernel_rfl) (by kernel_rfl) (by kernel_rfl) (fun _ _ _ h => h) (Or.inl ⟨by rfl, ?hy159⟩) hH ?rest159
            case hy159 => (intro w hSw; (try dsimp only at hSw); go_simp; with_reducible rfl)
            try simp only [Act.put, List.setIfInBounds_toArray, List.set_cons_zero, List.set_cons_succ]
            refine wpAnyK_take (i := 17) [22, 27] (v := ?v160) rfl (by kernel_rfl) (by kernel_rfl) (by kernel_rfl) (by kernel_rfl) (fun _ _ _ h => h) (Or.inl ⟨by rfl, ?hy160⟩) hH ?rest160
            case hy160 => (intro w hSw; (try dsimp only at hSw); go_simp; with_reducible rfl)
            try simp only [Act.put, List.setIfInBounds_toArray, List.set_cons_zero, List.set_cons_succ]
            refine wpAnyK_take (i := 18) [19, 20, 21, 22, 27] (v := undef) rfl (by kernel_rfl) (by kernel_rfl) (by kernel_rfl) (by kernel_rfl) (fun _ _ _ h => h) (Or.inr ⟨by rfl, rfl⟩) hH ?rest161
            try simp only [Act.put, List.setIfInBounds_toArray, List.set_cons_zero, List.set_cons_succ]
            refine wpAnyK_take (i := 19) [20, 21, 22, 27] (v := undef) rfl (by kernel_rfl) (by kernel_rfl) (by kernel_rfl) (by kernel_rfl) (fun _ _ _ h => h) (Or.inr ⟨by rfl, rfl⟩) hH ?rest162
            try simp only [Act.put, List.setIfInBounds_toArray, List.set_cons_zero, List.set_cons_succ]
            refine wpAnyK_take (i := 20) [21, 22, 27] (v := undef) rfl (by kernel_rfl) (by kernel_rfl) (by kernel_rfl) (by kernel_rfl) (fun _ _ _ h => h) (Or.inr ⟨by rfl, rfl⟩) hH ?rest163
            try simp only [Act.put, List.setIfInBounds_toArray, List.set_cons_zero, List.set_cons_succ]
            refine wpAnyK_take (i := 21) [22, 27] (v := ?v164) rfl (by kernel_rfl) (by kernel_rfl) (by kernel_rfl) (by kernel_rfl) (fun _ _ _ h => h) (Or.inl ⟨by rfl, ?hy164⟩) hH ?rest164
            case hy164 => (intro w hSw; (try dsimp only at hSw); go_simp; with_reducible rfl)
            try simp only [Act.put, List.setIfInBounds_toArray, List.set_cons_zero, List.set_cons_succ]
            refine wpAnyK_take (i := 22) [27] (v := ?v165) rfl (by kernel_rfl) (by kernel_rfl) (by kernel_rfl) (by kernel_rfl) (fun _ _ _ h => h) (Or.inl ⟨by rfl, ?hy165⟩) hH ?rest165
            case hy165 => (intro w hSw; (try dsimp only at hSw); go_simp; with_reducible rfl)
            try simp only [Act.put, List.setIfInBounds_toArray, List.set_cons_zero, List.set_cons_succ]
            refine wpAnyK_take (i := 23) [24, 25, 26, 27] (v := undef) rfl (by kernel_rfl) (by kernel_rfl) (by kernel_rfl) (by kernel_rfl) (fun _ _ _ h => h) (Or.inr ⟨by rfl, rfl⟩) hH ?rest166
            try simp only [Act.put, List.setIfInBounds_toArray, List.set_cons_zero, List.set_cons_succ]
            refine wpAnyK_take (i := 24) [25, 26, 27] (v := undef) rfl (by kernel_rfl) (by kernel_rfl) (by kernel_rfl) (by kernel_rfl) (fun _ _ _ h => h) (Or.inr ⟨by rfl, rfl⟩) hH ?rest167
            try simp only [Act.put, List.setIfInBounds_toArray, List.set_cons_zero, List.set_cons_succ]
            refine wpAnyK_take (i := 25) [26, 27] (v := undef) rfl (by kernel_rfl) (by kernel_rfl) (by kernel_rfl) (by kernel_rfl) (fun _ _ _ h => h) (Or.inr ⟨by rfl, rfl⟩) hH ?rest168
            try simp only [Act.put, List.setIfInBounds_toArray, List.set_cons_zero, List.set_cons_succ]
            refine wpAnyK_take (i := 26) [27] (v := ?v169) rfl (by kernel_rfl) (by kernel_rfl) (by kernel_rfl) (by kernel_rfl) (fun _ _ _ h => h) (Or.inl ⟨by rfl, ?hy169⟩) hH ?rest169
            case hy169 => (intro w hSw; (try dsimp only at hSw); go_simp; with_reducible rfl)
            try simp only [Act.put, List.setIfInBounds_toArray, List.set_cons_zero, List.set_cons_succ]
            refine wpAnyK_last (by kernel_rfl) rfl (fun K hK => ?_) (by kernel_rfl)
            go_simp
            go_at_call 118
            refine (want_false _).mono ?_
            rintro e w8 ⟨rfl, rfl⟩
            exact ⟨rfl, .inl ⟨rfl, fun he => by have := (HN1.out he).1; omega⟩, H7.out.2.drew⟩
end Go.Proofs.YtnegappgdpeabaaGreat
/-
  Lease: Load; what is asked of a nil one.
-/
namespace Go.Proofs.YtnegappgdpeabaaGreat
open Go.RowKit
variable {w w' w0 w1 w2 w3 w4 : World} {mb lb B : Nat} {ob : Option Nat} {m : Lm} {last now : Int}

theorem load_catch (a b : Nat) (code : Int) (w : World) (fa : w.frozen? ⟨a, 0, none⟩ = false) (fb : w.frozen? ⟨b, 0, none⟩ = false)
    (ca : ∃ v, w.cell? ⟨a, 0, none⟩ = some v) (cb : ∃ v, w.cell? ⟨b, 0, none⟩ = some v) (hab : a ≠ b) :
    CallsD Tryz.prog 42 #[.pointer (some ⟨a, 0, none⟩), .pointer (some ⟨b, 0, none⟩)] (.panicking [{ v := errV code, recovered := false }]) w fun e u' w' =>
      e = .returned (.tuple #[]) ∧ u' = .panicking [{ v := errV code, recovered := true }] ∧
      w' = (w.setCell ⟨a, 0, none⟩ (.pointer none)).setCell ⟨b, 0, none⟩ (.int .i64 code) := by
  obtain ⟨va, ca⟩ := ca
  obtain ⟨vb, cb⟩ := cb
  refine callsD_of_wpS Tryz.func42 rfl fun c₀ cs hu => ?_
  apply wpS_seq
  apply wpS_region
  simp [wpOpsS, go_sem, recoverD, hu, Tryz.ntmps42, Exit.thenS]
  refine wpS_of_wp ?_
  simp only [List.replicate, Array.replicate, List.append_toArray, List.setIfInBounds_toArray, List.set_cons_zero, List.set_cons_succ, List.cons_append, List.nil_append]
  have hta := assert_errno
  have hnot : ∀ (x : Bool) (w : World), (Op.unary .not (.bool x)).run Tryz.prog w = .ok (.bool (!x)) w := fun _ _ => rfl
  go_wp2
  exact ⟨rfl, _, rfl, _, results_none rfl _ _ _, rfl, rfl, rfl⟩
theorem load_idle (a b : Nat) (w : World) :
    CallsD Tryz.prog 42 #[.pointer (some ⟨a, 0, none⟩), .pointer (some ⟨b, 0, none⟩)] .returning w fun e u' w' => e = .returned (.tuple #[]) ∧ u' = .returning ∧ w' = w := by
  refine callsD_of_wpS Tryz.func42 rfl fun c₀ cs hu => ?_
  apply wpS_seq
  apply wpS_region
  simp [wpOpsS, go_sem, recoverD, hu, Tryz.ntmps42, Exit.thenS]
  refine wpS_of_wp ?_
  simp only [List.replicate, Array.replicate, List.append_toArray, List.setIfInBounds_toArray, List.set_cons_zero, List.set_cons_succ, List.cons_append, List.nil_append]
  go_wp2
  refine ⟨rfl, .returning, ?_, _, results_none rfl _ _ _, rfl, rfl, rfl⟩
  cases c₀
  simp_all
/-- What Load answers. -/
def LoadE (s : ByteArray) (w : World) (e : Ending) (w' : World) : Prop :=
  (e = .returned (.tuple #[.pointer none, .int .i64 4]) ∧ ¬ Encd s) ∨
  ∃ lb mb m last, e = .returned (.tuple #[.pointer (some ⟨lb, 0, none⟩), .int .i64 0]) ∧ LsAt w' lb (some mb) m last ∧ last < 72057594037927936 ∧ (∀ p ∈ m, 1 ≤ p.2.till ∧ p.2.till ≤ 281474976710656) ∧ s.data.toList = putS last ((sortM m).map core) ∧ w.heap.size ≤ lb ∧ w.heap.size ≤ mb ∧ ∀ p ∈ m, RdX (fun q => q < w.heap.size ∨ foot lb (some mb) q) w' p.2
set_option maxRecDepth 100000 in
set_option maxHeartbeats 4000000 in
theorem load_any (s : ByteArray) (w : World) (hs : s.size ≤ 9223372036854775807) : Calls Tryz.prog 21 #[.string s] w fun e w' => LoadE s w e w' ∧ Below w.heap.size w w' := by
  have hmf : ∀ (fn : Fn) (first cap : Array Value) (w : World), (Instr.makeFunc fn first cap).run Tryz.prog w = .ok (.func fn first cap) w := fun _ _ _ _ => rfl
  obtain ⟨W1, hW1⟩ : ∃ W1, (w.alloc (.cells #[.pointer none] 24)).alloc (.cells #[.int .i64 0] 55) = W1 := ⟨_, rfl⟩
  have q0 : W1.cell? ⟨w.heap.size, 0, none⟩ = some (.pointer none) := by rw [← hW1]; simp [go_sem]
  have q1 : W1.cell? ⟨w.heap.size + 1, 0, none⟩ = some (.int .i64 0) := by rw [← hW1]; simp [go_sem]
  have f0 : W1.frozen? ⟨w.heap.size, 0, none⟩ = false := by rw [← hW1]; simp [go_sem]
  have f1 : W1.frozen? ⟨w.heap.size + 1, 0, none⟩ = false := by rw [← hW1]; simp [go_sem]
  have b1 : Below w.heap.size w W1 := by rw [← hW1]; exact ((Below.refl _ _).alloc (Nat.le_refl _) _).alloc (by simp) _
  have hz : W1.heap.size = w.heap.size + 2 := by rw [← hW1]; simp
  have hR := read_any s W1 hs
  have H1 := Lib.hid (And.intro b1 hz)
  clear b1 hz
  go_enter_defers Tryz.func21, Tryz.ntmps21
  go_wp2_with fail
  refine hR.mono ?_
  rintro e w2 ⟨hre, hb2⟩
  have p0 := (hb2.cell (p := ⟨w.heap.size, 0, none⟩) (World.block_lt_of_cell? _ _ q0)).trans q0
  have p1 := (hb2.cell (p := ⟨w.heap.size + 1, 0, none⟩) (World.block_lt_of_cell? _ _ q1)).trans q1
  have g0 := (hb2.frozen (p := ⟨w.heap.size, 0, none⟩) (World.block_lt_of_cell? _ _ q0)).trans f0
  have g1 := (hb2.frozen (p := ⟨w.heap.size + 1, 0, none⟩) (World.block_lt_of_cell? _ _ q1)).trans f1
  have hbw : Below w.heap.size w w2 := H1.out.1.trans (hb2.mono H1.out.1.size)
  have H2 := Lib.hid (And.intro hb2 hbw)
  clear hb2 hbw q0 q1 f0 f1 hR
  rcases hre with ⟨rfl, hnoe⟩ | ⟨lb, mb, m, last, rfl, hls, hl1, hri, hti, heq, hlb, hmb, hrd⟩
  · have HNOE := Lib.hid hnoe
    clear hnoe
    go_wp2
    refine leaves_cons (f := 42) (args := #[.pointer (some ⟨w.heap.size, 0, none⟩), .pointer (some ⟨w.heap.size + 1, 0, none⟩)]) (by simp) (by simp [go_sem]) ?_
    refine (load_catch _ _ _ _ g0 g1 ⟨_, p0⟩ ⟨_, p1⟩ (by omega)).mono ?_
    rintro e u' w'' ⟨rfl, rfl, hw''⟩
    have k0 : w''.cell? ⟨w.heap.size, 0, none⟩ = some (.pointer none) := by rw [hw'']; exact cell_ob (World.cell?_setCell_same _ _ _ p0) (by omega)
    have k1 : w''.cell? ⟨w.heap.size + 1, 0, none⟩ = some (.int .i64 4) := by rw [hw'']; exact World.cell?_setCell_same _ _ _ (cell_ob p1 (by omega))
    simp [Leaves, settle, results, Tryz.results21, go_sem, k0, k1]
    refine ⟨.inl ⟨rfl, HNOE.out⟩, ?_⟩
    rw [hw'']
    exact (H2.out.2.setCell (Nat.le_refl _) _).setCell (by show _ ≤ w.heap.size + 1; omega) _
  · have HS := Lib.hid (And.intro hls (And.intro hl1 (And.intro hri (And.intro hti (And.intro heq (And.intro hlb (And.intro hmb hrd)))))))
    clear hls hl1 hri hti heq hrd
    obtain ⟨W3, hW3⟩ : ∃ W3, w2.setCell ⟨w.heap.size, 0, none⟩ (.pointer (some ⟨lb, 0, none⟩)) = W3 := ⟨_, rfl⟩
    have x0 : W3.cell? ⟨w.heap.size, 0, none⟩ = some (.pointer (some ⟨lb, 0, none⟩)) := by rw [← hW3]; exact World.cell?_setCell_same _ _ _ p0
    have x1 : W3.cell? ⟨w.heap.size + 1, 0, none⟩ = some (.int .i64 0) := by rw [← hW3]; exact cell_ob p1 (by omega)
    have y1 : W3.frozen? ⟨w.heap.size + 1, 0, none⟩ = false := by rw [← hW3]; simp [go_sem, g1]
    obtain ⟨W4, hW4⟩ : ∃ W4, W3.setCell ⟨w.heap.size + 1, 0, none⟩ (.int .i64 0) = W4 := ⟨_, rfl⟩
    have k0 : W4.cell? ⟨w.heap.size, 0, none⟩ = some (.pointer (some ⟨lb, 0, none⟩)) := by rw [← hW4]; exact cell_ob x0 (by omega)
    have k1 : W4.cell? ⟨w.heap.size + 1, 0, none⟩ = some (.int .i64 0) := by rw [← hW4]; exact World.cell?_setCell_same _ _ _ x1
    have T4 : Tn (fun q => q = w.heap.size ∨ q = w.heap.size + 1) w2 W4 := by rw [← hW4, ← hW3]; exact (Tn.setCell _ _ _ (.inl rfl)).trans (Tn.setCell _ _ _ (.inr rfl))
    have l4 : LsAt W4 lb (some mb) m last := HS.out.1.tn2 T4 (fun q hq hg => by
      have h9 := H1.out.2
      have hq2 : W1.heap.size ≤ q := by
        rcases hq with (e | e) | ⟨p, hp, off, e⟩
        · rw [e]; exact hlb
        · rw [← Option.some.inj e]; exact hmb
        · rcases HS.out.2.2.2.2.2.2.2 p hp with e2 | ⟨b, off2, e2, hf, _⟩
          · have h8 := HS.out.1.ok.vec p hp
            rw [e2] at h8
            cases h8
          · rw [e] at e2
            injection e2 with e2
            injection e2 with e2
            omega
      rcases hg with e | e <;> omega)
    have b4 : Below w.heap.size w W4 := H2.out.2.trans (T4.below (by have := H2.out.2.size; omega) (fun k hk => by rcases hk with e | e <;> omega))
    have H4 := Lib.hid (And.intro l4 b4)
    clear T4 l4 b4 hlb hmb
    go_wp2
    refine leaves_cons (f := 42) (args := #[.pointer (some ⟨w.heap.size, 0, none⟩), .pointer (some ⟨w.heap.size + 1, 0, none⟩)]) (by simp) (by simp [go_sem]) ?_
    refine (load_idle _ _ _).mono ?_
    rintro e u' w'' ⟨rfl, rfl, rfl⟩
    simp [Leaves, settle, results, Tryz.results21, go_sem, k0, k1]
    refine ⟨.inr ⟨lb, mb, m, last, rfl, H4.out.1, HS.out.2.1, HS.out.2.2.2.1, ?_, by have := HS.out.2.2.2.2.2.1; have := H1.out.2; omega, by have := HS.out.2.2.2.2.2.2.1; have := H1.out.2; omega, fun p hp => ?_⟩, H4.out.2⟩
    rotate_left
    · rcases HS.out.2.2.2.2.2.2.2 p hp with e | ⟨b, off, e, hf, _⟩
      · exact .inl e
      · rcases H4.out.1.rd p hp with e2 | ⟨b2, off2, e2, hf2, h3⟩
        · exact .inl e2
        · have e3 := e.symm.trans e2
          injection e3 with e3
          injection e3 with e3
          subst e3
          refine .inr ⟨b, off2, e2, ?_, h3⟩
          rintro (h | h)
          · have := H1.out.2
            exact hf (by show b < W1.heap.size; omega)
          · exact hf2 h
    rw [sortM_rise HS.out.2.2.1, List.map_map]
    exact HS.out.2.2.2.2.1

theorem nil_acquire (x : Value) (a : Option Addr) (n c : Nat) (hx : x = .slice a n c) (t u : Int) (w : World) : Calls Tryz.prog 7 #[.pointer none, x, .int .i64 t, .int .i64 u] w fun e w' => e = .returned (.tuple #[.int .i64 0, .int .i64 1]) ∧ w' = w := by
  subst hx
  go_enter Tryz.func7, Tryz.ntmps7
  go_wp2
  go_ret2
  exact ⟨rfl, rfl⟩
theorem nil_renew (i t u : Int) (w : World) : Calls Tryz.prog 10 #[.pointer none, .int .i64 i, .int .i64 t, .int .i64 u] w fun e w' => e = .returned (.int .i64 1) ∧ w' = w := by
  go_enter Tryz.func10, Tryz.ntmps10
  go_wp2
  go_ret
  exact ⟨rfl, rfl⟩
theorem nil_release (i t : Int) (w : World) : Calls Tryz.prog 12 #[.pointer none, .int .i64 i, .int .i64 t] w fun e w' => e = .returned (.int .i64 1) ∧ w' = w := by
  go_enter Tryz.func12, Tryz.ntmps12
  go_wp2
  go_ret
  exact ⟨rfl, rfl⟩
theorem nil_list (w : World) : Calls Tryz.prog 39 #[.pointer none] w fun e w' => e = .returned (.slice none 0 0) ∧ w' = w := by
  go_enter Tryz.func39, Tryz.ntmps39
  go_wp2
  go_ret
  exact ⟨rfl, rfl⟩
theorem nil_put (w : World) : Calls Tryz.prog 22 #[.pointer none] w fun e w' => e = .returned (.string ⟨#[]⟩) ∧ w' = w := by
  go_enter Tryz.func22, Tryz.ntmps22
  go_wp2
  go_ret
  exact ⟨rfl, rfl⟩
theorem nil_expire (t : Int) (w : World) : Calls Tryz.prog 14 #[.pointer none, .int .i64 t] w fun e w' => e = .returned (.slice none 0 0) ∧ w' = w := by
  have hL := nil_list
  go_enter Tryz.func14, Tryz.ntmps14
  go_wp2_with (go_at_call 39; refine (hL _).mono ?_; rintro e w1 ⟨rfl, rfl⟩)
  go_loopw [5, 7, 11] (fun v _ iv wr => v = .slice none 0 0 ∧ iv = .int .i64 0 ∧ wr = w1) (fun _ _ _ _ => 0)
  case atStart => exact ⟨rfl, rfl, rfl⟩
  case round =>
    obtain ⟨rfl, rfl, rfl⟩ := hrel
    go_wp2
    go_ret
    exact ⟨rfl, rfl⟩
theorem nil_meet (w : World) : Calls Tryz.prog 26 #[.pointer none] w fun e w' => e = .returned (.slice none 0 0) ∧ w' = w := by
  have hL := nil_list
  go_enter Tryz.func26, Tryz.ntmps26
  go_wp2_with (go_at_call 39; refine (hL _).mono ?_; rintro e w1 ⟨rfl, rfl⟩)
  go_loopw [3, 4, 5, 9] (fun v _ _ iv wr => v = .slice none 0 0 ∧ iv = .int .i64 0 ∧ wr = w1) (fun _ _ _ _ _ => 0)
  case atStart => exact ⟨rfl, rfl, rfl⟩
  case round =>
    obtain ⟨rfl, rfl, rfl⟩ := hrel
    go_wp2
    go_ret
    exact ⟨rfl, rfl⟩
theorem nil_get (i : Int) (w : World) : Calls Tryz.prog 18 #[.pointer none, .int .i64 i] w fun e w' => e = .returned (.tuple #[.agg #[.int .i64 0, .slice none 0 0, .int .i64 0], .int .i64 1]) ∧ Below w.heap.size w w' := by
  obtain ⟨W0, hW0⟩ : ∃ W0, w.alloc (.cells #[.int .i64 0, .slice none 0 0, .int .i64 0] 65) = W0 := ⟨_, rfl⟩
  have hb0 : Below w.heap.size w W0 := by rw [← hW0]; exact (Below.refl _ _).alloc (Nat.le_refl _) _
  have r0 : W0.cell? ⟨w.heap.size, 0, none⟩ = some (.int .i64 0) := by rw [← hW0]; simp [go_sem]
  have r1 : W0.cell? ⟨w.heap.size, 1, none⟩ = some (.slice none 0 0) := by rw [← hW0]; simp [go_sem]
  have r2 : W0.cell? ⟨w.heap.size, 2, none⟩ = some (.int .i64 0) := by rw [← hW0]; simp [go_sem]
  have rf : ∀ j, W0.frozen? ⟨w.heap.size, j, none⟩ = false := fun j => by rw [← hW0]; simp [go_sem]
  have HB := Lib.hid hb0
  clear hb0
  go_enter Tryz.func18, Tryz.ntmps18
  go_wp2_with fail
  obtain ⟨k0, k1, k2⟩ := set3 r0 r1 r2 rfl
  (try simp only [Exit.inBlock, Exit.then]); exact bodyPost_ret (results_cell2 rfl rfl (load_lease k0 k1 k2)) rfl ⟨rfl, below3 HB.out (Nat.le_refl _)⟩
end Go.Proofs.YtnegappgdpeabaaGreat
