/-
  MergeTells: its book, of the kinds Keys and Lists: what each list more makes of it.
-/
import Derived.Test.YtkeggcfnoonakaaGreatMtC
import Derived.Test.YtkeggcfnoonakaaGreatBkKeysB
import Derived.Test.YtkeggcfnoonakaaGreatBlistsB
import Derived.Test.YtkeggcfnoonakaaGreatApartKL
set_option linter.unusedSimpArgs false
set_option linter.unusedVariables false
namespace Go.Proofs.YtkeggcfnoonakaaGreat
open Go.RowKit

/-- What the book holds: two kinds, each what was kept and the copies. -/
structure BB where
  v0 : Value
  u0 : Value
  S0 : List (Sl × List KV)
  T0 : List (Sl × List KV)
  v1 : Value
  u1 : Value
  S1 : List (Sl × List LK)
  T1 : List (Sl × List LK)
/-- The blocks of which the book's slices are. -/
def BB.out (b : BB) (bk q : Nat) : Prop := q = bk ∨ b.v0.ownBlock = some q ∨ b.u0.ownBlock = some q ∨ b.v1.ownBlock = some q ∨ b.u1.ownBlock = some q
/-- All its blocks but its own. -/
def BB.foot (b : BB) (q : Nat) : Prop := footL b.v0 b.S0 q ∨ footL b.u0 b.T0 q ∨ footL b.v1 b.S1 q ∨ footL b.u1 b.T1 q
theorem BB.out_foot {b : BB} {bk q : Nat} (h : b.out bk q) : q = bk ∨ b.foot q := by
  rcases h with h | h | h | h | h
  · exact .inl h
  · exact .inr (.inl (.inl h))
  · exact .inr (.inr (.inl (.inl h)))
  · exact .inr (.inr (.inr (.inl (.inl h))))
  · exact .inr (.inr (.inr (.inr (.inl h))))
structure BkSt (w : World) (bk B : Nat) (b : BB) : Prop where
  n : ApN bk w
  k0 : Kd eKV eSl w bk 6 B b.v0 b.u0 b.S0 b.T0
  k1 : KdL kLists kListsS w bk 28 B b.v1 b.u1 b.S1 b.T1
  d : ∀ q, footL b.v0 b.S0 q ∨ footL b.u0 b.T0 q → ¬ (footL b.v1 b.S1 q ∨ footL b.u1 b.T1 q)
  r1 : ∀ i (hi : i < b.S1.length), ∀ x ∈ b.S1[i].2, InK (b.out bk) w x ∧ x.2.length ≤ 50000
  t1 : ∀ i (hi : i < b.T1.length), ∀ x ∈ b.T1[i].2, InK (b.out bk) w x
  n0 : b.S0.length ≤ 250
  l0 : ∀ i (hi : i < b.S0.length), b.S0[i].2.length ≤ 50000
  l1 : ∀ i (hi : i < b.S1.length), b.S1[i].2.length ≤ 50000
  bB : bk < B
  Bw : B ≤ w.heap.size
theorem InK.lt {F : Nat → Prop} {w : World} {x : LK} (h : InK F w x) : ∀ q, x.1.val.ownBlock = some q → q < w.heap.size := fun q hq => by
  obtain ⟨B, ho, _⟩ := h
  exact (ho.lt q hq).2
theorem InK.imp {F F' : Nat → Prop} {w : World} {x : LK} (h : InK F w x) (hF : ∀ q, q < w.heap.size → F' q → F q) : InK F' w x := by
  have hlt := h.lt
  obtain ⟨B, ho, hn⟩ := h
  exact ⟨B, ho, fun q hq h1 => hn q hq (hF q (hlt q hq) h1)⟩
theorem BkSt.lt {w : World} {bk B : Nat} {b : BB} (h : BkSt w bk B b) {q : Nat} (hq : b.foot q) : B ≤ q ∧ q < w.heap.size := by
  rcases hq with hq | hq | hq | hq
  · exact h.k0.l.lt hq
  · exact h.k0.lw.lt hq
  · exact h.k1.l.lt hq
  · exact h.k1.lw.lt hq
theorem BkSt.tn {w w' : World} {bk B : Nat} {b : BB} (h : BkSt w bk B b) {G : Nat → Prop} (ht : Tn G w w') (hb : ¬ G bk) (hG : ∀ q, b.foot q → ¬ G q) (hI : ∀ i (hi : i < b.S1.length), ∀ x ∈ b.S1[i].2, ∀ q, x.1.val.ownBlock = some q → ¬ G q) (hI2 : ∀ i (hi : i < b.T1.length), ∀ x ∈ b.T1[i].2, ∀ q, x.1.val.ownBlock = some q → ¬ G q) : BkSt w' bk B b :=
  ⟨fun o h0 h1 h2 h3 h4 => ht.cell (h.n o h0 h1 h2 h3 h4) hb,
   h.k0.tn ht hb (fun q hq => hG q (hq.elim .inl (fun h => .inr (.inl h)))),
   h.k1.tn ht hb (fun q hq => hG q (hq.elim (fun h => .inr (.inr (.inl h))) (fun h => .inr (.inr (.inr h))))),
   h.d,
   fun i hi x hx => by
     obtain ⟨⟨B2, ho, hn⟩, h2⟩ := h.r1 i hi x hx
     exact ⟨⟨B2, ht.row ho (hI i hi x hx), hn⟩, h2⟩,
   fun i hi x hx => by
     obtain ⟨B2, ho, hn⟩ := h.t1 i hi x hx
     exact ⟨B2, ht.row ho (hI2 i hi x hx), hn⟩,
   h.n0, h.l0, h.l1, h.bB, Nat.le_trans h.Bw ht.size⟩
theorem BkSt.below {w w' : World} {bk B : Nat} {b : BB} (h : BkSt w bk B b) (hb : Below w.heap.size w w') : BkSt w' bk B b :=
  h.tn (Tn.ofBelow (F := fun _ => False) hb) (fun e => e) (fun _ _ e => e) (fun _ _ _ _ _ _ e => e) (fun _ _ _ _ _ _ e => e)
/-- What one list more makes of the book. -/
structure Grew (w w' : World) (bk B : Nat) (b b' : BB) (s : Sl) : Prop where
  st : BkSt w' bk B b'
  tn : Tn (b.out bk) w w'
  outs : ∀ q, b'.out bk q → b.out bk q ∨ w.heap.size ≤ q
  foot : ∀ q, b'.foot q → b.foot q ∨ s.val.ownBlock = some q ∨ w.heap.size ≤ q
theorem Grew.same {w : World} {bk B : Nat} {b : BB} (h : BkSt w bk B b) (s : Sl) : Grew w w bk B b b s :=
  ⟨h, Tn.refl _ _, fun _ h => .inl h, fun _ h => .inl h⟩
theorem keys_book {w : World} {bk B : Nat} {b : BB} (h : BkSt w bk B b) {s : Sl} {l : List KV} (hs : Own eKV w B s.val l) (hne : ∀ q, s.val.ownBlock = some q → ¬ b.foot q) (hl : l.length ≤ 50000) :
    Calls Tryz.prog 17 #[.pointer (some ⟨bk, 0, none⟩), s.val] w fun e w' => e = .returned (.tuple #[]) ∧ ∃ b', Grew w w' bk B b b' s ∧ b'.S1.length = b.S1.length := by
  by_cases hS : b.S0.length < 250
  · refine (add_Keys h.k0 hs (fun q hq => ⟨fun hf => hne q hq (.inl hf), fun hf => hne q hq (.inr (.inl hf))⟩) hS h.Bw (by omega)).mono ?_
    rintro e w' ⟨rfl, vo', vw', s2, ha⟩
    refine ⟨rfl, ⟨vo', vw', b.S0 ++ [(s, l)], b.T0 ++ [(s2, l)], b.v1, b.u1, b.S1, b.T1⟩, ?_, rfl⟩
    have htn : Tn (b.out bk) w w' := ha.tnO.mono (fun q hq => hq.elim .inl (fun h => h.elim (fun h => .inr (.inl h)) (fun h => .inr (.inr (.inl h)))))
    have houts : ∀ q, BB.out ⟨vo', vw', b.S0 ++ [(s, l)], b.T0 ++ [(s2, l)], b.v1, b.u1, b.S1, b.T1⟩ bk q → b.out bk q ∨ w.heap.size ≤ q := by
      intro q hq
      rcases hq with hq | hq | hq | hq
      · exact .inl (.inl hq)
      · exact (ha.outO q hq).imp (fun h => .inr (.inl h)) id
      · exact (ha.outW q hq).imp (fun h => .inr (.inr (.inl h))) id
      · exact .inl (.inr (.inr (.inr hq)))
    have hf1 : ∀ q, (footL b.v1 b.S1 q ∨ footL b.u1 b.T1 q) → ¬ (q = bk ∨ footL b.v0 b.S0 q ∨ footL b.u0 b.T0 q) := by
      intro q hq h2
      rcases h2 with h2 | h2
      · have : B ≤ q := hq.elim (fun h3 => (h.k1.l.lt h3).1) (fun h3 => (h.k1.lw.lt h3).1)
        have := h.bB
        omega
      · exact h.d q h2 hq
    have hnew : ∀ q, footL vo' (b.S0 ++ [(s, l)]) q ∨ footL vw' (b.T0 ++ [(s2, l)]) q → ¬ (footL b.v1 b.S1 q ∨ footL b.u1 b.T1 q) := by
      intro q hq h2
      rcases ha.foot q hq with h3 | h3 | h3 | h3
      · exact h.d q (.inl h3) h2
      · exact h.d q (.inr h3) h2
      · exact hne q h3 (.inr (.inr h2))
      · have := (h.lt (.inr (.inr h2) : b.foot q)).2
        omega
    have hin : ∀ x, InK (b.out bk) w x → InK (BB.out ⟨vo', vw', b.S0 ++ [(s, l)], b.T0 ++ [(s2, l)], b.v1, b.u1, b.S1, b.T1⟩ bk) w' x := by
      intro x hx
      have hx2 : InK (BB.out ⟨vo', vw', b.S0 ++ [(s, l)], b.T0 ++ [(s2, l)], b.v1, b.u1, b.S1, b.T1⟩ bk) w x := hx.imp (fun q hq h1 => (houts q h1).elim id (fun h2 => by omega))
      obtain ⟨B2, ho, hn⟩ := hx
      obtain ⟨B3, ho3, hn3⟩ := hx2
      exact ⟨B2, htn.row ho hn, hn3⟩
    refine ⟨⟨fun o h0 h1 h2 h3 h4 => (ha.other o h1 h2).trans (h.n o h0 h1 h2 h3 h4), ha.kd, ?_, hnew, fun i hi x hx => ⟨hin x (h.r1 i hi x hx).1, (h.r1 i hi x hx).2⟩, fun i hi x hx => hin x (h.t1 i hi x hx), by show (b.S0 ++ [(s, l)]).length ≤ 250; rw [List.length_append, List.length_singleton]; omega, fun i hi => ?_, h.l1, h.bB, Nat.le_trans h.Bw ha.tn.size⟩, htn, houts, fun q hq => ?_⟩
    · exact ⟨(ha.other 28 (by decide) (by decide)).trans h.k1.c0, (ha.other 29 (by decide) (by decide)).trans h.k1.c1, h.k1.l.tn ha.tn (fun q hq => hf1 q (.inl hq)), h.k1.lw.tn ha.tn (fun q hq => hf1 q (.inr hq)), h.k1.same, h.k1.apart, h.k1.bk0, ha.kd.free⟩
    · have hi2 : i < (b.S0 ++ [(s, l)]).length := hi
      show ((b.S0 ++ [(s, l)])[i]'hi2).2.length ≤ 50000
      rcases Nat.lt_or_ge i b.S0.length with h1 | h1
      · rw [List.getElem_append_left h1]
        exact h.l0 i h1
      · rw [List.getElem_append_right h1]
        simpa using hl
    · rcases hq with hq | hq | hq
      · rcases ha.foot q (.inl hq) with h3 | h3 | h3 | h3
        · exact .inl (.inl h3)
        · exact .inl (.inr (.inl h3))
        · exact .inr (.inl h3)
        · exact .inr (.inr h3)
      · rcases ha.foot q (.inr hq) with h3 | h3 | h3 | h3
        · exact .inl (.inl h3)
        · exact .inl (.inr (.inl h3))
        · exact .inr (.inl h3)
        · exact .inr (.inr h3)
      · exact .inl (.inr (.inr hq))
  · obtain ⟨ao, co, hv⟩ := h.k0.l.form
    have c0 := h.k0.c0
    rw [hv] at c0
    refine (full_Keys c0 (by omega) s.val).mono ?_
    rintro e w' ⟨rfl, rfl⟩
    exact ⟨rfl, b, Grew.same h s, rfl⟩
theorem lists_book {w : World} {bk B : Nat} {b : BB} (h : BkSt w bk B b) {s : Sl} {l : List LK} (hs : Own kLists w B s.val l) (hne : ∀ q, s.val.ownBlock = some q → ¬ b.foot q) (hl : l.length ≤ 50000) (hl1 : ∀ x ∈ l, x.2.length ≤ 50000) (hin : ∀ x ∈ l, InK (b.out bk) w x) (hS : b.S1.length < 250) :
    Calls Tryz.prog 18 #[.pointer (some ⟨bk, 0, none⟩), s.val] w fun e w' => e = .returned (.tuple #[]) ∧ ∃ b', Grew w w' bk B b b' s ∧ b'.S1.length = b.S1.length + 1 := by
  refine (add_Lists h.k1 hs (fun q hq => ⟨fun hf => hne q hq (.inr (.inr (.inl hf))), fun hf => hne q hq (.inr (.inr (.inr hf)))⟩) hS h.Bw (by omega) (fun x hx => (hin x hx).imp (fun q _ h1 => h1.elim .inl (fun h2 => .inr (.inr (.inr (.inl h2)))))) (fun x hx => by have := hl1 x hx; omega)).mono ?_
  rintro e w' ⟨rfl, vo', vw', s2, l2, ha, hl2⟩
  refine ⟨rfl, ⟨b.v0, b.u0, b.S0, b.T0, vo', vw', b.S1 ++ [(s, l)], b.T1 ++ [(s2, l2)]⟩, ?_, by show (b.S1 ++ [(s, l)]).length = _; rw [List.length_append, List.length_singleton]⟩
  have htn : Tn (b.out bk) w w' := ha.tnO.mono (fun q hq => hq.elim .inl (fun h => .inr (.inr (.inr h))))
  have houts : ∀ q, BB.out ⟨b.v0, b.u0, b.S0, b.T0, vo', vw', b.S1 ++ [(s, l)], b.T1 ++ [(s2, l2)]⟩ bk q → b.out bk q ∨ w.heap.size ≤ q := by
    intro q hq
    rcases hq with hq | hq | hq | hq | hq
    · exact .inl (.inl hq)
    · exact .inl (.inr (.inl hq))
    · exact .inl (.inr (.inr (.inl hq)))
    · exact (ha.outO q hq).imp (fun h => .inr (.inr (.inr (.inl h)))) id
    · exact (ha.outW q hq).imp (fun h => .inr (.inr (.inr (.inr h)))) id
  have hf1 : ∀ q, (footL b.v0 b.S0 q ∨ footL b.u0 b.T0 q) → ¬ (q = bk ∨ footL b.v1 b.S1 q ∨ footL b.u1 b.T1 q) := by
    intro q hq h2
    rcases h2 with h2 | h2
    · have : B ≤ q := hq.elim (fun h3 => (h.k0.l.lt h3).1) (fun h3 => (h.k0.lw.lt h3).1)
      have := h.bB
      omega
    · exact h.d q hq h2
  have hnew : ∀ q, footL b.v0 b.S0 q ∨ footL b.u0 b.T0 q → ¬ (footL vo' (b.S1 ++ [(s, l)]) q ∨ footL vw' (b.T1 ++ [(s2, l2)]) q) := by
    intro q hq h2
    rcases ha.foot q h2 with h3 | h3 | h3 | h3
    · exact h.d q hq (.inl h3)
    · exact h.d q hq (.inr h3)
    · exact hne q h3 (hq.elim .inl (fun h4 => .inr (.inl h4)))
    · have : q < w.heap.size := hq.elim (fun h4 => (h.k0.l.lt h4).2) (fun h4 => (h.k0.lw.lt h4).2)
      omega
  have hin2 : ∀ x, InK (b.out bk) w x → InK (BB.out ⟨b.v0, b.u0, b.S0, b.T0, vo', vw', b.S1 ++ [(s, l)], b.T1 ++ [(s2, l2)]⟩ bk) w' x := by
    intro x hx
    have hx2 : InK (BB.out ⟨b.v0, b.u0, b.S0, b.T0, vo', vw', b.S1 ++ [(s, l)], b.T1 ++ [(s2, l2)]⟩ bk) w x := hx.imp (fun q hq h1 => (houts q h1).elim id (fun h2 => by omega))
    obtain ⟨B2, ho, hn⟩ := hx
    obtain ⟨B3, ho3, hn3⟩ := hx2
    exact ⟨B2, htn.row ho hn, hn3⟩
  refine ⟨⟨fun o h0 h1 h2 h3 h4 => (ha.other o h3 h4).trans (h.n o h0 h1 h2 h3 h4), ?_, ha.kd, hnew, fun i hi x hx => ?_, fun i hi x hx => ?_, h.n0, h.l0, fun i hi => ?_, h.bB, Nat.le_trans h.Bw ha.tn.size⟩, htn, houts, fun q hq => ?_⟩
  · exact ⟨(ha.other 6 (by decide) (by decide)).trans h.k0.c0, (ha.other 7 (by decide) (by decide)).trans h.k0.c1, h.k0.l.tn ha.tn (fun q hq => hf1 q (.inl hq)), h.k0.lw.tn ha.tn (fun q hq => hf1 q (.inr hq)), h.k0.same, h.k0.apart, h.k0.bk0, ha.kd.free⟩
  · have hi2 : i < (b.S1 ++ [(s, l)]).length := hi
    have hx2 : x ∈ ((b.S1 ++ [(s, l)])[i]'hi2).2 := hx
    rcases Nat.lt_or_ge i b.S1.length with h1 | h1
    · rw [List.getElem_append_left h1] at hx2
      exact ⟨hin2 x (h.r1 i h1 x hx2).1, (h.r1 i h1 x hx2).2⟩
    · rw [List.getElem_append_right h1] at hx2
      have hx3 : x ∈ l := by simpa using hx2
      exact ⟨hin2 x (hin x hx3), hl1 x hx3⟩
  · have hi2 : i < (b.T1 ++ [(s2, l2)]).length := hi
    have hx2 : x ∈ ((b.T1 ++ [(s2, l2)])[i]'hi2).2 := hx
    rcases Nat.lt_or_ge i b.T1.length with h1 | h1
    · rw [List.getElem_append_left h1] at hx2
      exact hin2 x (h.t1 i h1 x hx2)
    · rw [List.getElem_append_right h1] at hx2
      have hx3 : x ∈ l2 := by simpa using hx2
      refine ⟨_, (hl2 x hx3).1, fun q hq h9 => ?_⟩
      have h4 := ((hl2 x hx3).1.lt q hq).1
      have h5 := (hl2 x hx3).2 q hq
      have h6 : ∀ q, b.foot q → q < w.heap.size := fun q hq => (h.lt hq).2
      rcases h9 with h9 | h9 | h9 | h9 | h9
      · have := h.bB
        have := h.Bw
        omega
      · have := h6 q (.inl (.inl h9))
        omega
      · have := h6 q (.inr (.inl (.inl h9)))
        omega
      · exact h5.1 h9
      · exact h5.2 h9
  · have hi2 : i < (b.S1 ++ [(s, l)]).length := hi
    show ((b.S1 ++ [(s, l)])[i]'hi2).2.length ≤ 50000
    rcases Nat.lt_or_ge i b.S1.length with h1 | h1
    · rw [List.getElem_append_left h1]
      exact h.l1 i h1
    · rw [List.getElem_append_right h1]
      simpa using hl
  · rcases hq with hq | hq | hq
    · exact .inl (.inl hq)
    · exact .inl (.inr (.inl hq))
    · rcases ha.foot q hq with h3 | h3 | h3 | h3
      · exact .inl (.inr (.inr (.inl h3)))
      · exact .inl (.inr (.inr (.inr h3)))
      · exact .inr (.inl h3)
      · exact .inr (.inr h3)
end Go.Proofs.YtkeggcfnoonakaaGreat
