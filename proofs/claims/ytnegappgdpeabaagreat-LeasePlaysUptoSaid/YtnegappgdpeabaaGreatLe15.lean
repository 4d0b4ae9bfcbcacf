import Derived.Test.YtnegappgdpeabaaGreatLe14
set_option linter.unusedSimpArgs false
set_option linter.unusedVariables false
/-
  LeasePlays: the program's leases, the document's, and the book, apart (colours).
-/
namespace Go.Proofs.YtnegappgdpeabaaGreat
open Go.RowKit
variable {F G H : Nat → Prop} {w w' w0 : World} {lb rb bk : Nat} {ob : Option Nat} {m : Lm} {last lr : Int} {L : List Cr} {lv : Value} {M : List Lv}

/-- At rest: nobody turns it till the book is looked at. -/
def Rest (n : Nat) : Prop := n = 7 ∨ 20 ≤ n
/-- Blocks that may turn. -/
def Fc (c : Nat → Nat) (w : World) (q : Nat) : Prop := q < w.heap.size ∧ ¬ Rest (c q)
def recol (c : Nat → Nat) (w : World) (f : Nat → Nat) (q : Nat) : Nat := if q < w.heap.size then c q else f q
variable {c c' f : Nat → Nat} {k : Nat}
theorem recol_old {q : Nat} (h : q < w.heap.size) : recol c w f q = c q := if_pos h
theorem recol_new {q : Nat} (h : w.heap.size ≤ q) : recol c w f q = f q := if_neg (by omega)
/-- Turned colours: old blocks keep theirs, but for those that were the law's own (0) and are at rest now. -/
def Keeps (c c' : Nat → Nat) (w : World) : Prop := ∀ q, q < w.heap.size → c' q = c q ∨ (c q = 0 ∧ Rest (c' q))
theorem Keeps.one (h : Keeps c c' w) {q : Nat} (hq : q < w.heap.size) (hk : c q = k) (h0 : k ≠ 0) : c' q = k := by
  rcases h q hq with e | ⟨e1, _⟩
  · rw [e, hk]
  · omega
theorem Keeps.rest (h : Keeps c c' w) {q : Nat} (hq : q < w.heap.size) (hr : Rest (c q)) : Rest (c' q) := by
  rcases h q hq with e | ⟨_, e2⟩
  · rw [e]; exact hr
  · exact e2
theorem Keeps.fc (h : Keeps c c' w) {q : Nat} (hq : q < w.heap.size) (hf : Fc c' w' q) : Fc c w q := ⟨hq, fun hr => hf.2 (h.rest hq hr)⟩
theorem keeps_recol (c : Nat → Nat) (w : World) (f : Nat → Nat) : Keeps c (recol c w f) w := fun _ hq => .inl (recol_old hq)
theorem rdX_turn {x : Lv} (h : RdX (Fc c w) w x) (ht : Tn G w w') (hk : Keeps c c' w) (hG : ∀ q, q < w.heap.size → G q → ¬ Rest (c q)) : RdX (Fc c' w') w' x := by
  refine h.imp id ?_
  rintro ⟨b, off, ha, hf, hlt, hc⟩
  exact ⟨b, off, ha, fun e => hf (hk.fc hlt e), Nat.lt_of_lt_of_le hlt ht.size, fun i hi => ht.cell (hc i hi) (fun hg => hf ⟨hlt, hG b hlt hg⟩)⟩

/-- The lists of the book. -/
structure BkS where
  v0 : Value
  u0 : Value
  S0 : List (Sl × List Int)
  T0 : List (Sl × List Int)
  v1 : Value
  u1 : Value
  S1 : List (Sl × List Int)
  T1 : List (Sl × List Int)
  v2 : Value
  u2 : Value
  S2 : List (Sl × List Lv)
  T2 : List (Sl × List Lv)
def Inn {α : Type} (S : List (Sl × List α)) (q : Nat) : Prop := ∃ i, ∃ hi : i < S.length, S[i].1.val.ownBlock = some q
/-- Colours of a kind: the outer slices', the inner ones'. -/
structure Cols {α : Type} (c : Nat → Nat) (o i : Nat) (v u : Value) (S T : List (Sl × List α)) : Prop where
  ov : ∀ q, v.ownBlock = some q → c q = o
  ou : ∀ q, u.ownBlock = some q → c q = o
  iv : ∀ q, Inn S q → c q = i
  iu : ∀ q, Inn T q → c q = i
theorem Cols.foot {α : Type} {o i : Nat} {v u : Value} {S T : List (Sl × List α)} (h : Cols c o i v u S T) {q : Nat} (hq : footL v S q ∨ footL u T q) : c q = o ∨ c q = i := by
  rcases hq with (hq | hq) | (hq | hq)
  · exact .inl (h.ov q hq)
  · exact .inr (h.iv q hq)
  · exact .inl (h.ou q hq)
  · exact .inr (h.iu q hq)
theorem Cols.keep {α : Type} {o i : Nat} {v u : Value} {S T : List (Sl × List α)} (h : Cols c o i v u S T) (hk : Keeps c c' w) (ho : o ≠ 0) (hi : i ≠ 0) (hlt : ∀ q, footL v S q ∨ footL u T q → q < w.heap.size) : Cols c' o i v u S T :=
  ⟨fun q hq => hk.one (hlt q (.inl (.inl hq))) (h.ov q hq) ho, fun q hq => hk.one (hlt q (.inr (.inl hq))) (h.ou q hq) ho, fun q hq => hk.one (hlt q (.inl (.inr hq))) (h.iv q hq) hi, fun q hq => hk.one (hlt q (.inr (.inr hq))) (h.iu q hq) hi⟩
structure BkAt (c : Nat → Nat) (w : World) (bk : Nat) (b : BkS) : Prop where
  k0 : Kd kInts kIntsS w bk 2 (bk + 1) b.v0 b.u0 b.S0 b.T0
  k1 : Kd kVecs kVecsS w bk 4 (bk + 1) b.v1 b.u1 b.S1 b.T1
  k2 : KdL kLeases kLeasesS w bk 20 (bk + 1) b.v2 b.u2 b.S2 b.T2
  an : ApN bk w
  cb : c bk = 5
  q0 : Cols c 10 20 b.v0 b.u0 b.S0 b.T0
  q1 : Cols c 11 21 b.v1 b.u1 b.S1 b.T1
  q2 : Cols c 12 22 b.v2 b.u2 b.S2 b.T2
  rd : ∀ p, p ∈ b.S2 ∨ p ∈ b.T2 → ∀ x ∈ p.2, RdX (Fc c w) w x ∧ x.vs.length ≤ 1000000
  n0 : b.S0.length ≤ 250
  n1 : b.S1.length ≤ 250
  n2 : b.S2.length ≤ 250
  l0 : ∀ i (hi : i < b.S0.length), b.S0[i].2.length ≤ 50000
  l1 : ∀ i (hi : i < b.S1.length), b.S1[i].2.length ≤ 50000
  l2 : ∀ i (hi : i < b.S2.length), b.S2[i].2.length ≤ 50000
variable {b : BkS}
theorem BkAt.lt0 (h : BkAt c w bk b) : ∀ q, footL b.v0 b.S0 q ∨ footL b.u0 b.T0 q → q < w.heap.size := fun _ hq => hq.elim (fun h1 => (h.k0.l.lt h1).2) (fun h1 => (h.k0.lw.lt h1).2)
theorem BkAt.lt1 (h : BkAt c w bk b) : ∀ q, footL b.v1 b.S1 q ∨ footL b.u1 b.T1 q → q < w.heap.size := fun _ hq => hq.elim (fun h1 => (h.k1.l.lt h1).2) (fun h1 => (h.k1.lw.lt h1).2)
theorem BkAt.lt2 (h : BkAt c w bk b) : ∀ q, footL b.v2 b.S2 q ∨ footL b.u2 b.T2 q → q < w.heap.size := fun _ hq => hq.elim (fun h1 => (h.k2.l.lt h1).2) (fun h1 => (h.k2.lw.lt h1).2)
theorem BkAt.ltb (h : BkAt c w bk b) : bk < w.heap.size := World.block_lt_of_cell? w _ h.k0.c0
/-- Blocks that are not the book's. -/
def Out (n : Nat) : Prop := n = 0 ∨ n = 1 ∨ n = 2 ∨ n = 9
theorem Out.rest {n : Nat} (h : Out n) : ¬ Rest n := by
  unfold Rest
  rcases h with h | h | h | h <;> omega
theorem BkAt.turn (h : BkAt c w bk b) (ht : Tn G w w') (hk : Keeps c c' w) (hG : ∀ q, q < w.heap.size → G q → Out (c q)) : BkAt c' w' bk b := by
  have hb : ¬ G bk := fun hg => by
    have := hG bk h.ltb hg
    rw [h.cb] at this
    rcases this with e | e | e | e <;> cases e
  have hn : ∀ {α : Type} {o i : Nat} {v u : Value} {S T : List (Sl × List α)} (hc : Cols c o i v u S T), (10 ≤ o) → (10 ≤ i) → (∀ q, footL v S q ∨ footL u T q → q < w.heap.size) → ∀ q, footL v S q ∨ footL u T q → ¬ G q := fun hc ho hi hlt q hq hg => by
    have h1 := hG q (hlt q hq) hg
    have h2 := hc.foot hq
    rcases h1 with e | e | e | e <;> rcases h2 with e2 | e2 <;> omega
  exact ⟨h.k0.tn ht hb (hn h.q0 (by decide) (by decide) h.lt0), h.k1.tn ht hb (hn h.q1 (by decide) (by decide) h.lt1), h.k2.tn ht hb (hn h.q2 (by decide) (by decide) h.lt2), fun o h1 h2 h3 h4 h5 h6 h7 => ht.cell (h.an o h1 h2 h3 h4 h5 h6 h7) hb, hk.one h.ltb h.cb (by decide), h.q0.keep hk (by decide) (by decide) h.lt0, h.q1.keep hk (by decide) (by decide) h.lt1, h.q2.keep hk (by decide) (by decide) h.lt2,
    fun p hp x hx => ⟨rdX_turn (h.rd p hp x hx).1 ht hk (fun q hq hg => (hG q hq hg).rest), (h.rd p hp x hx).2⟩, h.n0, h.n1, h.n2, h.l0, h.l1, h.l2⟩

structure PIn (w0 w : World) (c : Nat → Nat) (lb : Nat) (ob : Option Nat) (m : Lm) (last : Int) (L : List Cr) (rb : Nat) (lv : Value) (M : List Lv) (lr : Int) (bk : Nat) (b : BkS) : Prop where
  p : PlAt (Fc c w) w lb ob m last L
  r : RlAt (Fc c w) w rb lv M lr
  cp : ∀ q, foot lb ob q → c q = 1
  cr : c rb = 2
  b : BkAt c w bk b
  c9 : ∀ q, q < w0.heap.size → c q = 9
  bel : Below w0.heap.size w0 w
theorem PlAt.flt (h : PlAt F w lb ob m last L) : ∀ q, foot lb ob q → q < w.heap.size := by
  rintro q (rfl | e)
  · exact h.a.ltd
  · exact h.a.mp.lt e
theorem fc_up (hs : w.heap.size ≤ w'.heap.size) {q : Nat} (hq : q < w.heap.size) (hk : c' q = c q) (hf : Fc c w q) : Fc c' w' q := ⟨Nat.lt_of_lt_of_le hq hs, by rw [hk]; exact hf.2⟩
theorem PIn.base (h : PIn w0 w c lb ob m last L rb lv M lr bk b) {q : Nat} (hq : c q ≠ 9) : w0.heap.size ≤ q := Nat.le_of_not_lt (fun e => hq (h.c9 q e))
theorem PIn.c9' (h : PIn w0 w c lb ob m last L rb lv M lr bk b) (hk : Keeps c c' w) : ∀ q, q < w0.heap.size → c' q = 9 := fun q hq => hk.one (Nat.lt_of_lt_of_le hq h.bel.size) (h.c9 q hq) (by decide)
theorem PIn.bel' (h : PIn w0 w c lb ob m last L rb lv M lr bk b) (ht : Tn G w w') (hG : ∀ q, G q → c q ≠ 9) : Below w0.heap.size w0 w' := h.bel.trans (ht.below h.bel.size (fun q hq => h.base (hG q hq)))
theorem PIn.cp' (h : PIn w0 w c lb ob m last L rb lv M lr bk b) (hk : Keeps c c' w) : ∀ q, foot lb ob q → c' q = 1 := fun q hq => hk.one (h.p.flt q hq) (h.cp q hq) (by decide)
theorem PIn.cr' (h : PIn w0 w c lb ob m last L rb lv M lr bk b) (hk : Keeps c c' w) : c' rb = 2 := hk.one h.r.ltb h.cr (by decide)
theorem not_rest {n : Nat} (h : n = 1 ∨ n = 2 ∨ n = 0 ∨ n = 9) : ¬ Rest n := by unfold Rest; rcases h with h | h | h | h <;> omega
/-- The document's part stays. -/
theorem PIn.rturn (h : PIn w0 w c lb ob m last L rb lv M lr bk b) (ht : Tn G w w') (hk : Keeps c c' w) (hG : ∀ q, q < w.heap.size → G q → ¬ Rest (c q) ∧ c q ≠ 2) : RlAt (Fc c' w') w' rb lv M lr :=
  h.r.turn ht (fun q hq hg => ⟨⟨hq, (hG q hq hg).1⟩, fun e => (hG q hq hg).2 (e ▸ h.cr)⟩) (fun q hq hf => hk.fc hq hf) ⟨Nat.lt_of_lt_of_le h.r.ltb ht.size, by rw [h.cr' hk]; exact not_rest (.inr (.inl rfl))⟩
/-- The program's part stays. -/
theorem PIn.pturn (h : PIn w0 w c lb ob m last L rb lv M lr bk b) (ht : Tn G w w') (hk : Keeps c c' w) (hG : ∀ q, q < w.heap.size → G q → ¬ Rest (c q) ∧ c q ≠ 1) : PlAt (Fc c' w') w' lb ob m last L := by
  have h1 : LsAt w' lb ob m last := by
    refine h.p.a.tn2 ht (fun q hq hg => ?_)
    rcases hq with hq | ⟨p, hp, off, e⟩
    · exact (hG q (h.p.flt q hq) hg).2 (h.cp q hq)
    · rcases h.p.rd p hp with e2 | ⟨b, off2, e2, hf, hlt, _⟩
      · have := h.p.a.ok.vec p hp
        rw [e2] at this
        cases this
      · rw [e] at e2
        injection e2 with e2
        injection e2 with e2
        subst e2
        exact hf ⟨hlt, (hG _ hlt hg).1⟩
  exact ⟨h1, fun p hp => rdX_turn (h.p.rd p hp) ht hk (fun q hq hg => (hG q hq hg).1), fun q hq => ⟨Nat.lt_of_lt_of_le (h.p.flt q hq) ht.size, by rw [h.cp' hk q hq]; exact not_rest (.inl rfl)⟩, h.p.sm, h.p.fit⟩
theorem PIn.turn (h : PIn w0 w c lb ob m last L rb lv M lr bk b) (ht : Tn G w w') (hk : Keeps c c' w) (hG : ∀ q, G q → c q = 0) : PIn w0 w' c' lb ob m last L rb lv M lr bk b :=
  ⟨h.pturn ht hk (fun q _ hg => by rw [hG q hg]; exact ⟨not_rest (.inr (.inr (.inl rfl))), by decide⟩), h.rturn ht hk (fun q _ hg => by rw [hG q hg]; exact ⟨not_rest (.inr (.inr (.inl rfl))), by decide⟩), h.cp' hk, h.cr' hk, h.b.turn ht hk (fun q _ hg => .inl (hG q hg)), h.c9' hk, h.bel' ht (fun q hg => by rw [hG q hg]; decide)⟩
/-- A call of the program's that leaves the leases where they are. -/
theorem PIn.pstep (h : PIn w0 w c lb ob m last L rb lv M lr bk b) {m' : Lm} {L' : List Cr} (hp : PlAt (fun q => Fc c w q ∨ w.heap.size ≤ q) w' lb ob m' last L') (ht : Tn (foot lb ob) w w') (f : Nat → Nat) : PIn w0 w' (recol c w f) lb ob m' last L' rb lv M lr bk b := by
  have hk := keeps_recol c w f
  have hG : ∀ q, q < w.heap.size → foot lb ob q → ¬ Rest (c q) ∧ c q ≠ 2 := fun q _ hg => by rw [h.cp q hg]; exact ⟨not_rest (.inl rfl), by decide⟩
  refine ⟨hp.re (fun q hq hf => ?_) (fun q hq => ?_), h.rturn ht hk hG, h.cp' hk, h.cr' hk, h.b.turn ht hk (fun q _ hg => .inr (.inl (h.cp q hg))), h.c9' hk, h.bel' ht (fun q hg => by rw [h.cp q hg]; decide)⟩
  · by_cases hq2 : q < w.heap.size
    · exact .inl (hk.fc hq2 hf)
    · exact .inr (by omega)
  · exact ⟨Nat.lt_of_lt_of_le (h.p.flt q hq) ht.size, by rw [h.cp' hk q hq]; exact not_rest (.inl rfl)⟩
/-- A call of the document's. -/
theorem PIn.rstep (h : PIn w0 w c lb ob m last L rb lv M lr bk b) {lv' : Value} {M' : List Lv} {lr' : Int} (hr : RlAt (Fc c w) w' rb lv' M' lr') (ht : Tn (fun q => q = rb) w w') : PIn w0 w' (recol c w (fun _ => 7)) lb ob m last L rb lv' M' lr' bk b := by
  have hk := keeps_recol c w (fun _ => 7)
  have hG : ∀ q, q < w.heap.size → q = rb → ¬ Rest (c q) ∧ c q ≠ 1 := fun q _ hg => by subst hg; rw [h.cr]; exact ⟨not_rest (.inr (.inl rfl)), by decide⟩
  refine ⟨h.pturn ht hk hG, hr.turn (G := fun _ => False) (Tn.refl _ _) (fun _ _ e => e.elim) (fun q _ hf => ?_) ?_, h.cp' hk, h.cr' hk, h.b.turn ht hk (fun q _ hg => by subst hg; exact .inr (.inr (.inl h.cr))), h.c9' hk, h.bel' ht (fun q hg => by subst hg; rw [h.cr]; decide)⟩
  · by_cases hq2 : q < w.heap.size
    · exact hk.fc hq2 hf
    · have := hf.2
      rw [recol_new (by omega)] at this
      exact absurd (.inl rfl) this
  · exact ⟨Nat.lt_of_lt_of_le h.r.ltb ht.size, by rw [h.cr' hk]; exact not_rest (.inr (.inl rfl))⟩
/-- The program's leases lie elsewhere now. -/
theorem PIn.pmove (h : PIn w0 w c lb ob m last L rb lv M lr bk b) {lb' mb : Nat} {m' : Lm} {L' : List Cr} {last' : Int} (hp : PlAt (fun q => Fc c w q ∨ q = lb' ∨ q = mb) w' lb' (some mb) m' last' L') (ht : Tn (foot lb ob) w w') (hl : lb' = lb ∨ w.heap.size ≤ lb') (hm : ob = some mb ∨ w.heap.size ≤ mb) :
    PIn w0 w' (recol c w (fun q => if q = lb' ∨ q = mb then 1 else 7)) lb' (some mb) m' last' L' rb lv M lr bk b := by
  have hk := keeps_recol c w (fun q => if q = lb' ∨ q = mb then 1 else 7)
  have hG : ∀ q, q < w.heap.size → foot lb ob q → ¬ Rest (c q) ∧ c q ≠ 2 := fun q _ hg => by rw [h.cp q hg]; exact ⟨not_rest (.inl rfl), by decide⟩
  have hc1 : ∀ q, foot lb' (some mb) q → recol c w (fun q => if q = lb' ∨ q = mb then 1 else 7) q = 1 := by
    rintro q hq
    have hq' : q = lb' ∨ q = mb := hq.imp id (fun e => (Option.some.inj e).symm)
    by_cases hq2 : q < w.heap.size
    · rw [recol_old hq2]
      rcases hq' with e | e
      · rcases hl with e2 | e2
        · exact h.cp q (.inl (e.trans e2))
        · omega
      · rcases hm with e2 | e2
        · exact h.cp q (.inr (by rw [e]; exact e2))
        · omega
    · rw [recol_new (by omega)]
      exact if_pos hq'
  refine ⟨hp.re (fun q hq hf => ?_) (fun q hq => ⟨hp.flt q hq, by rw [hc1 q hq]; exact not_rest (.inl rfl)⟩), h.rturn ht hk hG, hc1, h.cr' hk, h.b.turn ht hk (fun q _ hg => .inr (.inl (h.cp q hg))), h.c9' hk, h.bel' ht (fun q hg => by rw [h.cp q hg]; decide)⟩
  by_cases hq2 : q < w.heap.size
  · exact .inl (hk.fc hq2 hf)
  · by_cases hq3 : q = lb' ∨ q = mb
    · exact .inr hq3
    · have := hf.2
      rw [recol_new (by omega), if_neg hq3] at this
      exact absurd (.inl rfl) this
end Go.Proofs.YtnegappgdpeabaaGreat
/-
  LeasePlays: the state of a play; the calls of the program and of the document in it.
-/
namespace Go.Proofs.YtnegappgdpeabaaGreat
open Go.RowKit
variable {K0 K7 K0' K7' : Nat → Prop} {w w' w0 : World} {lb rb bk : Nat} {last lr : Int} {L LR : List Cr}

/-- K0: blocks of the law's own; K7: blocks that the law knows and that are at rest. -/
def PSt (K0 K7 : Nat → Prop) (w0 w : World) (lb : Nat) (last : Int) (L : List Cr) (rb : Nat) (lr : Int) (LR : List Cr) (bk : Nat) : Prop :=
  ∃ c ob m lv M b, PIn w0 w c lb ob m last L rb lv M lr bk b ∧ M.map core = LR ∧ (∀ q, K0 q → q < w.heap.size ∧ c q = 0) ∧ (∀ q, K7 q → q < w.heap.size ∧ Rest (c q))
/-- What a call leaves. -/
def PGo (K0 K7 : Nat → Prop) (w0 w w' : World) (lb : Nat) (last : Int) (L : List Cr) (rb : Nat) (lr : Int) (LR : List Cr) (bk : Nat) : Prop := PSt K0 K7 w0 w' lb last L rb lr LR bk ∧ Tn (fun q => ¬ (K0 q ∨ K7 q)) w w'
theorem PSt.weak (h : PSt K0 K7 w0 w lb last L rb lr LR bk) (h0 : ∀ q, K0' q → K0 q) (h7 : ∀ q, K7' q → K7 q) : PSt K0' K7' w0 w lb last L rb lr LR bk := by
  obtain ⟨c, ob, m, lv, M, b, h, e, k0, k7⟩ := h
  exact ⟨c, ob, m, lv, M, b, h, e, fun q hq => k0 q (h0 q hq), fun q hq => k7 q (h7 q hq)⟩
theorem PSt.klt (h : PSt K0 K7 w0 w lb last L rb lr LR bk) : ∀ q, K0 q ∨ K7 q → q < w.heap.size := by
  obtain ⟨c, ob, m, lv, M, b, h, e, k0, k7⟩ := h
  exact fun q hq => hq.elim (fun h => (k0 q h).1) (fun h => (k7 q h).1)
theorem PSt.good (h : PSt K0 K7 w0 w lb last L rb lr LR bk) : GoodL last L := by
  obtain ⟨c, ob, m, lv, M, b, h, e, k0, k7⟩ := h
  exact h.p.fit
theorem PSt.bel (h : PSt K0 K7 w0 w lb last L rb lr LR bk) : Below w0.heap.size w0 w := by
  obtain ⟨c, ob, m, lv, M, b, h, e, k0, k7⟩ := h
  exact h.bel
theorem PSt.bklt (h : PSt K0 K7 w0 w lb last L rb lr LR bk) : bk < w.heap.size := by
  obtain ⟨c, ob, m, lv, M, b, h, e, k0, k7⟩ := h
  exact h.b.ltb
/-- New blocks are the law's own. -/
theorem PSt.more (h : PSt K0 K7 w0 w lb last L rb lr LR bk) (hb : Below w.heap.size w w') : PSt (fun q => K0 q ∨ (w.heap.size ≤ q ∧ q < w'.heap.size)) K7 w0 w' lb last L rb lr LR bk := by
  obtain ⟨c, ob, m, lv, M, b, h, e, k0, k7⟩ := h
  refine ⟨recol c w (fun _ => 0), ob, m, lv, M, b, h.turn (G := fun _ => False) (Tn.ofBelow hb) (keeps_recol c w _) (fun _ e => e.elim), e, fun q hq => ?_, fun q hq => ⟨Nat.lt_of_lt_of_le (k7 q hq).1 hb.size, by rw [recol_old (k7 q hq).1]; exact (k7 q hq).2⟩⟩
  rcases hq with hq | hq
  · exact ⟨Nat.lt_of_lt_of_le (k0 q hq).1 hb.size, by rw [recol_old (k0 q hq).1]; exact (k0 q hq).2⟩
  · exact ⟨hq.2, recol_new hq.1⟩
theorem PSt.below (h : PSt K0 K7 w0 w lb last L rb lr LR bk) (hb : Below w.heap.size w w') : PSt K0 K7 w0 w' lb last L rb lr LR bk := (h.more hb).weak (fun _ hq => .inl hq) (fun _ hq => hq)
theorem PSt.go (h : PSt K0 K7 w0 w lb last L rb lr LR bk) (hb : Below w.heap.size w w') : PGo K0 K7 w0 w w' lb last L rb lr LR bk := ⟨h.below hb, Tn.ofBelow hb⟩
/-- The law turns blocks of its own. -/
theorem PSt.kept (h : PSt K0 K7 w0 w lb last L rb lr LR bk) (ht : Tn K0 w w') : PSt K0 K7 w0 w' lb last L rb lr LR bk := by
  obtain ⟨c, ob, m, lv, M, b, h, e, k0, k7⟩ := h
  exact ⟨recol c w (fun _ => 0), ob, m, lv, M, b, h.turn ht (keeps_recol c w _) (fun q hq => (k0 q hq).2), e, fun q hq => ⟨Nat.lt_of_lt_of_le (k0 q hq).1 ht.size, by rw [recol_old (k0 q hq).1]; exact (k0 q hq).2⟩, fun q hq => ⟨Nat.lt_of_lt_of_le (k7 q hq).1 ht.size, by rw [recol_old (k7 q hq).1]; exact (k7 q hq).2⟩⟩
theorem k_stay {c f : Nat → Nat} (hs : w.heap.size ≤ w'.heap.size) (k0 : ∀ q, K0 q → q < w.heap.size ∧ c q = 0) : ∀ q, K0 q → q < w'.heap.size ∧ recol c w f q = 0 := fun q hq => ⟨Nat.lt_of_lt_of_le (k0 q hq).1 hs, by rw [recol_old (k0 q hq).1]; exact (k0 q hq).2⟩
theorem k_rest {c f : Nat → Nat} (hs : w.heap.size ≤ w'.heap.size) (k7 : ∀ q, K7 q → q < w.heap.size ∧ Rest (c q)) : ∀ q, K7 q → q < w'.heap.size ∧ Rest (recol c w f q) := fun q hq => ⟨Nat.lt_of_lt_of_le (k7 q hq).1 hs, by rw [recol_old (k7 q hq).1]; exact (k7 q hq).2⟩
theorem k_not {c : Nat → Nat} {n q : Nat} (k0 : ∀ q, K0 q → q < w.heap.size ∧ c q = 0) (k7 : ∀ q, K7 q → q < w.heap.size ∧ Rest (c q)) (hc : c q = n) (hn : n = 1 ∨ n = 2) : ¬ (K0 q ∨ K7 q) := by
  rintro (hq | hq)
  · have := (k0 q hq).2; omega
  · have := (k7 q hq).2
    rw [hc] at this
    exact not_rest (by rcases hn with h | h <;> simp [h]) this
section
variable (h : PSt K0 K7 w0 w lb last L rb lr LR bk)
include h
theorem pst_renew (id ttl now : Int) : Calls Tryz.prog 10 #[.pointer (some ⟨lb, 0, none⟩), .int .i64 id, .int .i64 ttl, .int .i64 now] w fun e w' =>
    e = .returned (.int .i64 (renC L id ttl now).1) ∧ PGo K0 K7 w0 w w' lb last (renC L id ttl now).2 rb lr LR bk := by
  obtain ⟨c, ob, m, lv, M, b, h, e, k0, k7⟩ := h
  refine (p_renew h.p id ttl now).mono ?_
  rintro e w' ⟨he, m', hp, ht⟩
  exact ⟨he, ⟨_, ob, m', lv, M, b, h.pstep hp ht (fun _ => 7), by assumption, k_stay ht.size k0, k_rest ht.size k7⟩, ht.mono (fun q hq => k_not k0 k7 (h.cp q hq) (.inl rfl))⟩
theorem pst_release (id now : Int) : Calls Tryz.prog 12 #[.pointer (some ⟨lb, 0, none⟩), .int .i64 id, .int .i64 now] w fun e w' =>
    e = .returned (.int .i64 (relC L id now).1) ∧ PGo K0 K7 w0 w w' lb last (relC L id now).2 rb lr LR bk := by
  obtain ⟨c, ob, m, lv, M, b, h, e, k0, k7⟩ := h
  refine (p_release h.p id now).mono ?_
  rintro e w' ⟨he, m', hp, ht⟩
  exact ⟨he, ⟨_, ob, m', lv, M, b, h.pstep hp ht (fun _ => 7), by assumption, k_stay ht.size k0, k_rest ht.size k7⟩, ht.mono (fun q hq => k_not k0 k7 (h.cp q hq) (.inl rfl))⟩
theorem pst_expire (now : Int) : Calls Tryz.prog 14 #[.pointer (some ⟨lb, 0, none⟩), .int .i64 now] w fun e w' =>
    ∃ a k, e = .returned (.slice a (expI now L).length k) ∧ Own kInts w' w.heap.size (.slice a (expI now L).length k) (expI now L) ∧ PSt (fun q => K0 q ∨ (w.heap.size ≤ q ∧ q < w'.heap.size)) K7 w0 w' lb last (liveC now L) rb lr LR bk ∧ Tn (fun q => ¬ (K0 q ∨ K7 q)) w w' := by
  obtain ⟨c, ob, m, lv, M, b, h, e, k0, k7⟩ := h
  refine (p_expire h.p now).mono ?_
  rintro e w' ⟨a, k, he, ho, m', hp, ht⟩
  refine ⟨a, k, he, ho, ⟨_, ob, m', lv, M, b, h.pstep hp ht (fun _ => 0), by assumption, fun q hq => ?_, k_rest ht.size k7⟩, ht.mono (fun q hq => k_not k0 k7 (h.cp q hq) (.inl rfl))⟩
  rcases hq with hq | hq
  · exact k_stay ht.size k0 q hq
  · exact ⟨hq.2, recol_new hq.1⟩
theorem pst_get (id : Int) : Calls Tryz.prog 18 #[.pointer (some ⟨lb, 0, none⟩), .int .i64 id] w fun e w' =>
    ((findC L id = none ∧ e = .returned (.tuple #[.agg #[.int .i64 0, .slice none 0 0, .int .i64 0], .int .i64 22])) ∨
      ∃ c a k, findC L id = some c ∧ e = .returned (.tuple #[.agg #[.int .i64 c.1, .slice a c.2.1.length k, .int .i64 c.2.2], .int .i64 0]) ∧ Own eVec w' w.heap.size (.slice a c.2.1.length k) c.2.1) ∧ Below w.heap.size w w' := by
  obtain ⟨c, ob, m, lv, M, b, h, e, k0, k7⟩ := h
  exact p_get h.p id
theorem pst_list : Calls Tryz.prog 39 #[.pointer (some ⟨lb, 0, none⟩)] w fun e w' =>
    ∃ a c M, e = .returned (.slice a M.length c) ∧ M.map core = L ∧ LOwn w' w.heap.size (.slice a M.length c) M ∧ Sep M ∧ Below w.heap.size w w' := by
  obtain ⟨c, ob, m, lv, M, b, h, e, k0, k7⟩ := h
  exact p_list h.p
theorem pst_meet : Calls Tryz.prog 26 #[.pointer (some ⟨lb, 0, none⟩)] w fun e w' =>
    ∃ v, e = .returned v ∧ Own eVec w' w.heap.size v (meetD (L.map (·.2.1))) ∧ Below w.heap.size w w' := by
  obtain ⟨c, ob, m, lv, M, b, h, e, k0, k7⟩ := h
  exact p_meet h.p
theorem pst_put : Calls Tryz.prog 22 #[.pointer (some ⟨lb, 0, none⟩)] w fun e w' => e = .returned (.string ⟨(putS last L).toArray⟩) ∧ Below w.heap.size w w' := by
  obtain ⟨c, ob, m, lv, M, b, h, e, k0, k7⟩ := h
  exact p_put h.p
theorem pst_load : Calls Tryz.prog 21 #[.string ⟨(putS last L).toArray⟩] w fun e w' =>
    ∃ lb', e = .returned (.tuple #[.pointer (some ⟨lb', 0, none⟩), .int .i64 0]) ∧ PSt K0 K7 w0 w' lb' last L rb lr LR bk ∧ PSt K0 K7 w0 w' lb last L rb lr LR bk ∧ Below w.heap.size w w' := by
  have hst := h
  obtain ⟨c, ob, m, lv, M, b, h, e, k0, k7⟩ := h
  refine (p_load h.p.fit).mono ?_
  rintro e w' ⟨lb', mb, m', he, hp, h1, h2, hb⟩
  exact ⟨lb', he, ⟨_, some mb, m', lv, M, b, h.pmove (hp (Fc c w) (fun q hq => hq.1)) (Tn.ofBelow hb) (.inr h1) (.inr h2), by assumption, k_stay hb.size k0, k_rest hb.size k7⟩, hst.below hb, hb⟩
theorem pst_rrenew (id ttl now : Int) : Calls Tryz.prog 11 #[.pointer (some ⟨rb, 0, none⟩), .int .i64 id, .int .i64 ttl, .int .i64 now] w fun e w' =>
    e = .returned (.int .i64 (renC LR id ttl now).1) ∧ PGo K0 K7 w0 w w' lb last L rb lr (renC LR id ttl now).2 bk := by
  obtain ⟨c, ob, m, lv, M, b, h, rfl, k0, k7⟩ := h
  refine (rlrenew_any h.r (fun q hq => hq.1) id ttl now).mono ?_
  rintro e w' ⟨he, lv', M', hr, e2, ht⟩
  exact ⟨he, ⟨_, ob, m, lv', M', b, h.rstep hr ht, e2, k_stay ht.size k0, k_rest ht.size k7⟩, ht.mono (fun q hq => k_not k0 k7 (hq ▸ h.cr) (.inr rfl))⟩
theorem pst_rrelease (id now : Int) : Calls Tryz.prog 13 #[.pointer (some ⟨rb, 0, none⟩), .int .i64 id, .int .i64 now] w fun e w' =>
    e = .returned (.int .i64 (relC LR id now).1) ∧ PGo K0 K7 w0 w w' lb last L rb lr (relC LR id now).2 bk := by
  obtain ⟨c, ob, m, lv, M, b, h, rfl, k0, k7⟩ := h
  refine (rlrelease_any h.r (fun q hq => hq.1) id now).mono ?_
  rintro e w' ⟨he, lv', M', hr, e2, ht⟩
  exact ⟨he, ⟨_, ob, m, lv', M', b, h.rstep hr ht, e2, k_stay ht.size k0, k_rest ht.size k7⟩, ht.mono (fun q hq => k_not k0 k7 (hq ▸ h.cr) (.inr rfl))⟩
theorem pst_rexpire (now : Int) : Calls Tryz.prog 17 #[.pointer (some ⟨rb, 0, none⟩), .int .i64 now] w fun e w' =>
    ∃ a k, e = .returned (.slice a (expI now LR).length k) ∧ Own kInts w' w.heap.size (.slice a (expI now LR).length k) (expI now LR) ∧ PGo K0 K7 w0 w w' lb last L rb lr (liveC now LR) bk := by
  obtain ⟨c, ob, m, lv, M, b, h, rfl, k0, k7⟩ := h
  refine (rlexpire_any h.r (fun q hq => hq.1) now).mono ?_
  rintro e w' ⟨a, k, he, ho, lv', M', hr, e2, ht⟩
  exact ⟨a, k, he, ho, ⟨_, ob, m, lv', M', b, h.rstep hr ht, e2, k_stay ht.size k0, k_rest ht.size k7⟩, ht.mono (fun q hq => k_not k0 k7 (hq ▸ h.cr) (.inr rfl))⟩
theorem pst_rmeet : Calls Tryz.prog 49 #[.pointer (some ⟨rb, 0, none⟩)] w fun e w' =>
    ∃ v, e = .returned v ∧ Own eVec w' w.heap.size v (meetD (LR.map (·.2.1))) ∧ Below w.heap.size w w' := by
  obtain ⟨c, ob, m, lv, M, b, h, rfl, k0, k7⟩ := h
  have := rlmeet_any h.r
  rw [List.map_map]
  exact this
/-- The document's list, as it is read. -/
theorem pst_rlist : ∃ a k M, w.cell? ⟨rb, 0, none⟩ = some (.slice a M.length k) ∧ RdLs w (.slice a M.length k) M ∧ M.map core = LR ∧ rb < w.heap.size := by
  obtain ⟨c, ob, m, lv, M, b, h, rfl, k0, k7⟩ := h
  obtain ⟨a, k, e, _, _⟩ := rl_form h.r
  have h0 := h.r.c0
  have h1 := rdLs_own h.r.row (fun x hx => (h.r.rd x hx).rd)
  rw [e] at h0 h1
  exact ⟨a, k, M, h0, h1, rfl, h.r.ltb⟩
theorem pst_few : LR.length ≤ 16 := by
  obtain ⟨c, ob, m, lv, M, b, h, rfl, k0, k7⟩ := h
  rw [List.length_map]
  exact h.r.few
end
/-- What Acquire answers, and what it leaves. -/
def acqI (L : List Cr) (vs : List Int) (ttl now last : Int) : Int := if acqB L vs ttl now = 0 then last + 1 else 0
def acqN (L : List Cr) (vs : List Int) (ttl now last : Int) : Int := if acqB L vs ttl now = 0 then last + 1 else last
def acqL (L : List Cr) (vs : List Int) (ttl now last : Int) : List Cr := if acqB L vs ttl now = 0 then liveC now L ++ [(last + 1, vs, tillZ ttl now)] else L
theorem pst_acquire (h : PSt K0 K7 w0 w lb last L rb lr LR bk) (hl : last < 1000000) {xa : Option Addr} {xc n : Nat} {vs : List Int} (hn : vs.length = n) (hx : RdX (fun q => ¬ (K0 q ∨ q < w0.heap.size)) w ⟨0, xa, xc, vs, 0⟩) (ttl now : Int) :
    Calls Tryz.prog 7 #[.pointer (some ⟨lb, 0, none⟩), .slice xa n xc, .int .i64 ttl, .int .i64 now] w fun e w' =>
      e = .returned (.tuple #[.int .i64 (acqI L vs ttl now last), .int .i64 (acqB L vs ttl now)]) ∧ PGo K0 K7 w0 w w' lb (acqN L vs ttl now last) (acqL L vs ttl now last) rb lr LR bk := by
  subst hn
  have hst := h
  obtain ⟨c, ob, m, lv, M, b, h, e, k0, k7⟩ := h
  have hx2 : RdX (foot lb ob) w ⟨0, xa, xc, vs, 0⟩ := by
    refine hx.imp id ?_
    rintro ⟨q, off, ha, hf, hlt, hc⟩
    refine ⟨q, off, ha, fun hq => hf ?_, hlt, hc⟩
    rintro (e | e)
    · have := (k0 q e).2; rw [h.cp q hq] at this; cases this
    · have := h.c9 q e; rw [h.cp q hq] at this; cases this
  refine (p_acquire h.p (fun q hq => hq.1) hl hx2 ttl now).mono ?_
  unfold acqI acqN acqL
  rintro e w' (⟨h0, he, hb⟩ | ⟨h0, hv, hr, he, mb, m', hp, hm, hml, ht⟩)
  · rw [if_neg h0, if_neg h0, if_neg h0]
    exact ⟨he, hst.go hb⟩
  · rw [if_pos h0, if_pos h0, if_pos h0, h0]
    have hp2 : PlAt (fun q => Fc c w q ∨ q = lb ∨ q = mb) w' lb (some mb) m' (last + 1) (liveC now L ++ [(last + 1, vs, tillZ ttl now)]) := hp.re (fun q _ hq => by
      rcases hq with hq | hq | hq
      · exact .inl hq
      · rw [hq]; exact .inl (h.p.ft lb (.inl rfl))
      · exact .inr hq) (fun q hq => by
      rcases hq with hq | hq
      · exact .inr (.inl hq)
      · exact .inr (.inr (Option.some.inj hq).symm))
    exact ⟨he, ⟨_, some mb, m', lv, M, b, h.pmove hp2 ht (.inl rfl) hm, by assumption, k_stay ht.size k0, k_rest ht.size k7⟩, ht.mono (fun q hq => k_not k0 k7 (h.cp q hq) (.inl rfl))⟩
theorem pst_racquire (h : PSt K0 K7 w0 w lb last L rb lr LR bk) (hl : lr < 1000000) {xa : Option Addr} {xc n : Nat} {vs : List Int} (hn : vs.length = n) (hx : RdX (fun q => ¬ (K0 q ∨ q < w0.heap.size)) w ⟨0, xa, xc, vs, 0⟩) (hvl : vs.length ≤ 1000000) (ttl now : Int) :
    Calls Tryz.prog 8 #[.pointer (some ⟨rb, 0, none⟩), .slice xa n xc, .int .i64 ttl, .int .i64 now] w fun e w' =>
      e = .returned (.tuple #[.int .i64 (acqI LR vs ttl now lr), .int .i64 (acqB LR vs ttl now)]) ∧ PGo K0 K7 w0 w w' lb last L rb (acqN LR vs ttl now lr) (acqL LR vs ttl now lr) bk := by
  subst hn
  have hst := h
  obtain ⟨c, ob, m, lv, M, b, h, rfl, k0, k7⟩ := h
  have hx2 : RdX (fun q => q = rb) w ⟨0, xa, xc, vs, 0⟩ := by
    refine hx.imp id ?_
    rintro ⟨q, off, ha, hf, hlt, hc⟩
    refine ⟨q, off, ha, fun hq => hf ?_, hlt, hc⟩
    subst hq
    rintro (e | e)
    · have := (k0 q e).2; rw [h.cr] at this; cases this
    · have := h.c9 q e; rw [h.cr] at this; cases this
  refine (rlacquire_any h.r (fun q hq => hq.1) hl hx2 hvl ttl now).mono ?_
  unfold acqI acqN acqL
  rintro e w' (⟨h0, he, rfl⟩ | ⟨h0, he, lv', M', hr, e2, ht⟩)
  · rw [if_neg h0, if_neg h0, if_neg h0]
    exact ⟨he, hst, Tn.refl _ _⟩
  · rw [if_pos h0, if_pos h0, if_pos h0, h0]
    exact ⟨he, ⟨_, ob, m, lv', M', b, h.rstep hr ht, e2, k_stay ht.size k0, k_rest ht.size k7⟩, ht.mono (fun q hq => k_not k0 k7 (hq ▸ h.cr) (.inr rfl))⟩
end Go.Proofs.YtnegappgdpeabaaGreat
/-
  LeasePlays: the book in the state of a play.
-/
namespace Go.Proofs.YtnegappgdpeabaaGreat
open Go.RowKit
variable {K0 K7 K0' K7' G : Nat → Prop} {w w' w0 : World} {lb rb bk : Nat} {last lr : Int} {L LR : List Cr} {c : Nat → Nat} {ob : Option Nat} {m : Lm} {lv : Value} {M : List Lv} {b : BkS}

section
variable {P : Program} {T E TS : TypeId} {k by_ : Nat} {α : Type} {cell : α → List Value} {e : Elm P T E k by_ cell} {eS : Elm P TS T 1 24 sCell} {off B : Nat} {vo vw : Value}
theorem Kd.oth {S Sw : List (Sl × List α)} (h : Kd e eS w bk off B vo vw S Sw) (ht : Tn G w w') (hc : ∀ o, o = off ∨ o = off + 1 → w'.cell? ⟨bk, o, none⟩ = w.cell? ⟨bk, o, none⟩) (hf : ∀ j, w'.frozen? ⟨bk, j, none⟩ = false) (hG : ∀ q, footL vo S q ∨ footL vw Sw q → ¬ G q) : Kd e eS w' bk off B vo vw S Sw :=
  ⟨(hc _ (.inl rfl)).trans h.c0, (hc _ (.inr rfl)).trans h.c1, h.l.tn ht (fun q hq => hG q (.inl hq)), h.lw.tn ht (fun q hq => hG q (.inr hq)), h.same, h.apart, h.bk0, hf⟩
end
section
variable {P : Program} {T E TS : TypeId} {k by_ : Nat} {cell : Lv → List Value} {e : Elm P T E k by_ cell} {eS : Elm P TS T 1 24 sCell} {off B : Nat} {vo vw : Value}
theorem KdL.oth {S Sw : List (Sl × List Lv)} (h : KdL e eS w bk off B vo vw S Sw) (ht : Tn G w w') (hc : ∀ o, o = off ∨ o = off + 1 → w'.cell? ⟨bk, o, none⟩ = w.cell? ⟨bk, o, none⟩) (hf : ∀ j, w'.frozen? ⟨bk, j, none⟩ = false) (hG : ∀ q, footL vo S q ∨ footL vw Sw q → ¬ G q) : KdL e eS w' bk off B vo vw S Sw :=
  ⟨(hc _ (.inl rfl)).trans h.c0, (hc _ (.inr rfl)).trans h.c1, h.l.tn ht (fun q hq => hG q (.inl hq)), h.lw.tn ht (fun q hq => hG q (.inr hq)), h.same, h.apart, h.bk0, hf⟩
end
/-- Two rows of other elements lie in other blocks. -/
theorem own_ne {B1 E1 k1 n1 B2 E2 k2 n2 : Nat} {v1 v2 : Value} {x1 x2 : List Value} (h1 : w.ownsRow B1 E1 k1 v1 n1 x1) (h2 : w.ownsRow B2 E2 k2 v2 n2 x2) (hne : E1 ≠ E2) : ∀ q, v1.ownBlock = some q → v2.ownBlock ≠ some q := by
  intro q e1 e2
  rcases h1.2 with ⟨rfl, _⟩ | ⟨g1, c1, cur1, rfl, _, hh1, _⟩
  · cases e1
  · rcases h2.2 with ⟨rfl, _⟩ | ⟨g2, c2, cur2, rfl, _, hh2, _⟩
    · cases e2
    · obtain rfl : g1 = q := by injection e1
      obtain rfl : g2 = g1 := by injection e2
      rw [hh1] at hh2
      injection hh2 with hh2
      injection hh2 with _ hh2
      exact hne hh2
/-- Colours, where one list more is kept. -/
def acol (c : Nat → Nat) (w : World) (s : Sl) (v u : Value) (o i : Nat) (q : Nat) : Nat := if q < w.heap.size then (if s.val.ownBlock = some q then i else c q) else (if v.ownBlock = some q ∨ u.ownBlock = some q then o else i)
theorem acol_keeps {s : Sl} {v u : Value} {o i : Nat} (hs : ∀ q, s.val.ownBlock = some q → q < w.heap.size ∧ c q = 0) (hi : 20 ≤ i) : Keeps c (acol c w s v u o i) w := fun q hq => by
  unfold acol
  rw [if_pos hq]
  split
  · exact .inr ⟨(hs q (by assumption)).2, .inr hi⟩
  · exact .inl rfl
theorem Cols.add {α : Type} {o i : Nat} {v u v' u' : Value} {S T : List (Sl × List α)} {s s2 : Sl} {l l2 : List α} (h : Cols c o i v u S T) (hlt : ∀ q, footL v S q ∨ footL u T q → q < w.heap.size) (hs : ∀ q, s.val.ownBlock = some q → q < w.heap.size ∧ c q = 0) (ho : o ≠ 0) (hi : i ≠ 0)
    (outO : ∀ q, v'.ownBlock = some q → v.ownBlock = some q ∨ w.heap.size ≤ q) (outW : ∀ q, u'.ownBlock = some q → u.ownBlock = some q ∨ w.heap.size ≤ q) (new2 : ∀ q, s2.val.ownBlock = some q → w.heap.size ≤ q) (hn : ∀ q, s2.val.ownBlock = some q → v'.ownBlock ≠ some q ∧ u'.ownBlock ≠ some q) :
    Cols (acol c w s v' u' o i) o i v' u' (S ++ [(s, l)]) (T ++ [(s2, l2)]) := by
  have hold : ∀ q n, q < w.heap.size → c q = n → n ≠ 0 → acol c w s v' u' o i q = n := fun q n hq hc hn0 => by
    unfold acol
    rw [if_pos hq, if_neg (fun e => hn0 (hc.symm.trans (hs q e).2))]
    exact hc
  have hnew : ∀ q, w.heap.size ≤ q → (v'.ownBlock = some q ∨ u'.ownBlock = some q) → acol c w s v' u' o i q = o := fun q hq hc => by
    unfold acol
    rw [if_neg (by omega), if_pos hc]
  refine ⟨fun q hq => ?_, fun q hq => ?_, fun q hq => ?_, fun q hq => ?_⟩
  · rcases outO q hq with h1 | h1
    · exact hold q o (hlt q (.inl (.inl h1))) (h.ov q h1) ho
    · exact hnew q h1 (.inl hq)
  · rcases outW q hq with h1 | h1
    · exact hold q o (hlt q (.inr (.inl h1))) (h.ou q h1) ho
    · exact hnew q h1 (.inr hq)
  · obtain ⟨j, hj, hq⟩ := hq
    rcases Nat.lt_or_ge j S.length with h1 | h1
    · rw [List.getElem_append_left h1] at hq
      exact hold q i (hlt q (.inl (.inr ⟨j, h1, hq⟩))) (h.iv q ⟨j, h1, hq⟩) hi
    · have hj' : j = S.length := by rw [List.length_append] at hj; simp at hj; omega
      subst hj'
      rw [List.getElem_append_right (Nat.le_refl _)] at hq
      have hq : s.val.ownBlock = some q := by simpa using hq
      unfold acol
      rw [if_pos (hs q hq).1, if_pos hq]
  · obtain ⟨j, hj, hq⟩ := hq
    rcases Nat.lt_or_ge j T.length with h1 | h1
    · rw [List.getElem_append_left h1] at hq
      exact hold q i (hlt q (.inr (.inr ⟨j, h1, hq⟩))) (h.iu q ⟨j, h1, hq⟩) hi
    · have hj' : j = T.length := by rw [List.length_append] at hj; simp at hj; omega
      subst hj'
      rw [List.getElem_append_right (Nat.le_refl _)] at hq
      have hq : s2.val.ownBlock = some q := by simpa using hq
      unfold acol
      rw [if_neg (by have := new2 q hq; omega), if_neg (fun e => e.elim (hn q hq).1 (hn q hq).2)]
theorem lens_add {α : Type} {S : List (Sl × List α)} {s : Sl} {l : List α} {N : Nat} (h : ∀ i (hi : i < S.length), S[i].2.length ≤ N) (hl : l.length ≤ N) : ∀ i (hi : i < (S ++ [(s, l)]).length), (S ++ [(s, l)])[i].2.length ≤ N := by
  intro i hi
  rcases Nat.lt_or_ge i S.length with h1 | h1
  · rw [List.getElem_append_left h1]; exact h i h1
  · have hi' : i = S.length := by rw [List.length_append] at hi; simp at hi; omega
    subst hi'
    rw [List.getElem_append_right (Nat.le_refl _)]
    simpa using hl
/-- What the book's blocks that an addition turns are no part of. -/
theorem PIn.outer (h : PIn w0 w c lb ob m last L rb lv M lr bk b) {q : Nat} (hq : c q = 5 ∨ c q = 10 ∨ c q = 11 ∨ c q = 12) : ¬ Rest (c q) ∧ c q ≠ 1 ∧ c q ≠ 2 ∧ c q ≠ 9 ∧ c q ≠ 0 := by
  unfold Rest
  rcases hq with e | e | e | e <;> rw [e] <;> decide
theorem foot_no {α : Type} {o i : Nat} {v u : Value} {S T : List (Sl × List α)} (h : Cols c o i v u S T) {q : Nat} (hq : footL v S q ∨ footL u T q) (h5 : c q = 5 → False) (h1 : c q = o → False) (h2 : c q = i → False) : False := (h.foot hq).elim h1 h2
theorem PIn.add0 (h : PIn w0 w c lb ob m last L rb lv M lr bk b) {s s2 : Sl} {l : List Int} {v' u' : Value} (a : Added kInts kIntsS w w' bk 2 (bk + 1) b.v0 b.u0 b.S0 b.T0 s l v' u' s2) (hs : ∀ q, s.val.ownBlock = some q → q < w.heap.size ∧ c q = 0) (hn : b.S0.length < 250) (hl : l.length ≤ 50000) :
    PIn w0 w' (acol c w s v' u' 10 20) lb ob m last L rb lv M lr bk { b with v0 := v', u0 := u', S0 := b.S0 ++ [(s, l)], T0 := b.T0 ++ [(s2, l)] } := by
  have hk : Keeps c (acol c w s v' u' 10 20) w := acol_keeps hs (by decide)
  have ht := a.tnO
  have hG : ∀ q, (q = bk ∨ b.v0.ownBlock = some q ∨ b.u0.ownBlock = some q) → c q = 5 ∨ c q = 10 ∨ c q = 11 ∨ c q = 12 := fun q hq => by
    rcases hq with e | e | e
    · rw [e]; exact .inl h.b.cb
    · exact .inr (.inl (h.b.q0.ov q e))
    · exact .inr (.inl (h.b.q0.ou q e))
  have hoth : ∀ o, o ≠ 2 → o ≠ 3 → w'.cell? ⟨bk, o, none⟩ = w.cell? ⟨bk, o, none⟩ := a.other
  refine ⟨h.pturn ht hk (fun q _ hg => ⟨(h.outer (hG q hg)).1, (h.outer (hG q hg)).2.1⟩), h.rturn ht hk (fun q _ hg => ⟨(h.outer (hG q hg)).1, (h.outer (hG q hg)).2.2.1⟩), h.cp' hk, h.cr' hk, ⟨a.kd, h.b.k1.oth ht (fun o ho => hoth o (by omega) (by omega)) a.kd.free (fun q hq hg => ?_), h.b.k2.oth ht (fun o ho => hoth o (by omega) (by omega)) a.kd.free (fun q hq hg => ?_), fun o h1 h2 h3 h4 h5 h6 h7 => (hoth o h2 h3).trans (h.b.an o h1 h2 h3 h4 h5 h6 h7), hk.one h.b.ltb h.b.cb (by decide),
    h.b.q0.add h.b.lt0 hs (by decide) (by decide) a.outO a.outW a.new2 (fun q hq => ⟨fun e => a.kd.apart q (.inl e) (.inr ⟨b.T0.length, by rw [List.length_append]; simp, by rw [List.getElem_append_right (Nat.le_refl _)]; simpa using hq⟩), fun e => a.kd.lw.sepO b.T0.length (by rw [List.length_append]; simp) q e (by rw [List.getElem_append_right (Nat.le_refl _)]; simpa using hq)⟩), h.b.q1.keep hk (by decide) (by decide) h.b.lt1, h.b.q2.keep hk (by decide) (by decide) h.b.lt2,
    fun p hp x hx => ⟨rdX_turn (h.b.rd p hp x hx).1 ht hk (fun q _ hg => (h.outer (hG q hg)).1), (h.b.rd p hp x hx).2⟩, by rw [List.length_append]; simp; omega, h.b.n1, h.b.n2, lens_add h.b.l0 hl, h.b.l1, h.b.l2⟩, h.c9' hk, h.bel' ht (fun q hg => (h.outer (hG q hg)).2.2.2.1)⟩
  · have h1 := h.b.q1.foot hq
    have h2 : c q = 5 ∨ c q = 10 := by
      rcases hg with e | e | e
      · rw [e]; exact .inl h.b.cb
      · exact .inr (h.b.q0.ov q e)
      · exact .inr (h.b.q0.ou q e)
    omega
  · have h1 := h.b.q2.foot hq
    have h2 : c q = 5 ∨ c q = 10 := by
      rcases hg with e | e | e
      · rw [e]; exact .inl h.b.cb
      · exact .inr (h.b.q0.ov q e)
      · exact .inr (h.b.q0.ou q e)
    omega
theorem PIn.add1 (h : PIn w0 w c lb ob m last L rb lv M lr bk b) {s s2 : Sl} {l : List Int} {v' u' : Value} (a : Added kVecs kVecsS w w' bk 4 (bk + 1) b.v1 b.u1 b.S1 b.T1 s l v' u' s2) (hs : ∀ q, s.val.ownBlock = some q → q < w.heap.size ∧ c q = 0) (hn : b.S1.length < 250) (hl : l.length ≤ 50000) :
    PIn w0 w' (acol c w s v' u' 11 21) lb ob m last L rb lv M lr bk { b with v1 := v', u1 := u', S1 := b.S1 ++ [(s, l)], T1 := b.T1 ++ [(s2, l)] } := by
  have hk : Keeps c (acol c w s v' u' 11 21) w := acol_keeps hs (by decide)
  have ht := a.tnO
  have hG : ∀ q, (q = bk ∨ b.v1.ownBlock = some q ∨ b.u1.ownBlock = some q) → c q = 5 ∨ c q = 10 ∨ c q = 11 ∨ c q = 12 := fun q hq => by
    rcases hq with e | e | e
    · rw [e]; exact .inl h.b.cb
    · exact .inr (.inr (.inl (h.b.q1.ov q e)))
    · exact .inr (.inr (.inl (h.b.q1.ou q e)))
  have hG2 : ∀ q, (q = bk ∨ b.v1.ownBlock = some q ∨ b.u1.ownBlock = some q) → c q = 5 ∨ c q = 11 := fun q hq => by
    rcases hq with e | e | e
    · rw [e]; exact .inl h.b.cb
    · exact .inr (h.b.q1.ov q e)
    · exact .inr (h.b.q1.ou q e)
  have hoth : ∀ o, o ≠ 4 → o ≠ 5 → w'.cell? ⟨bk, o, none⟩ = w.cell? ⟨bk, o, none⟩ := a.other
  refine ⟨h.pturn ht hk (fun q _ hg => ⟨(h.outer (hG q hg)).1, (h.outer (hG q hg)).2.1⟩), h.rturn ht hk (fun q _ hg => ⟨(h.outer (hG q hg)).1, (h.outer (hG q hg)).2.2.1⟩), h.cp' hk, h.cr' hk, ⟨h.b.k0.oth ht (fun o ho => hoth o (by omega) (by omega)) a.kd.free (fun q hq hg => ?_), a.kd, h.b.k2.oth ht (fun o ho => hoth o (by omega) (by omega)) a.kd.free (fun q hq hg => ?_), fun o h1 h2 h3 h4 h5 h6 h7 => (hoth o h4 h5).trans (h.b.an o h1 h2 h3 h4 h5 h6 h7), hk.one h.b.ltb h.b.cb (by decide),
    h.b.q0.keep hk (by decide) (by decide) h.b.lt0, h.b.q1.add h.b.lt1 hs (by decide) (by decide) a.outO a.outW a.new2 (fun q hq => ⟨fun e => a.kd.apart q (.inl e) (.inr ⟨b.T1.length, by rw [List.length_append]; simp, by rw [List.getElem_append_right (Nat.le_refl _)]; simpa using hq⟩), fun e => a.kd.lw.sepO b.T1.length (by rw [List.length_append]; simp) q e (by rw [List.getElem_append_right (Nat.le_refl _)]; simpa using hq)⟩), h.b.q2.keep hk (by decide) (by decide) h.b.lt2,
    fun p hp x hx => ⟨rdX_turn (h.b.rd p hp x hx).1 ht hk (fun q _ hg => (h.outer (hG q hg)).1), (h.b.rd p hp x hx).2⟩, h.b.n0, by rw [List.length_append]; simp; omega, h.b.n2, h.b.l0, lens_add h.b.l1 hl, h.b.l2⟩, h.c9' hk, h.bel' ht (fun q hg => (h.outer (hG q hg)).2.2.2.1)⟩
  · have h1 := h.b.q0.foot hq
    have h2 := hG2 q hg
    omega
  · have h1 := h.b.q2.foot hq
    have h2 := hG2 q hg
    omega
theorem PIn.add2 (h : PIn w0 w c lb ob m last L rb lv M lr bk b) {s s2 : Sl} {l l2 : List Lv} {v' u' : Value} (a : AddedL kLeases kLeasesS w w' bk 20 (bk + 1) b.v2 b.u2 b.S2 b.T2 s l v' u' s2 l2) (hv2 : ∀ y ∈ l2, Own eVec w' w.heap.size y.sl y.vs) (hl2 : ∀ y ∈ l2, y.vs.length ≤ 1000000) (hs : ∀ q, s.val.ownBlock = some q → q < w.heap.size ∧ c q = 0) (hrd : ∀ x ∈ l, RdX (Fc c w) w x ∧ x.vs.length ≤ 1000000) (hn : b.S2.length < 250) (hl : l.length ≤ 50000) :
    PIn w0 w' (acol c w s v' u' 12 22) lb ob m last L rb lv M lr bk { b with v2 := v', u2 := u', S2 := b.S2 ++ [(s, l)], T2 := b.T2 ++ [(s2, l2)] } := by
  have hk : Keeps c (acol c w s v' u' 12 22) w := acol_keeps hs (by decide)
  have ht := a.tnO
  have hG : ∀ q, (q = bk ∨ b.v2.ownBlock = some q ∨ b.u2.ownBlock = some q) → c q = 5 ∨ c q = 10 ∨ c q = 11 ∨ c q = 12 := fun q hq => by
    rcases hq with e | e | e
    · rw [e]; exact .inl h.b.cb
    · exact .inr (.inr (.inr (h.b.q2.ov q e)))
    · exact .inr (.inr (.inr (h.b.q2.ou q e)))
  have hG2 : ∀ q, (q = bk ∨ b.v2.ownBlock = some q ∨ b.u2.ownBlock = some q) → c q = 5 ∨ c q = 12 := fun q hq => by
    rcases hq with e | e | e
    · rw [e]; exact .inl h.b.cb
    · exact .inr (h.b.q2.ov q e)
    · exact .inr (h.b.q2.ou q e)
  have hoth : ∀ o, o ≠ 20 → o ≠ 21 → w'.cell? ⟨bk, o, none⟩ = w.cell? ⟨bk, o, none⟩ := a.other
  refine ⟨h.pturn ht hk (fun q _ hg => ⟨(h.outer (hG q hg)).1, (h.outer (hG q hg)).2.1⟩), h.rturn ht hk (fun q _ hg => ⟨(h.outer (hG q hg)).1, (h.outer (hG q hg)).2.2.1⟩), h.cp' hk, h.cr' hk, ⟨h.b.k0.oth ht (fun o ho => hoth o (by omega) (by omega)) a.kd.free (fun q hq hg => ?_), h.b.k1.oth ht (fun o ho => hoth o (by omega) (by omega)) a.kd.free (fun q hq hg => ?_), a.kd, fun o h1 h2 h3 h4 h5 h6 h7 => (hoth o h6 h7).trans (h.b.an o h1 h2 h3 h4 h5 h6 h7), hk.one h.b.ltb h.b.cb (by decide),
    h.b.q0.keep hk (by decide) (by decide) h.b.lt0, h.b.q1.keep hk (by decide) (by decide) h.b.lt1, h.b.q2.add h.b.lt2 hs (by decide) (by decide) a.outO a.outW a.new2 (fun q hq => ⟨fun e => a.kd.apart q (.inl e) (.inr ⟨b.T2.length, by rw [List.length_append]; simp, by rw [List.getElem_append_right (Nat.le_refl _)]; simpa using hq⟩), fun e => a.kd.lw.sepO b.T2.length (by rw [List.length_append]; simp) q e (by rw [List.getElem_append_right (Nat.le_refl _)]; simpa using hq)⟩),
    fun p hp x hx => ?_, h.b.n0, h.b.n1, by rw [List.length_append]; simp; omega, h.b.l0, h.b.l1, lens_add h.b.l2 hl⟩, h.c9' hk, h.bel' ht (fun q hg => (h.outer (hG q hg)).2.2.2.1)⟩
  · have h1 := h.b.q0.foot hq
    have h2 := hG2 q hg
    omega
  · have h1 := h.b.q1.foot hq
    have h2 := hG2 q hg
    omega
  · have hold : ∀ x, RdX (Fc c w) w x → RdX (Fc (acol c w s v' u' 12 22) w') w' x := fun x hx => rdX_turn hx ht hk (fun q _ hg => (h.outer (hG q hg)).1)
    rcases hp with hp | hp
    · rcases List.mem_append.1 hp with hp | hp
      · exact ⟨hold x (h.b.rd p (.inl hp) x hx).1, (h.b.rd p (.inl hp) x hx).2⟩
      · rw [List.mem_singleton.1 hp] at hx
        exact ⟨hold x (hrd x hx).1, (hrd x hx).2⟩
    · rcases List.mem_append.1 hp with hp | hp
      · exact ⟨hold x (h.b.rd p (.inr hp) x hx).1, (h.b.rd p (.inr hp) x hx).2⟩
      · rw [List.mem_singleton.1 hp] at hx
        have ho := hv2 x hx
        refine ⟨?_, hl2 x hx⟩
        obtain ⟨a', k', e, h0⟩ := rdI_own ho
        injection e with e1 _ _
        refine h0.imp id ?_
        rintro ⟨q, off, ha, hlt, hc⟩
        refine ⟨q, off, e1.trans ha, fun hf => hf.2 ?_, hlt, hc⟩
        have hq : x.sl.ownBlock = some q := by
          show (Value.slice x.sa x.vs.length x.sc).ownBlock = some q
          rw [e1.trans ha]
          rfl
        have h1 := (ho.lt q hq).1
        have h2 : v'.ownBlock ≠ some q := own_ne ho a.kd.l.outer (by decide) q hq
        have h3 : u'.ownBlock ≠ some q := own_ne ho a.kd.lw.outer (by decide) q hq
        unfold acol
        rw [if_neg (by omega), if_neg (fun e => e.elim h2 h3)]
        exact .inr (by decide)
end Go.Proofs.YtnegappgdpeabaaGreat
/-
  LeasePlays: the book's calls in the state of a play; what is lent.
-/
namespace Go.Proofs.YtnegappgdpeabaaGreat
open Go.RowKit
variable {K0 K7 K0' K7' G : Nat → Prop} {w w' w0 : World} {lb rb bk : Nat} {last lr : Int} {L LR : List Cr}

set_option maxRecDepth 100000 in
set_option maxHeartbeats 1000000 in
theorem full_Ints {w : World} {bk n cap : Nat} {a : Option Addr} (c0 : w.cell? ⟨bk, 2, none⟩ = some (.slice a n cap)) (hn : 250 ≤ n) (hm : n ≤ 1000) (x : Value) :
    Calls Tryz.prog 15 #[.pointer (some ⟨bk, 0, none⟩), x] w fun e w' => e = .returned (.tuple #[]) ∧ w = w' := by
  have t1 : ¬ (n : Int) < 250 := by omega
  have t1n : ¬ n < 250 := by omega
  go_enter Tryz.func15, Tryz.ntmps15
  go_wp2
  go_end0
  exact ⟨rfl, rfl⟩
set_option maxRecDepth 100000 in
set_option maxHeartbeats 1000000 in
theorem full_Vecs {w : World} {bk n cap : Nat} {a : Option Addr} (c0 : w.cell? ⟨bk, 4, none⟩ = some (.slice a n cap)) (hn : 250 ≤ n) (hm : n ≤ 1000) (x : Value) :
    Calls Tryz.prog 41 #[.pointer (some ⟨bk, 0, none⟩), x] w fun e w' => e = .returned (.tuple #[]) ∧ w = w' := by
  have t1 : ¬ (n : Int) < 250 := by omega
  have t1n : ¬ n < 250 := by omega
  go_enter Tryz.func41, Tryz.ntmps41
  go_wp2
  go_end0
  exact ⟨rfl, rfl⟩
set_option maxRecDepth 100000 in
set_option maxHeartbeats 1000000 in
theorem full_Leases {w : World} {bk n cap : Nat} {a : Option Addr} (c0 : w.cell? ⟨bk, 20, none⟩ = some (.slice a n cap)) (hn : 250 ≤ n) (hm : n ≤ 1000) (x : Value) :
    Calls Tryz.prog 47 #[.pointer (some ⟨bk, 0, none⟩), x] w fun e w' => e = .returned (.tuple #[]) ∧ w = w' := by
  have t1 : ¬ (n : Int) < 250 := by omega
  have t1n : ¬ n < 250 := by omega
  go_enter Tryz.func47, Tryz.ntmps47
  go_wp2
  go_end0
  exact ⟨rfl, rfl⟩
/-- Nothing was kept, for there is no room: the list is at rest all the same. -/
theorem PSt.rest (h : PSt K0 K7 w0 w lb last L rb lr LR bk) {s : Sl} (hsK : ∀ q, s.val.ownBlock = some q → K0 q) : PSt (fun q => K0 q ∧ s.val.ownBlock ≠ some q) (fun q => K7 q ∨ s.val.ownBlock = some q) w0 w lb last L rb lr LR bk := by
  obtain ⟨c, ob, m, lv, M, b, h, e, k0, k7⟩ := h
  have hk : Keeps c (fun q => if s.val.ownBlock = some q then 7 else c q) w := fun q hq => by
    simp only
    split
    · exact .inr ⟨(k0 q (hsK q (by assumption))).2, .inl rfl⟩
    · exact .inl rfl
  refine ⟨_, ob, m, lv, M, b, h.turn (G := fun _ => False) (Tn.refl _ _) hk (fun _ e => e.elim), e, fun q hq => ⟨(k0 q hq.1).1, ?_⟩, fun q hq => ?_⟩
  · rw [if_neg hq.2]; exact (k0 q hq.1).2
  · rcases hq with hq | hq
    · refine ⟨(k7 q hq).1, ?_⟩
      split
      · exact .inl rfl
      · exact (k7 q hq).2
    · exact ⟨(k0 q (hsK q hq)).1, by rw [if_pos hq]; exact .inl rfl⟩
theorem acol_k {c : Nat → Nat} {s : Sl} {v u : Value} {o i : Nat} (hi : 20 ≤ i) (hs : w.heap.size ≤ w'.heap.size) (k0 : ∀ q, K0 q → q < w.heap.size ∧ c q = 0) (k7 : ∀ q, K7 q → q < w.heap.size ∧ Rest (c q)) (hsK : ∀ q, s.val.ownBlock = some q → K0 q) :
    (∀ q, (K0 q ∧ s.val.ownBlock ≠ some q) → q < w'.heap.size ∧ acol c w s v u o i q = 0) ∧ (∀ q, (K7 q ∨ s.val.ownBlock = some q) → q < w'.heap.size ∧ Rest (acol c w s v u o i q)) := by
  refine ⟨fun q hq => ⟨Nat.lt_of_lt_of_le (k0 q hq.1).1 hs, ?_⟩, fun q hq => ?_⟩
  · unfold acol
    rw [if_pos (k0 q hq.1).1, if_neg hq.2]
    exact (k0 q hq.1).2
  · rcases hq with hq | hq
    · refine ⟨Nat.lt_of_lt_of_le (k7 q hq).1 hs, ?_⟩
      unfold acol
      rw [if_pos (k7 q hq).1]
      split
      · exact .inr hi
      · exact (k7 q hq).2
    · have := k0 q (hsK q hq)
      refine ⟨Nat.lt_of_lt_of_le this.1 hs, ?_⟩
      unfold acol
      rw [if_pos this.1, if_pos hq]
      exact .inr hi
theorem tn_k {c : Nat → Nat} {H : Nat → Prop} (ht : Tn H w w') (k0 : ∀ q, K0 q → q < w.heap.size ∧ c q = 0) (k7 : ∀ q, K7 q → q < w.heap.size ∧ Rest (c q)) (hH : ∀ q, H q → c q ≠ 0 ∧ ¬ Rest (c q)) : Tn (fun q => ¬ (K0 q ∨ K7 q)) w w' := ht.mono (fun q hq hk => by
  rcases hk with hk | hk
  · exact (hH q hq).1 (k0 q hk).2
  · exact (hH q hq).2 (k7 q hk).2)
/-- What a list that is kept leaves. -/
def PKept (K0 K7 : Nat → Prop) (w0 w w' : World) (lb : Nat) (last : Int) (L : List Cr) (rb : Nat) (lr : Int) (LR : List Cr) (bk : Nat) (s : Sl) : Prop := PSt (fun q => K0 q ∧ s.val.ownBlock ≠ some q) (fun q => K7 q ∨ s.val.ownBlock = some q) w0 w' lb last L rb lr LR bk ∧ Tn (fun q => ¬ (K0 q ∨ K7 q)) w w'
theorem pst_ints (h : PSt K0 K7 w0 w lb last L rb lr LR bk) {B : Nat} {s : Sl} {l : List Int} (hs : Own kInts w B s.val l) (hB : bk + 1 ≤ B) (hsK : ∀ q, s.val.ownBlock = some q → K0 q) (hl : l.length ≤ 50000) :
    Calls Tryz.prog 15 #[.pointer (some ⟨bk, 0, none⟩), s.val] w fun e w' => e = .returned (.tuple #[]) ∧ PKept K0 K7 w0 w w' lb last L rb lr LR bk s := by
  have hst := h
  obtain ⟨c, ob, m, lv, M, b, h, e, k0, k7⟩ := h
  have hs0 : ∀ q, s.val.ownBlock = some q → q < w.heap.size ∧ c q = 0 := fun q hq => k0 q (hsK q hq)
  have hlb := h.b.ltb
  by_cases hn : b.S0.length < 250
  · refine (add_Ints h.b.k0 (row_mono hs hB) (fun q hq => ?_) hn (by omega) (by omega)).mono ?_
    · have h2 := (hs0 q hq).2
      exact ⟨fun e => by have := h.b.q0.foot (.inl e); omega, fun e => by have := h.b.q0.foot (.inr e); omega⟩
    · rintro e w' ⟨he, v', u', s2, a⟩
      have hk := acol_k (v := v') (u := u') (o := 10) (i := 20) (by decide) a.tn.size k0 k7 hsK
      refine ⟨he, ⟨_, ob, m, lv, M, _, h.add0 a hs0 hn hl, by assumption, hk.1, hk.2⟩, tn_k a.tnO k0 k7 (fun q hq => ?_)⟩
      have h5 : c q = 5 ∨ c q = 10 ∨ c q = 11 ∨ c q = 12 := by
        rcases hq with e | e | e
        · rw [e]; exact .inl h.b.cb
        · exact .inr (.inl (h.b.q0.ov q e))
        · exact .inr (.inl (h.b.q0.ou q e))
      exact ⟨(h.outer h5).2.2.2.2, (h.outer h5).1⟩
  · have hn1 := h.b.n0
    obtain ⟨a, cap, hf⟩ := h.b.k0.l.form
    have c0 := h.b.k0.c0
    rw [hf] at c0
    refine (full_Ints c0 (by omega) (by omega) s.val).mono ?_
    rintro e w' ⟨he, rfl⟩
    exact ⟨he, hst.rest hsK, Tn.refl _ _⟩
theorem pst_vecs (h : PSt K0 K7 w0 w lb last L rb lr LR bk) {B : Nat} {s : Sl} {l : List Int} (hs : Own kVecs w B s.val l) (hB : bk + 1 ≤ B) (hsK : ∀ q, s.val.ownBlock = some q → K0 q) (hl : l.length ≤ 50000) :
    Calls Tryz.prog 41 #[.pointer (some ⟨bk, 0, none⟩), s.val] w fun e w' => e = .returned (.tuple #[]) ∧ PKept K0 K7 w0 w w' lb last L rb lr LR bk s := by
  have hst := h
  obtain ⟨c, ob, m, lv, M, b, h, e, k0, k7⟩ := h
  have hs0 : ∀ q, s.val.ownBlock = some q → q < w.heap.size ∧ c q = 0 := fun q hq => k0 q (hsK q hq)
  have hlb := h.b.ltb
  by_cases hn : b.S1.length < 250
  · refine (add_Vecs h.b.k1 (row_mono hs hB) (fun q hq => ?_) hn (by omega) (by omega)).mono ?_
    · have h2 := (hs0 q hq).2
      exact ⟨fun e => by have := h.b.q1.foot (.inl e); omega, fun e => by have := h.b.q1.foot (.inr e); omega⟩
    · rintro e w' ⟨he, v', u', s2, a⟩
      have hk := acol_k (v := v') (u := u') (o := 11) (i := 21) (by decide) a.tn.size k0 k7 hsK
      refine ⟨he, ⟨_, ob, m, lv, M, _, h.add1 a hs0 hn hl, by assumption, hk.1, hk.2⟩, tn_k a.tnO k0 k7 (fun q hq => ?_)⟩
      have h5 : c q = 5 ∨ c q = 10 ∨ c q = 11 ∨ c q = 12 := by
        rcases hq with e | e | e
        · rw [e]; exact .inl h.b.cb
        · exact .inr (.inr (.inl (h.b.q1.ov q e)))
        · exact .inr (.inr (.inl (h.b.q1.ou q e)))
      exact ⟨(h.outer h5).2.2.2.2, (h.outer h5).1⟩
  · have hn1 := h.b.n1
    obtain ⟨a, cap, hf⟩ := h.b.k1.l.form
    have c0 := h.b.k1.c0
    rw [hf] at c0
    refine (full_Vecs c0 (by omega) (by omega) s.val).mono ?_
    rintro e w' ⟨he, rfl⟩
    exact ⟨he, hst.rest hsK, Tn.refl _ _⟩
theorem pst_vec (h : PSt K0 K7 w0 w lb last L rb lr LR bk) {B : Nat} {s : Sl} {l : List Int} (hs : Own eVec w B s.val l) (hB : bk + 1 ≤ B) (hsK : ∀ q, s.val.ownBlock = some q → K0 q) (hl : l.length ≤ 50000) :
    Calls Tryz.prog 20 #[.pointer (some ⟨bk, 0, none⟩), s.val] w fun e w' => e = .returned (.tuple #[]) ∧ PKept K0 K7 w0 w w' lb last L rb lr LR bk s := by
  have HV := Lib.hid (pst_vecs h hs hB hsK hl)
  clear h hs hB hsK hl
  obtain ⟨sv, hsv⟩ : ∃ sv, s.val = sv := ⟨_, rfl⟩
  obtain ⟨sa, sn, sc, hsl⟩ : ∃ a n c, s.val = .slice a n c := ⟨s.a, s.n, s.cap, rfl⟩
  rw [hsl] at HV ⊢
  go_enter Tryz.func20, Tryz.ntmps20
  go_wp2_with fail
  refine HV.out.mono ?_
  rintro e w1 ⟨rfl, hp⟩
  have HP := Lib.hid hp
  clear hp
  go_wp2
  go_end0
  exact ⟨rfl, HP.out⟩
theorem pst_leases (h : PSt K0 K7 w0 w lb last L rb lr LR bk) {B : Nat} {s : Sl} {l : List Lv} (hs : Own kLeases w B s.val l) (hB : bk + 1 ≤ B) (hsK : ∀ q, s.val.ownBlock = some q → K0 q) (hl : l.length ≤ 50000) (hv : ∀ x ∈ l, RdX (fun q => ¬ K7 q) w x ∧ 1 ≤ x.vs.length ∧ x.vs.length ≤ 8) :
    Calls Tryz.prog 47 #[.pointer (some ⟨bk, 0, none⟩), s.val] w fun e w' => e = .returned (.tuple #[]) ∧ PKept K0 K7 w0 w w' lb last L rb lr LR bk s := by
  have hst := h
  obtain ⟨c, ob, m, lv, M, b, h, e, k0, k7⟩ := h
  have hs0 : ∀ q, s.val.ownBlock = some q → q < w.heap.size ∧ c q = 0 := fun q hq => k0 q (hsK q hq)
  have hlb := h.b.ltb
  have hrd : ∀ x ∈ l, RdX (Fc c w) w x ∧ x.vs.length ≤ 1000000 := fun x hx => by
    refine ⟨(hv x hx).1.imp id ?_, by have := (hv x hx).2.2; omega⟩
    rintro ⟨q, off, ha, hf, hlt, hc⟩
    exact ⟨q, off, ha, fun hq => hf (fun hk => hq.2 (k7 q hk).2), hlt, hc⟩
  by_cases hn : b.S2.length < 250
  · refine (add_Leases h.b.k2 (row_mono hs hB) (fun q hq => ?_) hn (by omega) (by omega) (fun x hx => ?_) (fun x hx => ⟨(hv x hx).2.1, (hrd x hx).2⟩)).mono ?_
    · have h2 := (hs0 q hq).2
      exact ⟨fun e => by have := h.b.q2.foot (.inl e); omega, fun e => by have := h.b.q2.foot (.inr e); omega⟩
    · refine (hrd x hx).1.imp id ?_
      rintro ⟨q, off, ha, hf, hlt, hc⟩
      refine ⟨q, off, ha, ?_, hlt, hc⟩
      rintro (e | e)
      · exact hf ⟨hlt, by rw [e, h.b.cb]; unfold Rest; decide⟩
      · exact hf ⟨hlt, by rw [h.b.q2.ov q e]; unfold Rest; decide⟩
    · rintro e w' ⟨he, v', u', s2, l2, a, hv2⟩
      have hk := acol_k (v := v') (u := u') (o := 12) (i := 22) (by decide) a.tn.size k0 k7 hsK
      have hcore : l2.map core = l.map core := by
        have h1 := a.kd.same
        have h2 := h.b.k2.same
        rw [List.map_append, List.map_append, h2] at h1
        have h3 := List.append_cancel_left h1
        simpa using h3
      refine ⟨he, ⟨_, ob, m, lv, M, _, h.add2 a hv2 (fun y hy => ?_) hs0 hrd hn hl, by assumption, hk.1, hk.2⟩, tn_k a.tnO k0 k7 (fun q hq => ?_)⟩
      · obtain ⟨j, hj, rfl⟩ := List.mem_iff_getElem.1 hy
        have hj2 : j < l.length := by rw [← core_len hcore]; exact hj
        have h5 := core_at hcore hj hj2
        have h6 : l2[j].vs = l[j].vs := congrArg (fun c => c.2.1) h5
        rw [h6]
        exact (hrd _ (List.getElem_mem hj2)).2
      · have h5 : c q = 5 ∨ c q = 10 ∨ c q = 11 ∨ c q = 12 := by
          rcases hq with e | e | e
          · rw [e]; exact .inl h.b.cb
          · exact .inr (.inr (.inr (h.b.q2.ov q e)))
          · exact .inr (.inr (.inr (h.b.q2.ou q e)))
        exact ⟨(h.outer h5).2.2.2.2, (h.outer h5).1⟩
  · have hn1 := h.b.n2
    obtain ⟨a, cap, hf⟩ := h.b.k2.l.form
    have c0 := h.b.k2.c0
    rw [hf] at c0
    refine (full_Leases c0 (by omega) (by omega) s.val).mono ?_
    rintro e w' ⟨he, rfl⟩
    exact ⟨he, hst.rest hsK, Tn.refl _ _⟩
theorem pst_apart (h : PSt K0 K7 w0 w lb last L rb lr LR bk) : Calls Tryz.prog 24 #[.pointer (some ⟨bk, 0, none⟩)] w fun e w' => e = .returned (.bool true) ∧ Below w0.heap.size w0 w' := by
  obtain ⟨c, ob, m, lv, M, b, h, e, k0, k7⟩ := h
  have hlb := h.b.ltb
  refine (apart_any (B := bk + 1) (by omega) (by omega) h.b.an h.b.k0 h.b.k1 h.b.k2 (fun i hi x hx => ⟨(h.b.rd b.S2[i] (.inl (List.getElem_mem hi)) x hx).1.rd, (h.b.rd b.S2[i] (.inl (List.getElem_mem hi)) x hx).2⟩) (fun i hi x hx => (h.b.rd b.T2[i] (.inr (List.getElem_mem hi)) x hx).1.rd) (fun q h1 h2 => ?_) (fun q h1 h2 => ?_) (fun q h1 h2 => ?_) h.b.n0 h.b.l0 h.b.n1 h.b.l1 h.b.n2 h.b.l2).mono ?_
  · have := h.b.q0.foot (.inl h1); have := h.b.q1.foot (.inl h2); omega
  · have := h.b.q0.foot (.inl h1); have := h.b.q2.foot (.inl h2); omega
  · have := h.b.q1.foot (.inl h1); have := h.b.q2.foot (.inl h2); omega
  · rintro e w' ⟨he, ht⟩
    refine ⟨he, h.bel' ht (fun q hq => ?_)⟩
    rcases hq with hq | hq | hq
    · have := h.b.q0.foot (.inl hq); omega
    · have := h.b.q1.foot (.inl hq); omega
    · have := h.b.q2.foot (.inl hq); omega

/-- A vector that is lent: one cell more stands behind it. -/
theorem lent_any {a : Option Addr} {n c : Nat} {vs : List Int} (hs : Src eVec w (.slice a n c) vs) (hn : vs.length = n) (hl : n ≤ 1000000) : Calls Tryz.prog 6 #[.slice a n c] w fun e w' =>
    ∃ g cap, e = .returned (.slice (some ⟨g, 0, none⟩) n cap) ∧ Own eVec w' w.heap.size (.slice (some ⟨g, 0, none⟩) (n + 1) cap) (vs ++ [-77]) ∧ n + 1 ≤ cap ∧ cap ≤ 9223372036854775807 ∧ Below w.heap.size w w' := by
  have HS := Lib.hid hs
  have HN : Hid (([] : List Int).length + vs.length = n) := by unfold Hid; rw [hn]; simp
  have HN2 := Lib.hid hn
  clear hs hn
  go_enter Tryz.func6, Tryz.ntmps6
  go_wp2_with (first
    | (at_builtin; refine wpl_app eVec rfl _ _ rfl rfl rfl (l := vs) (l2 := [-77]) (B := w.heap.size) (row_below H3.out.1 ((Below.refl _ _).alloc (Nat.le_refl _) _)) (src_one w3 (-77 : Int) _ _ rfl 1) (by rw [HN2.out]; simp; omega) (by have := H3.out.2.size; simp; omega) ?_; rw [HN2.out]; intro a5 cap5 w5 ho5 hb5 _ _
       obtain ⟨g, rfl⟩ : ∃ g, a5 = some ⟨g, 0, none⟩ := (by
         rcases ho5.2 with ⟨e, e0⟩ | ⟨g, c', cur, e, _⟩
         · simp at e0
         · injection e with e1 _ _; exact ⟨g, e1⟩)
       have hcap : n + 1 ≤ cap5 ∧ cap5 ≤ 9223372036854775807 := (by
         obtain ⟨a', c', e, h1, h2⟩ := row_form ho5
         injection e with _ _ e3
         rw [List.length_append, HN2.out] at h1
         subst e3
         exact ⟨h1, h2⟩)
       have hc1 := hcap.1
       have hc2 := hcap.2
       have H5 := Lib.hid (And.intro ho5 ((H3.out.2.alloc H3.out.2.size (.cells #[.int .i64 (-77)] 3)).trans hb5)); clear ho5 hb5 hcap)
    | (at_builtin; refine wpl_app eVec (l := []) rfl _ _ rfl rfl rfl (World.ownsRow_nil _ w.heap.size _ _) HS.out (by rw [HN.out]; omega) (Nat.le_refl _) ?_; rw [HN.out, List.nil_append]; intro a3 cap3 w3 ho3 hb3 _ _; have H3 := Lib.hid (And.intro ho3 hb3); clear ho3 hb3))
  go_ret
  refine ⟨g, cap5, rfl, ?_, hc1, hc2, H5.out.2⟩
  exact H5.out.1
set_option maxRecDepth 100000 in
theorem stays_any {g n cap cb : Nat} {vs : List Int} {ao : Option Addr} (hx : RdI w (.slice (some ⟨g, 0, none⟩) n cap) vs) (hy : RdI w (.slice ao n cb) vs) (hc : w.cell? ⟨g, n, none⟩ = some (.int .i64 (-77))) (hcap : n + 1 ≤ cap) (hc2 : cap ≤ 9223372036854775807) (hl : n ≤ 1000000) : Calls Tryz.prog 9 #[.slice (some ⟨g, 0, none⟩) n cap, .slice ao n cb] w fun e w' => e = .returned (.bool true) ∧ Below w.heap.size w w' := by
  have hvl : vs.length = n := by
    obtain ⟨a', c', e, _⟩ := hx
    injection e with _ e2 _
    exact e2.symm
  have hS := Lib.hid (same_any hx hy (by omega))
  have e1 : IntKind.i64.wrap ((n : Int) + 1) = (n : Int) + 1 := IntWalk.i64_in _ (by omega)
  have e2 : IntKind.i64.wrap (n : Int) = (n : Int) := IntWalk.i64_in _ (by omega)
  have b3 : ((n : Int) + 1) ≤ (cap : Int) := by omega
  have b4 : 0 ≤ (n : Int) + 1 := by omega
  have b5 : ((n : Int) + 1).toNat = n + 1 := by omega
  have b6 : (n : Int) < (n : Int) + 1 := by omega
  have hlt := World.block_lt_of_cell? _ _ hc
  clear hx hy hvl
  go_enter Tryz.func9, Tryz.ntmps9
  go_wp2_with (go_at_call 25; refine hS.out.mono ?_; rintro e w3 ⟨rfl, hb3⟩; have d3 := (hb3.cell (p := ⟨g, n, none⟩) hlt).trans hc; have H3 := Lib.hid hb3; clear hb3)
  go_ret
  exact ⟨rfl, H3.out⟩
end Go.Proofs.YtnegappgdpeabaaGreat
