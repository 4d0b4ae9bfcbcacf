/-
  The law SkipPlays: the list, the document's list and the book, apart; each call.
-/
import Derived.Test.YtmodgjjlgobjcaaGreatRfD
import Derived.Test.YtmodgjjlgobjcaaGreatApartIK
namespace Go.Proofs.YtmodgjjlgobjcaaGreat
open Go.RowKit

def IFoot (v0 u0 : Value) (S0 T0 : List (Sl × List Int)) (q : Nat) : Prop := footL v0 S0 q ∨ footL u0 T0 q
def KFoot (v1 u1 : Value) (S1 T1 : List (Sl × List KV)) (q : Nat) : Prop := footL v1 S1 q ∨ footL u1 T1 q

structure PIn (w0 w : World) (sb rb bk : Nat) (E : List Nd) (fr : Bool) (E2 : List Nd) (fr2 : Bool) (F : Nat → Prop) (lv v0 u0 : Value) (S0 T0 : List (Sl × List Int)) (v1 u1 : Value) (S1 T1 : List (Sl × List KV)) : Prop where
  sk : SAt w F sb E fr
  rf : RfAt w rb lv (rb + 1) E2 fr2
  ki : Kd kInts kIntsS w bk 2 (bk + 1) v0 u0 S0 T0
  kk : Kd eKV eSl w bk 6 (bk + 1) v1 u1 S1 T1
  an : ApN bk w
  dsr : ∀ q, F q → ¬ RFoot rb lv q
  dsb : ∀ q, F q → ¬ (q = bk ∨ IFoot v0 u0 S0 T0 q ∨ KFoot v1 u1 S1 T1 q)
  drb : ∀ q, RFoot rb lv q → ¬ (q = bk ∨ IFoot v0 u0 S0 T0 q ∨ KFoot v1 u1 S1 T1 q)
  dik : ∀ q, IFoot v0 u0 S0 T0 q → ¬ KFoot v1 u1 S1 T1 q
  fs : ∀ q, F q → w0.heap.size ≤ q
  fr_ : ∀ q, RFoot rb lv q → w0.heap.size ≤ q
  fb : ∀ q, (q = bk ∨ IFoot v0 u0 S0 T0 q ∨ KFoot v1 u1 S1 T1 q) → w0.heap.size ≤ q
  bel : Below w0.heap.size w0 w
  n1 : S1.length ≤ 250
  l1 : ∀ i (hi : i < S1.length), S1[i].2.length ≤ 1000

section
variable {w0 w w' : World} {sb rb bk : Nat} {E E2 : List Nd} {fr fr2 : Bool} {F : Nat → Prop} {lv v0 u0 : Value} {S0 T0 : List (Sl × List Int)} {v1 u1 : Value} {S1 T1 : List (Sl × List KV)}
theorem PIn.blt (h : PIn w0 w sb rb bk E fr E2 fr2 F lv v0 u0 S0 T0 v1 u1 S1 T1) : ∀ q, (q = bk ∨ IFoot v0 u0 S0 T0 q ∨ KFoot v1 u1 S1 T1 q) → q < w.heap.size := by
  rintro q (rfl | (hq | hq) | (hq | hq))
  · exact World.block_lt_of_cell? w _ h.ki.c0
  · exact (h.ki.l.lt hq).2
  · exact (h.ki.lw.lt hq).2
  · exact (h.kk.l.lt hq).2
  · exact (h.kk.lw.lt hq).2
theorem PIn.skip (h : PIn w0 w sb rb bk E fr E2 fr2 F lv v0 u0 S0 T0 v1 u1 S1 T1) {F' : Nat → Prop} {E' : List Nd} {fr' : Bool} (hs : SAt w' F' sb E' fr') (ht : Tn F w w') (hF : ∀ q, F' q → F q ∨ w.heap.size ≤ q) : PIn w0 w' sb rb bk E' fr' E2 fr2 F' lv v0 u0 S0 T0 v1 u1 S1 T1 := by
  have hbk : ¬ F bk := fun hf => h.dsb bk hf (.inl rfl)
  refine ⟨hs, h.rf.turn ht (fun q hq hf => h.dsr q hf hq), h.ki.tn ht hbk (fun q hq hf => h.dsb q hf (.inr (.inl hq))), h.kk.tn ht hbk (fun q hq hf => h.dsb q hf (.inr (.inr hq))), fun o h1 h2 h3 h4 h5 => ht.cell (h.an o h1 h2 h3 h4 h5) hbk, fun q hq hr => ?_, fun q hq hb => ?_, h.drb, h.dik, fun q hq => ?_, h.fr_, h.fb, h.bel.trans (ht.below h.bel.size h.fs), h.n1, h.l1⟩
  · rcases hF q hq with h1 | h1
    · exact h.dsr q h1 hr
    · have := h.rf.lt q hr; omega
  · rcases hF q hq with h1 | h1
    · exact h.dsb q h1 hb
    · have := h.blt q hb; omega
  · rcases hF q hq with h1 | h1
    · exact h.fs q h1
    · have := h.bel.size; omega
theorem PIn.ref (h : PIn w0 w sb rb bk E fr E2 fr2 F lv v0 u0 S0 T0 v1 u1 S1 T1) {lv' : Value} {E' : List Nd} {fr' : Bool} (hs : RfAt w' rb lv' (rb + 1) E' fr') (ht : Tn (RFoot rb lv) w w') (hF : ∀ q, lv'.ownBlock = some q → lv.ownBlock = some q ∨ w.heap.size ≤ q) : PIn w0 w' sb rb bk E fr E' fr' F lv' v0 u0 S0 T0 v1 u1 S1 T1 := by
  have hbk : ¬ RFoot rb lv bk := fun hf => h.drb bk hf (.inl rfl)
  have hR : ∀ q, RFoot rb lv' q → RFoot rb lv q ∨ w.heap.size ≤ q := fun q hq => by
    rcases hq with hq | hq
    · exact .inl (.inl hq)
    · exact (hF q hq).imp .inr id
  refine ⟨h.sk.turn ht h.dsr, hs, h.ki.tn ht hbk (fun q hq hf => h.drb q hf (.inr (.inl hq))), h.kk.tn ht hbk (fun q hq hf => h.drb q hf (.inr (.inr hq))), fun o h1 h2 h3 h4 h5 => ht.cell (h.an o h1 h2 h3 h4 h5) hbk, fun q hq hr => ?_, h.dsb, fun q hq hb => ?_, h.dik, h.fs, fun q hq => ?_, h.fb, h.bel.trans (ht.below h.bel.size h.fr_), h.n1, h.l1⟩
  · rcases hR q hr with h1 | h1
    · exact h.dsr q hq h1
    · have := h.sk.lt q hq; omega
  · rcases hR q hq with h1 | h1
    · exact h.drb q h1 hb
    · have := h.blt q hb; omega
  · rcases hR q hq with h1 | h1
    · exact h.fr_ q h1
    · have := h.bel.size; omega
theorem PIn.below (h : PIn w0 w sb rb bk E fr E2 fr2 F lv v0 u0 S0 T0 v1 u1 S1 T1) (hb : Below w.heap.size w w') : PIn w0 w' sb rb bk E fr E2 fr2 F lv v0 u0 S0 T0 v1 u1 S1 T1 :=
  h.skip (h.sk.below hb) (Tn.ofBelow hb) (fun q hq => .inl hq)
theorem kd_other {P : Program} {T E TS : TypeId} {k by_ : Nat} {α : Type} {cell : α → List Value} {e : Elm P T E k by_ cell} {eS : Elm P TS T 1 24 sCell} {w w' : World} {bk off B : Nat} {vo vw : Value} {S Sw : List (Sl × List α)} (h : Kd e eS w bk off B vo vw S Sw) {G : Nat → Prop} (ht : Tn G w w')
    (hc0 : w'.cell? ⟨bk, off, none⟩ = w.cell? ⟨bk, off, none⟩) (hc1 : w'.cell? ⟨bk, off + 1, none⟩ = w.cell? ⟨bk, off + 1, none⟩) (hf : ∀ j, w'.frozen? ⟨bk, j, none⟩ = false) (hG : ∀ q, footL vo S q ∨ footL vw Sw q → ¬ G q) : Kd e eS w' bk off B vo vw S Sw :=
  ⟨hc0.trans h.c0, hc1.trans h.c1, h.l.tn ht (fun q hq => hG q (.inl hq)), h.lw.tn ht (fun q hq => hG q (.inr hq)), h.same, h.apart, h.bk0, hf⟩
theorem PIn.keys (h : PIn w0 w sb rb bk E fr E2 fr2 F lv v0 u0 S0 T0 v1 u1 S1 T1) {s s2 : Sl} {l : List KV} {v1' u1' : Value} (ha : Added eKV eSl w w' bk 6 (bk + 1) v1 u1 S1 T1 s l v1' u1' s2) (hx : ∀ q, s.val.ownBlock = some q → ¬ F q ∧ ¬ RFoot rb lv q ∧ ¬ (q = bk ∨ IFoot v0 u0 S0 T0 q ∨ KFoot v1 u1 S1 T1 q) ∧ w0.heap.size ≤ q)
    (hn : S1.length < 250) (hl : l.length ≤ 1000) : PIn w0 w' sb rb bk E fr E2 fr2 F lv v0 u0 S0 T0 v1' u1' (S1 ++ [(s, l)]) (T1 ++ [(s2, l)]) := by
  have ht := ha.tn
  have hG : ∀ q, (q = bk ∨ footL v1 S1 q ∨ footL u1 T1 q) → (q = bk ∨ IFoot v0 u0 S0 T0 q ∨ KFoot v1 u1 S1 T1 q) := fun q hq => hq.imp id .inr
  have hK : ∀ q, KFoot v1' u1' (S1 ++ [(s, l)]) (T1 ++ [(s2, l)]) q → KFoot v1 u1 S1 T1 q ∨ s.val.ownBlock = some q ∨ w.heap.size ≤ q := fun q hq => by
    rcases ha.foot q hq with h1 | h1 | h1 | h1
    · exact .inl (.inl h1)
    · exact .inl (.inr h1)
    · exact .inr (.inl h1)
    · exact .inr (.inr h1)
  refine ⟨h.sk.turn ht (fun q hq hg => h.dsb q hq (hG q hg)), h.rf.turn ht (fun q hq hg => h.drb q hq (hG q hg)), kd_other h.ki ht (ha.other 2 (by decide) (by decide)) (ha.other 3 (by decide) (by decide)) ha.kd.free (fun q hq hg => ?_), ha.kd, fun o h1 h2 h3 h4 h5 => (ha.other o h4 h5).trans (h.an o h1 h2 h3 h4 h5), h.dsr, fun q hq hb => ?_, fun q hq hb => ?_, fun q hq hb => ?_, h.fs, h.fr_, fun q hq => ?_, h.bel.trans (ht.below h.bel.size (fun q hq => h.fb q (hG q hq))), ?_, fun i hi => ?_⟩
  · rcases hg with hg | hg
    · rcases hq with hq | hq
      · have := (h.ki.l.lt hq).1; omega
      · have := (h.ki.lw.lt hq).1; omega
    · exact h.dik q hq hg
  · rcases hb with hb | hb | hb
    · exact h.dsb q hq (.inl hb)
    · exact h.dsb q hq (.inr (.inl hb))
    · rcases hK q hb with h1 | h1 | h1
      · exact h.dsb q hq (.inr (.inr h1))
      · exact (hx q h1).1 hq
      · have := h.sk.lt q hq; omega
  · rcases hb with hb | hb | hb
    · exact h.drb q hq (.inl hb)
    · exact h.drb q hq (.inr (.inl hb))
    · rcases hK q hb with h1 | h1 | h1
      · exact h.drb q hq (.inr (.inr h1))
      · exact (hx q h1).2.1 hq
      · have := h.rf.lt q hq; omega
  · rcases hK q hb with h1 | h1 | h1
    · exact h.dik q hq h1
    · exact (hx q h1).2.2.1 (.inr (.inl hq))
    · have := h.blt q (.inr (.inl hq)); omega
  · rcases hq with hb | hb | hb
    · exact h.fb q (.inl hb)
    · exact h.fb q (.inr (.inl hb))
    · rcases hK q hb with h1 | h1 | h1
      · exact h.fb q (.inr (.inr h1))
      · exact (hx q h1).2.2.2
      · have := h.bel.size; omega
  · rw [List.length_append]; simp; omega
  · rcases Nat.lt_or_ge i S1.length with h1 | h1
    · rw [List.getElem_append_left h1]; exact h.l1 i h1
    · have hi' : i = S1.length := by rw [List.length_append] at hi; simp at hi; omega
      subst hi'
      rw [List.getElem_append_right (Nat.le_refl _)]
      simpa using hl
theorem PIn.ints (h : PIn w0 w sb rb bk E fr E2 fr2 F lv v0 u0 S0 T0 v1 u1 S1 T1) {s s2 : Sl} {l : List Int} {v0' u0' : Value} (ha : Added kInts kIntsS w w' bk 2 (bk + 1) v0 u0 S0 T0 s l v0' u0' s2) (hx : ∀ q, s.val.ownBlock = some q → ¬ F q ∧ ¬ RFoot rb lv q ∧ ¬ (q = bk ∨ IFoot v0 u0 S0 T0 q ∨ KFoot v1 u1 S1 T1 q) ∧ w0.heap.size ≤ q) :
    PIn w0 w' sb rb bk E fr E2 fr2 F lv v0' u0' (S0 ++ [(s, l)]) (T0 ++ [(s2, l)]) v1 u1 S1 T1 := by
  have ht := ha.tn
  have hG : ∀ q, (q = bk ∨ footL v0 S0 q ∨ footL u0 T0 q) → (q = bk ∨ IFoot v0 u0 S0 T0 q ∨ KFoot v1 u1 S1 T1 q) := fun q hq => hq.imp id .inl
  have hK : ∀ q, IFoot v0' u0' (S0 ++ [(s, l)]) (T0 ++ [(s2, l)]) q → IFoot v0 u0 S0 T0 q ∨ s.val.ownBlock = some q ∨ w.heap.size ≤ q := fun q hq => by
    rcases ha.foot q hq with h1 | h1 | h1 | h1
    · exact .inl (.inl h1)
    · exact .inl (.inr h1)
    · exact .inr (.inl h1)
    · exact .inr (.inr h1)
  refine ⟨h.sk.turn ht (fun q hq hg => h.dsb q hq (hG q hg)), h.rf.turn ht (fun q hq hg => h.drb q hq (hG q hg)), ha.kd, kd_other h.kk ht (ha.other 6 (by decide) (by decide)) (ha.other 7 (by decide) (by decide)) ha.kd.free (fun q hq hg => ?_), fun o h1 h2 h3 h4 h5 => (ha.other o h2 h3).trans (h.an o h1 h2 h3 h4 h5), h.dsr, fun q hq hb => ?_, fun q hq hb => ?_, fun q hb hq => ?_, h.fs, h.fr_, fun q hq => ?_, h.bel.trans (ht.below h.bel.size (fun q hq => h.fb q (hG q hq))), h.n1, h.l1⟩
  · rcases hg with hg | hg
    · rcases hq with hq | hq
      · have := (h.kk.l.lt hq).1; omega
      · have := (h.kk.lw.lt hq).1; omega
    · exact h.dik q hg hq
  · rcases hb with hb | hb | hb
    · exact h.dsb q hq (.inl hb)
    · rcases hK q hb with h1 | h1 | h1
      · exact h.dsb q hq (.inr (.inl h1))
      · exact (hx q h1).1 hq
      · have := h.sk.lt q hq; omega
    · exact h.dsb q hq (.inr (.inr hb))
  · rcases hb with hb | hb | hb
    · exact h.drb q hq (.inl hb)
    · rcases hK q hb with h1 | h1 | h1
      · exact h.drb q hq (.inr (.inl h1))
      · exact (hx q h1).2.1 hq
      · have := h.rf.lt q hq; omega
    · exact h.drb q hq (.inr (.inr hb))
  · rcases hK q hb with h1 | h1 | h1
    · exact h.dik q h1 hq
    · exact (hx q h1).2.2.1 (.inr (.inr hq))
    · have := h.blt q (.inr (.inr hq)); omega
  · rcases hq with hb | hb | hb
    · exact h.fb q (.inl hb)
    · rcases hK q hb with h1 | h1 | h1
      · exact h.fb q (.inr (.inl h1))
      · exact (hx q h1).2.2.2
      · have := h.bel.size; omega
    · exact h.fb q (.inr (.inr hb))
/-- What is new is apart. -/
theorem PIn.fresh (h : PIn w0 w sb rb bk E fr E2 fr2 F lv v0 u0 S0 T0 v1 u1 S1 T1) {q : Nat} (hq : w.heap.size ≤ q) : ¬ F q ∧ ¬ RFoot rb lv q ∧ ¬ (q = bk ∨ IFoot v0 u0 S0 T0 q ∨ KFoot v1 u1 S1 T1 q) ∧ w0.heap.size ≤ q :=
  ⟨fun hf => by have := h.sk.lt q hf; omega, fun hf => by have := h.rf.lt q hf; omega, fun hf => by have := h.blt q hf; omega, by have := h.bel.size; omega⟩

theorem nil_foot {α : Type} {q : Nat} (h : footL (.slice none 0 0) ([] : List (Sl × List α)) q) : False := by
  rcases h with h | ⟨i, hi, _⟩
  · cases h
  · simp at hi
/-- The list, the document's list and the book, nothing of numbers in it. -/
def PSt (K : Nat → Prop) (w0 w : World) (sb rb bk : Nat) (E : List Nd) (fr : Bool) (E2 : List Nd) (fr2 : Bool) : Prop := ∃ F lv v1 u1 S1 T1, PIn w0 w sb rb bk E fr E2 fr2 F lv (.slice none 0 0) (.slice none 0 0) [] [] v1 u1 S1 T1 ∧ ∀ q, K q → q < w.heap.size ∧ ¬ F q ∧ ¬ RFoot rb lv q ∧ ¬ (q = bk ∨ IFoot (.slice none 0 0) (.slice none 0 0) [] [] q ∨ KFoot v1 u1 S1 T1 q)
variable {K : Nat → Prop} (h : PSt K w0 w sb rb bk E fr E2 fr2)
include h
theorem PSt.below (hb : Below w.heap.size w w') : PSt K w0 w' sb rb bk E fr E2 fr2 := by
  obtain ⟨F, lv, v1, u1, S1, T1, h, hK⟩ := h
  exact ⟨F, lv, v1, u1, S1, T1, h.below hb, fun q hq => ⟨Nat.lt_of_lt_of_le (hK q hq).1 hb.size, (hK q hq).2⟩⟩
theorem PSt.bel : Below w0.heap.size w0 w := by
  obtain ⟨F, lv, v1, u1, S1, T1, h, hK⟩ := h
  exact h.bel
theorem pst_put (k v : ByteArray) (hh : Int) (hlen : E.length < 100000) :
    Calls Tryz.prog 6 #[.pointer (some ⟨sb, 0, none⟩), .string k, .string v, .int .i64 hh] w fun e w' => e = .returned (.int .i64 (putE E fr k v)) ∧ PSt K w0 w' sb rb bk (putL E fr k v hh) fr E2 fr2 ∧ Below w0.heap.size w w' ∧ Tn (fun q => ¬ K q) w w' := by
  obtain ⟨F, lv, v1, u1, S1, T1, h, hK⟩ := h
  refine (put_s h.sk k v hh hlen).mono ?_
  rintro e w' ⟨he, F', hs, ht, hF⟩
  exact ⟨he, ⟨F', lv, v1, u1, S1, T1, h.skip hs ht hF, fun q hq => ⟨Nat.lt_of_lt_of_le (hK q hq).1 ht.size, fun hf => (hF q hf).elim (hK q hq).2.1 (fun e => by have := (hK q hq).1; omega), (hK q hq).2.2⟩⟩, ht.below h.bel.size h.fs, ht.mono (fun q hf hk => (hK q hk).2.1 hf)⟩
theorem pst_rput (k v : ByteArray) (hh : Int) (hk : k.size ≤ 1000000) (hv : v.size ≤ 1000000) (hlen : E2.length < 100000) :
    Calls Tryz.prog 7 #[.pointer (some ⟨rb, 0, none⟩), .string k, .string v, .int .i64 hh] w fun e w' => e = .returned (.int .i64 (putE E2 fr2 k v)) ∧ PSt K w0 w' sb rb bk E fr (putL E2 fr2 k v hh) fr2 ∧ Below w0.heap.size w w' ∧ Tn (fun q => ¬ K q) w w' := by
  obtain ⟨F, lv, v1, u1, S1, T1, h, hK⟩ := h
  have hrb : rb < w.heap.size := h.rf.lt rb (.inl rfl)
  refine (rput_any h.rf k v hk hv hh (by omega) hlen).mono ?_
  rintro e w' ⟨he, lv', hs, ht, hF⟩
  have ht2 : Tn (RFoot rb lv) w w' := ht.mono (fun q hq => .inl hq)
  exact ⟨he, ⟨F, lv', v1, u1, S1, T1, h.ref hs ht2 hF, fun q hq => ⟨Nat.lt_of_lt_of_le (hK q hq).1 ht.size, (hK q hq).2.1, fun hr => hr.elim (fun e => (hK q hq).2.2.1 (.inl e)) (fun e => (hF q e).elim (fun e2 => (hK q hq).2.2.1 (.inr e2)) (fun e2 => by have := (hK q hq).1; omega)), (hK q hq).2.2.2⟩⟩, ht2.below h.bel.size h.fr_, ht2.mono (fun q hf hk => (hK q hk).2.2.1 hf)⟩
theorem pst_freeze : Calls Tryz.prog 16 #[.pointer (some ⟨sb, 0, none⟩)] w fun e w' => e = .returned (.tuple #[]) ∧ PSt K w0 w' sb rb bk E true E2 fr2 ∧ Below w0.heap.size w w' ∧ Tn (fun q => ¬ K q) w w' := by
  obtain ⟨F, lv, v1, u1, S1, T1, h, hK⟩ := h
  refine (freeze_s h.sk).mono ?_
  rintro e w' ⟨he, hs, ht⟩
  exact ⟨he, ⟨F, lv, v1, u1, S1, T1, h.skip hs ht (fun q hq => .inl hq), fun q hq => ⟨Nat.lt_of_lt_of_le (hK q hq).1 ht.size, (hK q hq).2⟩⟩, ht.below h.bel.size h.fs, ht.mono (fun q hf hk => (hK q hk).2.1 hf)⟩
theorem pst_rfreeze : PSt K w0 (w.setCell ⟨rb, 1, none⟩ (.bool true)) sb rb bk E fr E2 true := by
  obtain ⟨F, lv, v1, u1, S1, T1, h, hK⟩ := h
  have ht : Tn (RFoot rb lv) w (w.setCell ⟨rb, 1, none⟩ (.bool true)) := Tn.setCell _ _ _ (.inl rfl)
  have hne : ∀ q, lv.ownBlock = some q → ¬ (q = rb) := fun q hq e => by have := (h.rf.row.lt q hq).1; omega
  refine ⟨F, lv, v1, u1, S1, T1, h.ref ⟨?_, World.cell?_setCell_same _ _ _ h.rf.c1, fun j => by rw [World.frozen?_setCell]; exact h.rf.fz j, ?_, h.rf.rb0, h.rf.len, h.rf.sorted, h.rf.keys, h.rf.hts⟩ ht (fun q hq => .inl hq), fun q hq => ⟨Nat.lt_of_lt_of_le (hK q hq).1 ht.size, (hK q hq).2⟩⟩
  · rw [World.cell?_setCell_other _ _ _ _ (by intro e; injection e with _ e2; omega)]
    exact h.rf.c0
  · exact (Tn.setCell (F := fun q => q = rb) w ⟨rb, 1, none⟩ _ rfl).row h.rf.row hne
theorem pst_rcells : ∃ a cap, w.cell? ⟨rb, 0, none⟩ = some (.slice a E2.length cap) ∧ w.cell? ⟨rb, 1, none⟩ = some (.bool fr2) ∧ ∀ j, w.frozen? ⟨rb, j, none⟩ = false := by
  obtain ⟨F, lv, v1, u1, S1, T1, h, hK⟩ := h
  obtain ⟨a, cap, rfl⟩ := rf_form h.rf
  exact ⟨a, cap, h.rf.c0, h.rf.c1, h.rf.fz⟩
theorem pst_get (k : ByteArray) : Calls Tryz.prog 8 #[.pointer (some ⟨sb, 0, none⟩), .string k] w fun e w' => e = .returned (.tuple #[.string (getOf E k).1, .int .i64 (getOf E k).2]) ∧ Below w.heap.size w w' := by
  obtain ⟨F, lv, v1, u1, S1, T1, h, hK⟩ := h
  exact get_s h.sk k
theorem pst_rget (k : ByteArray) (hk : k.size ≤ 1000000) : Calls Tryz.prog 9 #[.pointer (some ⟨rb, 0, none⟩), .string k] w fun e w' => e = .returned (.tuple #[.string (getOf E2 k).1, .int .i64 (getOf E2 k).2]) ∧ Below w.heap.size w w' := by
  obtain ⟨F, lv, v1, u1, S1, T1, h, hK⟩ := h
  exact rget_any h.rf k hk
theorem pst_last (k : ByteArray) : Calls Tryz.prog 14 #[.pointer (some ⟨sb, 0, none⟩), .string k] w fun e w' => e = .returned (.tuple #[.string (lastOf E k).1, .string (lastOf E k).2.1, .bool (lastOf E k).2.2]) ∧ Below w.heap.size w w' := by
  obtain ⟨F, lv, v1, u1, S1, T1, h, hK⟩ := h
  exact last_s h.sk k
theorem pst_before (k : ByteArray) (hk : k.size ≤ 1000000) : Calls Tryz.prog 15 #[.pointer (some ⟨rb, 0, none⟩), .string k] w fun e w' => e = .returned (.tuple #[.string (lastOf E2 k).1, .string (lastOf E2 k).2.1, .bool (lastOf E2 k).2.2]) ∧ Below w.heap.size w w' := by
  obtain ⟨F, lv, v1, u1, S1, T1, h, hK⟩ := h
  exact rbefore_any h.rf k hk
theorem pst_steps (k : ByteArray) : Calls Tryz.prog 17 #[.pointer (some ⟨sb, 0, none⟩), .string k] w fun e w' => e = .returned (.int .i64 (stepsOf E k)) ∧ w = w' := by
  obtain ⟨F, lv, v1, u1, S1, T1, h, hK⟩ := h
  exact steps_s h.sk k
theorem pst_rsteps (k : ByteArray) (hk : k.size ≤ 1000000) : Calls Tryz.prog 18 #[.pointer (some ⟨rb, 0, none⟩), .string k] w fun e w' => e = .returned (.int .i64 (stepsOf E2 k)) ∧ Below w.heap.size w w' := by
  obtain ⟨F, lv, v1, u1, S1, T1, h, hK⟩ := h
  exact rsteps_any h.rf k hk
theorem pst_count : Calls Tryz.prog 19 #[.pointer (some ⟨sb, 0, none⟩)] w fun e w' => e = .returned (.int .i64 (E.length : Int)) ∧ w = w' := by
  obtain ⟨F, lv, v1, u1, S1, T1, h, hK⟩ := h
  exact count_s h.sk
theorem pst_frozen : Calls Tryz.prog 20 #[.pointer (some ⟨sb, 0, none⟩)] w fun e w' => e = .returned (.bool fr) ∧ w = w' := by
  obtain ⟨F, lv, v1, u1, S1, T1, h, hK⟩ := h
  exact frozen_s h.sk
theorem pst_from (k : ByteArray) (most : Int) (hm0 : -9223372036854775808 ≤ most) (hm1 : most ≤ 9223372036854775807) : Calls Tryz.prog 10 #[.pointer (some ⟨sb, 0, none⟩), .string k, .int .i64 most] w fun e w' =>
      ∃ s : Sl, e = .returned s.val ∧ Own eKV w' w.heap.size s.val (fromOf E k most) ∧ Below w.heap.size w w' := by
  obtain ⟨F, lv, v1, u1, S1, T1, h, hK⟩ := h
  refine (from_s h.sk k most hm0 hm1).mono ?_
  rintro e w' ⟨v, he, ho, hb⟩
  have ho2 : Own eKV w' w.heap.size v (fromOf E k most) := ho
  obtain ⟨a, c, rfl, _, _⟩ := row_form ho2
  exact ⟨⟨a, _, c⟩, he, ho2, hb⟩
theorem pst_rfrom (k : ByteArray) (hk : k.size ≤ 1000000) (most : Int) (hm0 : -9223372036854775808 ≤ most) (hm1 : most ≤ 9223372036854775807) : Calls Tryz.prog 13 #[.pointer (some ⟨rb, 0, none⟩), .string k, .int .i64 most] w fun e w' =>
      ∃ v, e = .returned v ∧ Own eKV w' w.heap.size v (fromOf E2 k most) ∧ Below w.heap.size w w' := by
  obtain ⟨F, lv, v1, u1, S1, T1, h, hK⟩ := h
  exact rfrom_any h.rf k hk most hm0 hm1
/-- New blocks are kept as well. -/
theorem PSt.more (hb : Below w.heap.size w w') : PSt (fun q => K q ∨ (w.heap.size ≤ q ∧ q < w'.heap.size)) w0 w' sb rb bk E fr E2 fr2 := by
  obtain ⟨F, lv, v1, u1, S1, T1, h, hK⟩ := h
  refine ⟨F, lv, v1, u1, S1, T1, h.below hb, fun q hq => ?_⟩
  rcases hq with hq | ⟨hq, hq2⟩
  · exact ⟨Nat.lt_of_lt_of_le (hK q hq).1 hb.size, (hK q hq).2⟩
  · exact ⟨hq2, (h.fresh hq).1, (h.fresh hq).2.1, (h.fresh hq).2.2.1⟩
theorem PSt.weak {K' : Nat → Prop} (hw : ∀ q, K' q → K q) : PSt K' w0 w sb rb bk E fr E2 fr2 := by
  obtain ⟨F, lv, v1, u1, S1, T1, h, hK⟩ := h
  exact ⟨F, lv, v1, u1, S1, T1, h, fun q hq => hK q (hw q hq)⟩
theorem pst_lanes : Calls Tryz.prog 21 #[.pointer (some ⟨sb, 0, none⟩)] w fun e w' => ∃ s : Sl, e = .returned s.val ∧ Own kInts w' w.heap.size s.val (natI (lanesOf E)) ∧ Below w.heap.size w w' := by
  obtain ⟨F, lv, v1, u1, S1, T1, h, hK⟩ := h
  refine (lanes_s h.sk).mono ?_
  rintro e w' ⟨v, he, ho, hb⟩
  have ho2 : Own kInts w' w.heap.size v (natI (lanesOf E)) := by
    rw [iCells_natI] at ho
    show World.ownsRow _ _ _ _ _ _ _
    rw [show (natI (lanesOf E)).length = (lanesOf E).length by simp [natI]]
    exact ho
  obtain ⟨a, c, rfl, _, _⟩ := row_form ho2
  exact ⟨⟨a, _, c⟩, he, ho2, hb⟩
theorem PSt.drop : PSt (fun _ => False) w0 w sb rb bk E fr E2 fr2 := by
  obtain ⟨F, lv, v1, u1, S1, T1, h, hK⟩ := h
  exact ⟨F, lv, v1, u1, S1, T1, h, fun _ e => e.elim⟩
theorem pst_len : E2.length ≤ 100000 := by
  obtain ⟨F, lv, v1, u1, S1, T1, h, hK⟩ := h
  exact h.rf.len
end

set_option maxRecDepth 100000 in
set_option maxHeartbeats 1000000 in
theorem full_Keys {w : World} {bk n cap : Nat} {a : Option Addr} (c0 : w.cell? ⟨bk, 6, none⟩ = some (.slice a n cap)) (hn : 250 ≤ n) (hm : n ≤ 1000) (x : Value) :
    Calls Tryz.prog 11 #[.pointer (some ⟨bk, 0, none⟩), x] w fun e w' => e = .returned (.tuple #[]) ∧ w = w' := by
  have t1 : ¬ (n : Int) < 250 := by omega
  have t1n : ¬ n < 250 := by omega
  go_enter Tryz.func11, Tryz.ntmps11
  go_wp2
  go_end0
  exact ⟨rfl, rfl⟩

theorem pst_keys {K : Nat → Prop} {w0 w : World} {sb rb bk : Nat} {E E2 : List Nd} {fr fr2 : Bool} (h : PSt K w0 w sb rb bk E fr E2 fr2) {B : Nat} {s : Sl} {l : List KV} (hs : Own eKV w B s.val l) (hsK : ∀ q, s.val.ownBlock = some q → K q ∧ w0.heap.size ≤ q ∧ bk < q) (hl : l.length ≤ 1000) :
    Calls Tryz.prog 11 #[.pointer (some ⟨bk, 0, none⟩), s.val] w fun e w' => e = .returned (.tuple #[]) ∧ PSt (fun q => K q ∧ s.val.ownBlock ≠ some q) w0 w' sb rb bk E fr E2 fr2 ∧ Own eKV w' (bk + 1) s.val l ∧ Below w0.heap.size w w' ∧ Tn (fun q => ¬ K q) w w' := by
  obtain ⟨F, lv, v1, u1, S1, T1, h, hK⟩ := h
  have hbk : bk < w.heap.size := h.blt bk (.inl rfl)
  have hs2 : Own eKV w (bk + 1) s.val l := by
    obtain ⟨g1, g2⟩ := hs
    refine ⟨g1, ?_⟩
    rcases g2 with g2 | ⟨g, cap, cur, hv, hg, r⟩
    · exact .inl g2
    · exact .inr ⟨g, cap, cur, hv, (hsK g (by rw [hv]; rfl)).2.2, r⟩
  by_cases hn : S1.length < 250
  · refine (add_Keys h.kk hs2 (fun q hq => ?_) hn (by omega) (by omega)).mono ?_
    · have h2 := (hK q (hsK q hq).1).2.2.2
      exact ⟨fun e => h2 (.inr (.inr (.inl e))), fun e => h2 (.inr (.inr (.inr e)))⟩
    · rintro e w' ⟨he, v1', u1', s2, ha⟩
      have hp := h.keys ha (fun q hq => ⟨(hK q (hsK q hq).1).2.1, (hK q (hsK q hq).1).2.2.1, (hK q (hsK q hq).1).2.2.2, (hsK q hq).2.1⟩) hn hl
      refine ⟨he, ⟨F, lv, v1', u1', _, _, hp, fun q hq => ⟨Nat.lt_of_lt_of_le (hK q hq.1).1 ha.tn.size, (hK q hq.1).2.1, (hK q hq.1).2.2.1, fun hf => ?_⟩⟩, ?_, ha.tn.below h.bel.size (fun q hq => h.fb q (hq.imp id .inr)), ha.tn.mono (fun q hf hk => (hK q hk).2.2.2 (hf.imp id .inr))⟩
      · have hk := hK q hq.1
        rcases hf with hf | hf | hf
        · exact hk.2.2.2 (.inl hf)
        · exact hk.2.2.2 (.inr (.inl hf))
        · rcases ha.foot q hf with h9 | h9 | h9 | h9
          · exact hk.2.2.2 (.inr (.inr (.inl h9)))
          · exact hk.2.2.2 (.inr (.inr (.inr h9)))
          · exact hq.2 h9
          · omega
      · have := hp.kk.l.each S1.length (by rw [List.length_append]; simp)
        rw [List.getElem_append_right (Nat.le_refl _)] at this
        simpa using this
  · have hn1 := h.n1
    obtain ⟨a, cap, hf⟩ := h.kk.l.form
    have c0 := h.kk.c0
    rw [hf] at c0
    refine (full_Keys c0 (by omega) (by omega) s.val).mono ?_
    rintro e w' ⟨he, rfl⟩
    exact ⟨he, ⟨F, lv, v1, u1, S1, T1, h, fun q hq => hK q hq.1⟩, hs2, Below.refl _ _, Tn.refl _ _⟩

/-- At the end: numbers are in the book as well. -/
def PFin (w0 w : World) (sb rb bk : Nat) (E : List Nd) (fr : Bool) (E2 : List Nd) (fr2 : Bool) : Prop := ∃ F lv v0 u0 S0 T0 v1 u1 S1 T1, PIn w0 w sb rb bk E fr E2 fr2 F lv v0 u0 S0 T0 v1 u1 S1 T1 ∧ S0.length ≤ 250 ∧ ∀ i (hi : i < S0.length), S0[i].2.length ≤ 1000
theorem pst_ints {K : Nat → Prop} {w0 w : World} {sb rb bk : Nat} {E E2 : List Nd} {fr fr2 : Bool} (h : PSt K w0 w sb rb bk E fr E2 fr2) {B : Nat} {s : Sl} {l : List Int} (hs : Own kInts w B s.val l) (hsK : ∀ q, s.val.ownBlock = some q → K q ∧ w0.heap.size ≤ q ∧ bk < q) (hl : l.length ≤ 1000) :
    Calls Tryz.prog 22 #[.pointer (some ⟨bk, 0, none⟩), s.val] w fun e w' => e = .returned (.tuple #[]) ∧ PFin w0 w' sb rb bk E fr E2 fr2 ∧ Own kInts w' (bk + 1) s.val l ∧ Below w0.heap.size w w' ∧ Tn (fun q => q = bk) w w' := by
  obtain ⟨F, lv, v1, u1, S1, T1, h, hK⟩ := h
  have hbk : bk < w.heap.size := h.blt bk (.inl rfl)
  have hs2 : Own kInts w (bk + 1) s.val l := by
    obtain ⟨g1, g2⟩ := hs
    refine ⟨g1, ?_⟩
    rcases g2 with g2 | ⟨g, cap, cur, hv, hg, r⟩
    · exact .inl g2
    · exact .inr ⟨g, cap, cur, hv, (hsK g (by rw [hv]; rfl)).2.2, r⟩
  refine (add_Ints h.ki hs2 (fun q hq => ?_) (by simp) (by omega) (by omega)).mono ?_
  · have h2 := (hK q (hsK q hq).1).2.2.2
    exact ⟨fun e => h2 (.inr (.inl (.inl e))), fun e => h2 (.inr (.inl (.inr e)))⟩
  · rintro e w' ⟨he, v1', u1', s2, ha⟩
    have hp := h.ints ha (fun q hq => ⟨(hK q (hsK q hq).1).2.1, (hK q (hsK q hq).1).2.2.1, (hK q (hsK q hq).1).2.2.2, (hsK q hq).2.1⟩)
    refine ⟨he, ⟨F, lv, v1', u1', _, _, v1, u1, S1, T1, hp, by simp, fun i hi => ?_⟩, ?_, ha.tn.below h.bel.size (fun q hq => h.fb q (hq.imp id .inl)), ha.tn.mono (fun q hf => hf.elim id (fun hf => hf.elim (fun hf => (nil_foot hf).elim) (fun hf => (nil_foot hf).elim)))⟩
    · have h0 : i = 0 := by simpa using hi
      subst h0
      simpa using hl
    · have := hp.ki.l.each 0 (by simp)
      simpa using this
section
variable {w0 w w' : World} {sb rb bk : Nat} {E E2 : List Nd} {fr fr2 : Bool} (h : PFin w0 w sb rb bk E fr E2 fr2)
include h
theorem PFin.below (hb : Below w.heap.size w w') : PFin w0 w' sb rb bk E fr E2 fr2 := by
  obtain ⟨F, lv, v0, u0, S0, T0, v1, u1, S1, T1, h, hl⟩ := h
  exact ⟨F, lv, v0, u0, S0, T0, v1, u1, S1, T1, h.below hb, hl⟩
theorem PFin.bel : Below w0.heap.size w0 w := by
  obtain ⟨F, lv, v0, u0, S0, T0, v1, u1, S1, T1, h, hl⟩ := h
  exact h.bel
theorem fin_rfrom (k : ByteArray) (hk : k.size ≤ 1000000) (most : Int) (hm0 : -9223372036854775808 ≤ most) (hm1 : most ≤ 9223372036854775807) : Calls Tryz.prog 13 #[.pointer (some ⟨rb, 0, none⟩), .string k, .int .i64 most] w fun e w' =>
      ∃ v, e = .returned v ∧ Own eKV w' w.heap.size v (fromOf E2 k most) ∧ Below w.heap.size w w' := by
  obtain ⟨F, lv, v0, u0, S0, T0, v1, u1, S1, T1, h, hl⟩ := h
  exact rfrom_any h.rf k hk most hm0 hm1
theorem fin_rlanes : Calls Tryz.prog 24 #[.pointer (some ⟨rb, 0, none⟩)] w fun e w' => ∃ a c, e = .returned (.slice a (lanesOf E2).length c) ∧ Own kInts w' w.heap.size (.slice a (lanesOf E2).length c) (natI (lanesOf E2)) ∧ Below w.heap.size w w' := by
  obtain ⟨F, lv, v0, u0, S0, T0, v1, u1, S1, T1, h, hl⟩ := h
  exact rlanes_any h.rf
theorem fin_bytes : Calls Tryz.prog 25 #[.pointer (some ⟨sb, 0, none⟩)] w fun e w' => e = .returned (.int .i64 (bytesOf E : Int)) ∧ w = w' := by
  obtain ⟨F, lv, v0, u0, S0, T0, v1, u1, S1, T1, h, hl⟩ := h
  exact bytes_s h.sk
theorem fin_rbytes : Calls Tryz.prog 26 #[.pointer (some ⟨rb, 0, none⟩)] w fun e w' => e = .returned (.int .i64 (bytesOf E2 : Int)) ∧ Below w.heap.size w w' := by
  obtain ⟨F, lv, v0, u0, S0, T0, v1, u1, S1, T1, h, hl⟩ := h
  exact rbytes_any h.rf
theorem fin_apart : Calls Tryz.prog 27 #[.pointer (some ⟨bk, 0, none⟩)] w fun e w' => e = .returned (.bool true) ∧ Below w0.heap.size w w' := by
  obtain ⟨F, lv, v0, u0, S0, T0, v1, u1, S1, T1, h, hn0, hl0⟩ := h
  have hbk : bk < w.heap.size := h.blt bk (.inl rfl)
  refine (apart_any (by omega) (by omega) h.an h.ki h.kk (fun q h1 h2 => h.dik q (.inl h1) (.inl h2)) hn0 (fun i hi => by have := hl0 i hi; omega) h.n1 (fun i hi => by have := h.l1 i hi; omega)).mono ?_
  rintro e w' ⟨he, ht⟩
  exact ⟨he, ht.below h.bel.size (fun q hq => h.fb q (.inr (hq.imp .inl .inl)))⟩
end
theorem lanes_len (E : List Nd) : (lanesOf E).length ≤ 12 := by
  obtain ⟨c, h1, h2, _⟩ := lanes_c E
  omega
end Go.Proofs.YtmodgjjlgobjcaaGreat
