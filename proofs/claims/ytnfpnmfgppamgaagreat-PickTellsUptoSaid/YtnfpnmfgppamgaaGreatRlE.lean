/-
  The law PickTells: the book.
-/
import Derived.Test.YtnfpnmfgppamgaaGreatRlD
import Derived.Test.YtnfpnmfgppamgaaGreatApartIR
namespace Go.Proofs.YtnfpnmfgppamgaaGreat
open Go.RowKit

def IFoot (v0 u0 : Value) (S0 T0 : List (Sl × List Int)) (q : Nat) : Prop := footL v0 S0 q ∨ footL u0 T0 q
def KFoot (v1 u1 : Value) (S1 T1 : List (Sl × List Nat)) (q : Nat) : Prop := footL v1 S1 q ∨ footL u1 T1 q
structure BIn (w0 w : World) (bk : Nat) (v0 u0 : Value) (S0 T0 : List (Sl × List Int)) (v1 u1 : Value) (S1 T1 : List (Sl × List Nat)) : Prop where
  ki : Kd kInts kIntsS w bk 2 (bk + 1) v0 u0 S0 T0
  kk : Kd kReals kRealsS w bk 26 (bk + 1) v1 u1 S1 T1
  an : ApN bk w
  dik : ∀ q, IFoot v0 u0 S0 T0 q → ¬ KFoot v1 u1 S1 T1 q
  fb : ∀ q, (q = bk ∨ IFoot v0 u0 S0 T0 q ∨ KFoot v1 u1 S1 T1 q) → w0.heap.size ≤ q
  bel : Below w0.heap.size w0 w
  l0 : ∀ i (hi : i < S0.length), S0[i].2.length ≤ 50000
  l1 : ∀ i (hi : i < S1.length), S1[i].2.length ≤ 50000
section
variable {w0 w w' : World} {bk : Nat} {v0 u0 : Value} {S0 T0 : List (Sl × List Int)} {v1 u1 : Value} {S1 T1 : List (Sl × List Nat)}
theorem BIn.blt (h : BIn w0 w bk v0 u0 S0 T0 v1 u1 S1 T1) : ∀ q, (q = bk ∨ IFoot v0 u0 S0 T0 q ∨ KFoot v1 u1 S1 T1 q) → q < w.heap.size := by
  rintro q (rfl | (hq | hq) | (hq | hq))
  · exact World.block_lt_of_cell? w _ h.ki.c0
  · exact (h.ki.l.lt hq).2
  · exact (h.ki.lw.lt hq).2
  · exact (h.kk.l.lt hq).2
  · exact (h.kk.lw.lt hq).2
theorem BIn.below (h : BIn w0 w bk v0 u0 S0 T0 v1 u1 S1 T1) (hb : Below w.heap.size w w') : BIn w0 w' bk v0 u0 S0 T0 v1 u1 S1 T1 :=
  have ht : Tn (fun _ => False) w w' := Tn.ofBelow hb
  ⟨h.ki.tn ht (fun e => e) (fun _ _ e => e), h.kk.tn ht (fun e => e) (fun _ _ e => e), fun o h1 h2 h3 h4 h5 => ht.cell (h.an o h1 h2 h3 h4 h5) (fun e => e), h.dik, h.fb, h.bel.trans (hb.mono h.bel.size), h.l0, h.l1⟩
theorem kd_other {P : Program} {T E TS : TypeId} {k by_ : Nat} {α : Type} {cell : α → List Value} {e : Elm P T E k by_ cell} {eS : Elm P TS T 1 24 sCell} {w w' : World} {bk off B : Nat} {vo vw : Value} {S Sw : List (Sl × List α)} (h : Kd e eS w bk off B vo vw S Sw) {G : Nat → Prop} (ht : Tn G w w')
    (hc0 : w'.cell? ⟨bk, off, none⟩ = w.cell? ⟨bk, off, none⟩) (hc1 : w'.cell? ⟨bk, off + 1, none⟩ = w.cell? ⟨bk, off + 1, none⟩) (hf : ∀ j, w'.frozen? ⟨bk, j, none⟩ = false) (hG : ∀ q, footL vo S q ∨ footL vw Sw q → ¬ G q) : Kd e eS w' bk off B vo vw S Sw :=
  ⟨hc0.trans h.c0, hc1.trans h.c1, h.l.tn ht (fun q hq => hG q (.inl hq)), h.lw.tn ht (fun q hq => hG q (.inr hq)), h.same, h.apart, h.bk0, hf⟩
theorem lens_add {α : Type} {S : List (Sl × List α)} {s : Sl} {l : List α} {M : Nat} (h : ∀ i (hi : i < S.length), S[i].2.length ≤ M) (hl : l.length ≤ M) : ∀ i (hi : i < (S ++ [(s, l)]).length), (S ++ [(s, l)])[i].2.length ≤ M := by
  intro i hi
  rcases Nat.lt_or_ge i S.length with h1 | h1
  · rw [List.getElem_append_left h1]; exact h i h1
  · have hi' : i = S.length := by rw [List.length_append] at hi; simp at hi; omega
    subst hi'
    rw [List.getElem_append_right (Nat.le_refl _)]
    simpa using hl
theorem BIn.reals (h : BIn w0 w bk v0 u0 S0 T0 v1 u1 S1 T1) {s s2 : Sl} {l : List Nat} {v1' u1' : Value} (ha : Added kReals kRealsS w w' bk 26 (bk + 1) v1 u1 S1 T1 s l v1' u1' s2) (hx : ∀ q, s.val.ownBlock = some q → ¬ (q = bk ∨ IFoot v0 u0 S0 T0 q ∨ KFoot v1 u1 S1 T1 q) ∧ w0.heap.size ≤ q)
    (hl : l.length ≤ 50000) : BIn w0 w' bk v0 u0 S0 T0 v1' u1' (S1 ++ [(s, l)]) (T1 ++ [(s2, l)]) := by
  have ht := ha.tn
  have hG : ∀ q, (q = bk ∨ footL v1 S1 q ∨ footL u1 T1 q) → (q = bk ∨ IFoot v0 u0 S0 T0 q ∨ KFoot v1 u1 S1 T1 q) := fun q hq => hq.imp id .inr
  have hK : ∀ q, KFoot v1' u1' (S1 ++ [(s, l)]) (T1 ++ [(s2, l)]) q → KFoot v1 u1 S1 T1 q ∨ s.val.ownBlock = some q ∨ w.heap.size ≤ q := fun q hq => by
    rcases ha.foot q hq with h1 | h1 | h1 | h1
    · exact .inl (.inl h1)
    · exact .inl (.inr h1)
    · exact .inr (.inl h1)
    · exact .inr (.inr h1)
  refine ⟨kd_other h.ki ht (ha.other 2 (by decide) (by decide)) (ha.other 3 (by decide) (by decide)) ha.kd.free (fun q hq hg => ?_), ha.kd, fun o h1 h2 h3 h4 h5 => (ha.other o h4 h5).trans (h.an o h1 h2 h3 h4 h5), fun q hq hb => ?_, fun q hq => ?_, h.bel.trans (ht.below h.bel.size (fun q hq => h.fb q (hG q hq))), h.l0, lens_add h.l1 hl⟩
  · rcases hg with hg | hg
    · rcases hq with hq | hq
      · have := (h.ki.l.lt hq).1; omega
      · have := (h.ki.lw.lt hq).1; omega
    · exact h.dik q hq hg
  · rcases hK q hb with h1 | h1 | h1
    · exact h.dik q hq h1
    · exact (hx q h1).1 (.inr (.inl hq))
    · have := h.blt q (.inr (.inl hq)); omega
  · rcases hq with hb | hb | hb
    · exact h.fb q (.inl hb)
    · exact h.fb q (.inr (.inl hb))
    · rcases hK q hb with h1 | h1 | h1
      · exact h.fb q (.inr (.inr h1))
      · exact (hx q h1).2
      · have := h.bel.size; omega
theorem BIn.ints (h : BIn w0 w bk v0 u0 S0 T0 v1 u1 S1 T1) {s s2 : Sl} {l : List Int} {v0' u0' : Value} (ha : Added kInts kIntsS w w' bk 2 (bk + 1) v0 u0 S0 T0 s l v0' u0' s2) (hx : ∀ q, s.val.ownBlock = some q → ¬ (q = bk ∨ IFoot v0 u0 S0 T0 q ∨ KFoot v1 u1 S1 T1 q) ∧ w0.heap.size ≤ q)
    (hl : l.length ≤ 50000) : BIn w0 w' bk v0' u0' (S0 ++ [(s, l)]) (T0 ++ [(s2, l)]) v1 u1 S1 T1 := by
  have ht := ha.tn
  have hG : ∀ q, (q = bk ∨ footL v0 S0 q ∨ footL u0 T0 q) → (q = bk ∨ IFoot v0 u0 S0 T0 q ∨ KFoot v1 u1 S1 T1 q) := fun q hq => hq.imp id .inl
  have hK : ∀ q, IFoot v0' u0' (S0 ++ [(s, l)]) (T0 ++ [(s2, l)]) q → IFoot v0 u0 S0 T0 q ∨ s.val.ownBlock = some q ∨ w.heap.size ≤ q := fun q hq => by
    rcases ha.foot q hq with h1 | h1 | h1 | h1
    · exact .inl (.inl h1)
    · exact .inl (.inr h1)
    · exact .inr (.inl h1)
    · exact .inr (.inr h1)
  refine ⟨ha.kd, kd_other h.kk ht (ha.other 26 (by decide) (by decide)) (ha.other 27 (by decide) (by decide)) ha.kd.free (fun q hq hg => ?_), fun o h1 h2 h3 h4 h5 => (ha.other o h2 h3).trans (h.an o h1 h2 h3 h4 h5), fun q hb hq => ?_, fun q hq => ?_, h.bel.trans (ht.below h.bel.size (fun q hq => h.fb q (hG q hq))), lens_add h.l0 hl, h.l1⟩
  · rcases hg with hg | hg
    · rcases hq with hq | hq
      · have := (h.kk.l.lt hq).1; omega
      · have := (h.kk.lw.lt hq).1; omega
    · exact h.dik q hg hq
  · rcases hK q hb with h1 | h1 | h1
    · exact h.dik q h1 hq
    · exact (hx q h1).1 (.inr (.inr hq))
    · have := h.blt q (.inr (.inr hq)); omega
  · rcases hq with hb | hb | hb
    · exact h.fb q (.inl hb)
    · rcases hK q hb with h1 | h1 | h1
      · exact h.fb q (.inr (.inl h1))
      · exact (hx q h1).2
      · have := h.bel.size; omega
    · exact h.fb q (.inr (.inr hb))
end
/-- The book with at most a lists of numbers and b of reals; K: blocks that are kept. -/
def BSt (K : Nat → Prop) (w0 w : World) (bk a b : Nat) : Prop := ∃ v0 u0 S0 T0 v1 u1 S1 T1, BIn w0 w bk v0 u0 S0 T0 v1 u1 S1 T1 ∧ S0.length ≤ a ∧ S1.length ≤ b ∧ ∀ q, K q → q < w.heap.size ∧ ¬ (q = bk ∨ IFoot v0 u0 S0 T0 q ∨ KFoot v1 u1 S1 T1 q)
section
variable {K : Nat → Prop} {w0 w w' : World} {bk a b : Nat} (h : BSt K w0 w bk a b)
include h
theorem BSt.more (hb : Below w.heap.size w w') : BSt (fun q => K q ∨ (w.heap.size ≤ q ∧ q < w'.heap.size)) w0 w' bk a b := by
  obtain ⟨v0, u0, S0, T0, v1, u1, S1, T1, h, ha, hb', hK⟩ := h
  refine ⟨v0, u0, S0, T0, v1, u1, S1, T1, h.below hb, ha, hb', fun q hq => ?_⟩
  rcases hq with hq | ⟨hq, hq2⟩
  · exact ⟨Nat.lt_of_lt_of_le (hK q hq).1 hb.size, (hK q hq).2⟩
  · exact ⟨hq2, fun e => by have := h.blt q e; omega⟩
theorem BSt.weak {K' : Nat → Prop} (hw : ∀ q, K' q → K q) {a' b' : Nat} (haa : a ≤ a') (hbb : b ≤ b') : BSt K' w0 w bk a' b' := by
  obtain ⟨v0, u0, S0, T0, v1, u1, S1, T1, h, ha, hb', hK⟩ := h
  exact ⟨v0, u0, S0, T0, v1, u1, S1, T1, h, by omega, by omega, fun q hq => hK q (hw q hq)⟩
theorem BSt.bel : Below w0.heap.size w0 w := by
  obtain ⟨v0, u0, S0, T0, v1, u1, S1, T1, h, ha, hb', hK⟩ := h
  exact h.bel
theorem BSt.bklt : bk < w.heap.size := by
  obtain ⟨v0, u0, S0, T0, v1, u1, S1, T1, h, ha, hb', hK⟩ := h
  exact h.blt bk (.inl rfl)
theorem bst_ints {B : Nat} {s : Sl} {l : List Int} (hs : Own kInts w B s.val l) (hsK : ∀ q, s.val.ownBlock = some q → K q ∧ w0.heap.size ≤ q ∧ bk < q) (hl : l.length ≤ 50000) (ha : a < 250) :
    Calls Tryz.prog 18 #[.pointer (some ⟨bk, 0, none⟩), s.val] w fun e w' => e = .returned (.tuple #[]) ∧ BSt (fun q => K q ∧ s.val.ownBlock ≠ some q) w0 w' bk (a + 1) b ∧ Tn (fun q => ¬ K q) w w' := by
  obtain ⟨v0, u0, S0, T0, v1, u1, S1, T1, h, ha', hb', hK⟩ := h
  have hbk : bk < w.heap.size := h.blt bk (.inl rfl)
  have hs2 : Own kInts w (bk + 1) s.val l := by
    obtain ⟨g1, g2⟩ := hs
    refine ⟨g1, ?_⟩
    rcases g2 with g2 | ⟨g, cap, cur, hv, hg, r⟩
    · exact .inl g2
    · exact .inr ⟨g, cap, cur, hv, (hsK g (by rw [hv]; rfl)).2.2, r⟩
  refine (add_Ints h.ki hs2 (fun q hq => ?_) (by omega) (by omega) (by omega)).mono ?_
  · have h2 := (hK q (hsK q hq).1).2
    exact ⟨fun e => h2 (.inr (.inl (.inl e))), fun e => h2 (.inr (.inl (.inr e)))⟩
  · rintro e w' ⟨he, v0', u0', s2, had⟩
    have hp := h.ints had (fun q hq => ⟨(hK q (hsK q hq).1).2, (hsK q hq).2.1⟩) hl
    refine ⟨he, ⟨v0', u0', _, _, v1, u1, S1, T1, hp, by rw [List.length_append]; simp; omega, hb', fun q hq => ⟨Nat.lt_of_lt_of_le (hK q hq.1).1 had.tn.size, fun hf => ?_⟩⟩, had.tn.mono (fun q hf hk => (hK q hk).2 (hf.imp id .inl))⟩
    have hk := hK q hq.1
    rcases hf with hf | hf | hf
    · exact hk.2 (.inl hf)
    · rcases had.foot q hf with h9 | h9 | h9 | h9
      · exact hk.2 (.inr (.inl (.inl h9)))
      · exact hk.2 (.inr (.inl (.inr h9)))
      · exact hq.2 h9
      · omega
    · exact hk.2 (.inr (.inr hf))
theorem bst_reals {B : Nat} {s : Sl} {l : List Nat} (hs : Own kReals w B s.val l) (hsK : ∀ q, s.val.ownBlock = some q → K q ∧ w0.heap.size ≤ q ∧ bk < q) (hl : l.length ≤ 50000) (hbb : b < 250) :
    Calls Tryz.prog 17 #[.pointer (some ⟨bk, 0, none⟩), s.val] w fun e w' => e = .returned (.tuple #[]) ∧ BSt (fun q => K q ∧ s.val.ownBlock ≠ some q) w0 w' bk a (b + 1) ∧ Tn (fun q => ¬ K q) w w' := by
  obtain ⟨v0, u0, S0, T0, v1, u1, S1, T1, h, ha', hb', hK⟩ := h
  have hbk : bk < w.heap.size := h.blt bk (.inl rfl)
  have hs2 : Own kReals w (bk + 1) s.val l := by
    obtain ⟨g1, g2⟩ := hs
    refine ⟨g1, ?_⟩
    rcases g2 with g2 | ⟨g, cap, cur, hv, hg, r⟩
    · exact .inl g2
    · exact .inr ⟨g, cap, cur, hv, (hsK g (by rw [hv]; rfl)).2.2, r⟩
  refine (add_Reals h.kk hs2 (fun q hq => ?_) (by omega) (by omega) (by omega)).mono ?_
  · have h2 := (hK q (hsK q hq).1).2
    exact ⟨fun e => h2 (.inr (.inr (.inl e))), fun e => h2 (.inr (.inr (.inr e)))⟩
  · rintro e w' ⟨he, v1', u1', s2, had⟩
    have hp := h.reals had (fun q hq => ⟨(hK q (hsK q hq).1).2, (hsK q hq).2.1⟩) hl
    refine ⟨he, ⟨v0, u0, S0, T0, v1', u1', _, _, hp, ha', by rw [List.length_append]; simp; omega, fun q hq => ⟨Nat.lt_of_lt_of_le (hK q hq.1).1 had.tn.size, fun hf => ?_⟩⟩, had.tn.mono (fun q hf hk => (hK q hk).2 (hf.imp id .inr))⟩
    have hk := hK q hq.1
    rcases hf with hf | hf | hf
    · exact hk.2 (.inl hf)
    · exact hk.2 (.inr (.inl hf))
    · rcases had.foot q hf with h9 | h9 | h9 | h9
      · exact hk.2 (.inr (.inr (.inl h9)))
      · exact hk.2 (.inr (.inr (.inr h9)))
      · exact hq.2 h9
      · omega
theorem bst_apart (ha : a ≤ 250) (hbb : b ≤ 250) : Calls Tryz.prog 19 #[.pointer (some ⟨bk, 0, none⟩)] w fun e w' => e = .returned (.bool true) ∧ Below w0.heap.size w w' := by
  obtain ⟨v0, u0, S0, T0, v1, u1, S1, T1, h, ha', hb', hK⟩ := h
  have hbk : bk < w.heap.size := h.blt bk (.inl rfl)
  refine (apart_any (by omega) (by omega) h.an h.ki h.kk (fun q h1 h2 => h.dik q (.inl h1) (.inl h2)) (by omega) h.l0 (by omega) h.l1).mono ?_
  rintro e w' ⟨he, ht⟩
  exact ⟨he, ht.below h.bel.size (fun q hq => h.fb q (.inr (hq.imp .inl .inl)))⟩
end
theorem nil_foot {α : Type} {q : Nat} (h : footL (.slice none 0 0) ([] : List (Sl × List α)) q) : False := by
  rcases h with h | ⟨i, hi, _⟩
  · cases h
  · simp at hi
theorem nil_Kd {P : Program} {T E TS : TypeId} {k by_ : Nat} {α : Type} {cell : α → List Value} {e : Elm P T E k by_ cell} {eS : Elm P TS T 1 24 sCell} {w : World} {bk off : Nat} (c0 : w.cell? ⟨bk, off, none⟩ = some (.slice none 0 0)) (c1 : w.cell? ⟨bk, off + 1, none⟩ = some (.slice none 0 0)) (hf : ∀ j, w.frozen? ⟨bk, j, none⟩ = false) : Kd e eS w bk off (bk + 1) (.slice none 0 0) (.slice none 0 0) [] [] :=
  ⟨c0, c1, Lst.nil _ _, Lst.nil _ _, rfl, fun q hq => (nil_foot hq).elim, by omega, hf⟩
theorem bst_start {w0 w : World} {bk : Nat} (b0 : ∀ o, o < 30 → w.cell? ⟨bk, o, none⟩ = some (.slice none 0 0)) (bf : ∀ j, w.frozen? ⟨bk, j, none⟩ = false) (hb : w0.heap.size ≤ bk) (hbel : Below w0.heap.size w0 w) : BSt (fun _ => False) w0 w bk 0 0 := by
  refine ⟨.slice none 0 0, .slice none 0 0, [], [], .slice none 0 0, .slice none 0 0, [], [], ⟨nil_Kd (b0 2 (by decide)) (b0 3 (by decide)) bf, nil_Kd (b0 26 (by decide)) (b0 27 (by decide)) bf, fun o h _ _ _ _ => b0 o h, ?_, ?_, hbel, by simp, by simp⟩, by simp, by simp, fun _ e => e.elim⟩
  · intro q hq; rcases hq with hq | hq <;> exact (nil_foot hq).elim
  · rintro q (hq | (hq | hq) | (hq | hq))
    · rw [hq]; exact hb
    all_goals exact (nil_foot hq).elim
def bookCells : Array Value := #[.slice none 0 0, .slice none 0 0, .slice none 0 0, .slice none 0 0, .slice none 0 0, .slice none 0 0, .slice none 0 0, .slice none 0 0, .slice none 0 0, .slice none 0 0, .slice none 0 0, .slice none 0 0, .slice none 0 0, .slice none 0 0, .slice none 0 0, .slice none 0 0, .slice none 0 0, .slice none 0 0, .slice none 0 0, .slice none 0 0, .slice none 0 0, .slice none 0 0, .slice none 0 0, .slice none 0 0, .slice none 0 0, .slice none 0 0, .slice none 0 0, .slice none 0 0, .slice none 0 0, .slice none 0 0]
theorem book_cell (w : World) (t : TypeId) (o : Nat) (h : o < 30) : (w.alloc (.cells bookCells t)).cell? ⟨w.heap.size, o, none⟩ = some (.slice none 0 0) := by
  rw [World.cell?_alloc_mark]
  have e : bookCells = (List.replicate 30 (Value.slice none 0 0)).toArray := rfl
  rw [e, List.getElem?_toArray, List.getElem?_replicate, if_pos h]
theorem fz_alloc (w : World) (c : Array Value) (t : TypeId) (j : Nat) : (w.alloc (.cells c t)).frozen? ⟨w.heap.size, j, none⟩ = false := by
  have h : (w.alloc (.cells c t)).heap[w.heap.size]? = some (.cells c t (0, 0)) := blk_new w _
  unfold World.frozen?
  simp only [h]
  simp
theorem rCells_flat : ∀ l : List Nat, rCells l = l.flatMap (fun k : Nat => [Value.float .f64 k])
  | [] => rfl
  | x :: l => by
    show Value.float .f64 x :: rCells l = _
    rw [rCells_flat l]
    rfl
theorem ownR_reals {w : World} {B : Nat} {v : Value} {l : List Nat} (h : OwnR w B v l) : Own kReals w B v l := by
  show World.ownsRow _ _ _ _ _ _ _
  rw [← rCells_flat]
  exact h
theorem bt {a b c : World} (h1 : Below a.heap.size a b) (h2 : Below b.heap.size b c) : Below a.heap.size a c := h1.trans (h2.mono h1.size)
end Go.Proofs.YtnfpnmfgppamgaaGreat
