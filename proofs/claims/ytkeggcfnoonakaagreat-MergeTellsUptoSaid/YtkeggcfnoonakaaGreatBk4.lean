
/-
  Book: lists are grown, whatever the kind.
-/
import Derived.Test.YtkeggcfnoonakaaGreatBk3
set_option linter.unusedSimpArgs false
set_option linter.unusedVariables false
namespace Go.Proofs.YtkeggcfnoonakaaGreat
open Go.RowKit

section
variable {P : Program} {T E TS : TypeId} {k by_ : Nat} {α : Type} {cell : α → List Value} {e : Elm P T E k by_ cell} {eS : Elm P TS T 1 24 sCell}

/-- A slice that is a longer one's beginning stays when that is appended to. -/
theorem keep_old {w w' : World} {B : Nat} {s v v' : Value} {l1 l2 l3 : List α} (hs : Own e w B s l1) (hv : Own e w B v (l1 ++ l2)) (hap : Appd e w w' B v v' (l1 ++ l2) l3) : Own e w' B s l1 := by
  by_cases hb : ∃ q, s.ownBlock = some q ∧ v.ownBlock = some q
  · obtain ⟨q, h1, h2⟩ := hb
    have hold := hap.old
    have hs0 := hs
    obtain ⟨hsl, hs⟩ := hs
    obtain ⟨hvl, hv⟩ := hv
    rcases hs with ⟨rfl, _⟩ | ⟨g1, c1, cur1, rfl, b1, o1, n1, m1, z1, t1⟩
    · cases h1
    · rcases hv with ⟨rfl, _⟩ | ⟨g2, c2, cur2, rfl, b2, o2, n2, m2, z2, t2⟩
      · cases h2
      · obtain rfl : g1 = q := by injection h1
        obtain rfl : g2 = g1 := by injection h2
        rw [o1] at o2
        injection o2 with o2
        injection o2 with o2
        subst o2
        have hcap : c1 = c2 := by
          have hk := e.pos
          have : c1 * k = c2 * k := z1.symm.trans z2
          exact Nat.eq_of_mul_eq_mul_right hk this
        subst hcap
        have hlen : (l1 ++ l2).length = l1.length + l2.length := List.length_append
        show World.ownsRow _ _ _ _ _ _ _
        have h9 : w'.ownsRow B E k (.slice (some ⟨g2, 0, none⟩) (l1.length + l2.length) c1) (l1.length + l2.length) (l1.flatMap cell ++ l2.flatMap cell) := by
          rw [← hlen, ← List.flatMap_append]
          exact hold
        exact row_prefix h9 (e.lens l1)
  · exact hap.tn.row hs (fun q hq h2 => hb ⟨q, hq, h2⟩)

/-- Lists are being grown: i of them are. -/
structure Grow (e : Elm P T E k by_ cell) (eS : Elm P TS T 1 24 sCell) (mk : Nat → Nat → α) (w0 wr : World) (B : Nat) (vo : Value) (S : List (Sl × List α)) (outv : Value) (Sg : List (Sl × List α)) (i : Nat) : Prop where
  l0 : Lst e eS w0 B vo S
  l : Lst e eS wr B vo S
  g : Lst e eS wr B outv Sg
  len : Sg.length = i
  mkd : ∀ j (hj : j < Sg.length) (hj' : j < S.length), Sg[j].2 = marks mk j 0 (S[j].2.length + 72)
  freshO : ∀ q, outv.ownBlock = some q → w0.heap.size ≤ q
  freshE : ∀ j (hj : j < Sg.length) q, Sg[j].1.val.ownBlock = some q → (∃ hj' : j < S.length, S[j].1.val.ownBlock = some q) ∨ w0.heap.size ≤ q
  tn : Tn (footL vo S) w0 wr
/-- The list number i is being grown: t marks more. -/
structure GrowIn (e : Elm P T E k by_ cell) (eS : Elm P TS T 1 24 sCell) (mk : Nat → Nat → α) (w0 wr : World) (B : Nat) (vo : Value) (S : List (Sl × List α)) (outv : Value) (Sg : List (Sl × List α)) (i : Nat) (lv : Value) (t : Nat) : Prop where
  gr : Grow e eS mk w0 wr B vo S outv Sg i
  hi : i < S.length
  own : Own e wr B lv (marks mk i 0 (S[i].2.length + t))
  pl : ∀ q, lv.ownBlock = some q → S[i].1.val.ownBlock = some q ∨ w0.heap.size ≤ q
  nf : ∀ q, lv.ownBlock = some q → ¬ footL outv Sg q

variable {mk : Nat → Nat → α} {w0 wr w' : World} {B : Nat} {vo outv : Value} {S Sg : List (Sl × List α)} {i : Nat}
theorem Grow.start (h : Lst e eS w0 B vo S) : Grow e eS mk w0 w0 B vo S (.slice none 0 0) [] 0 :=
  ⟨h, h, Lst.nil _ _, rfl, (fun j hj => by simp at hj), (fun q hq => by cases hq), (fun j hj => by simp at hj), Tn.refl _ _⟩
theorem Grow.below (h : Grow e eS mk w0 wr B vo S outv Sg i) (hb : Below wr.heap.size wr w') : Grow e eS mk w0 w' B vo S outv Sg i :=
  ⟨h.l0, h.l.below hb, h.g.below hb, h.len, h.mkd, h.freshO, h.freshE, h.tn.trans (Tn.ofBelow hb)⟩
theorem GrowIn.below {lv : Value} {t : Nat} (h : GrowIn e eS mk w0 wr B vo S outv Sg i lv t) (hb : Below wr.heap.size wr w') : GrowIn e eS mk w0 w' B vo S outv Sg i lv t :=
  ⟨h.gr.below hb, h.hi, row_below h.own hb, h.pl, h.nf⟩
theorem Grow.in_ (h : Grow e eS mk w0 wr B vo S outv Sg i) (hi : i < S.length) (hm : Mkd mk S) : GrowIn e eS mk w0 wr B vo S outv Sg i S[i].1.val 0 := by
  refine ⟨h, hi, ?_, fun q hq => .inl hq, fun q hq hf => ?_⟩
  · rw [Nat.add_zero, ← hm i hi]
    exact h.l.each i hi
  · have hlt := (h.l0.lt (.inr ⟨i, hi, hq⟩)).2
    rcases hf with hf | ⟨j, hj, hf⟩
    · have := h.freshO q hf; omega
    · rcases h.freshE j hj q hf with ⟨hj', h2⟩ | h2
      · exact h.l0.sepE i j hi hj' (by have := h.len; omega) q hq h2
      · omega
theorem GrowIn.step {lv lv' : Value} {t m : Nat} {w2 : World} (h : GrowIn e eS mk w0 wr B vo S outv Sg i lv t) (hmk : Mkd mk S) (hap : Appd e wr w2 B lv lv' (marks mk i 0 (S[i]'h.hi).2.length ++ marks mk i (S[i]'h.hi).2.length t) (marks mk i ((S[i]'h.hi).2.length + t) m)) :
    GrowIn e eS mk w0 w2 B vo S outv Sg i lv' (t + m) := by
  have hi := h.hi
  have hownv : Own e wr B lv (marks mk i 0 S[i].2.length ++ marks mk i S[i].2.length t) := by rw [marks_app]; exact h.own
  have hsep : ∀ q, lv.ownBlock = some q → vo.ownBlock ≠ some q ∧ ∀ j (hj : j < S.length), j ≠ i → S[j].1.val.ownBlock ≠ some q := fun q hq => by
    rcases h.pl q hq with h1 | h1
    · exact ⟨fun h2 => h.gr.l0.sepO i hi q h2 h1, fun j hj hji h2 => h.gr.l0.sepE j i hj hi hji q h2 h1⟩
    · exact ⟨fun h2 => by have := (h.gr.l0.lt (.inl h2)).2; omega, fun j hj hji h2 => by have := (h.gr.l0.lt (.inr ⟨j, hj, h2⟩)).2; omega⟩
  have hS : Lst e eS w2 B vo S := by
    refine ⟨hap.tn.row h.gr.l.outer (fun q hq h2 => (hsep q h2).1 hq), fun j hj => ?_, h.gr.l.sepO, h.gr.l.sepE⟩
    by_cases hji : j = i
    · subst hji
      have h5 := h.gr.l.each j hi
      rw [hmk j hi] at h5 ⊢
      exact keep_old h5 hownv hap
    · exact hap.tn.row (h.gr.l.each j hj) (fun q hq h2 => (hsep q h2).2 j hj hji hq)
  have hG : Lst e eS w2 B outv Sg := h.gr.g.tn hap.tn (fun q hq h2 => h.nf q h2 hq)
  refine ⟨⟨h.gr.l0, hS, hG, h.gr.len, h.gr.mkd, h.gr.freshO, h.gr.freshE, h.gr.tn.andThen hap.tn (fun q hq => (h.pl q hq).imp (fun h1 => .inr ⟨i, hi, h1⟩) id)⟩, hi, ?_, fun q hq => ?_, fun q hq hf => ?_⟩
  · have h6 := hap.own
    rw [marks_app, marks_app] at h6
    rw [← Nat.add_assoc]
    exact h6
  · rcases hap.block with hb | hb
    · exact h.pl q (hb ▸ hq)
    · exact .inr (Nat.le_trans h.gr.tn.size (hb q hq))
  · rcases hap.block with hb | hb
    · exact h.nf q (hb ▸ hq) hf
    · have := (h.gr.g.lt hf).2; have := hb q hq; omega
theorem GrowIn.done {s : Sl} {outv' : Value} {w2 : World} (h : GrowIn e eS mk w0 wr B vo S outv Sg i s.val 72) (hap : Appd eS wr w2 B outv outv' (Sg.map (·.1)) [s]) :
    Grow e eS mk w0 w2 B vo S outv' (Sg ++ [(s, marks mk i 0 ((S[i]'h.hi).2.length + 72))]) (i + 1) := by
  have hi := h.hi
  have hfr : ∀ q, outv.ownBlock = some q → w0.heap.size ≤ q := h.gr.freshO
  refine ⟨h.gr.l0, h.gr.l.tn hap.tn (fun q hq h2 => ?_), h.gr.g.add h.own h.nf hap, by rw [List.length_append, h.gr.len]; rfl, fun j hj hj' => ?_, fun q hq => ?_, fun j hj q hq => ?_, h.gr.tn.andThen hap.tn (fun q hq => .inr (hfr q hq))⟩
  · have := (h.gr.l0.lt hq).2; have := hfr q h2; omega
  · rcases Nat.lt_or_ge j Sg.length with h1 | h1
    · rw [List.getElem_append_left h1]; exact h.gr.mkd j h1 hj'
    · have hjl : j < Sg.length + 1 := by simpa using hj
      obtain rfl : j = i := by have := h.gr.len; omega
      rw [List.getElem_append_right (by rw [h.gr.len]; omega)]
      simp [h.gr.len]
  · rcases hap.block with hb | hb
    · exact hfr q (hb ▸ hq)
    · exact Nat.le_trans h.gr.tn.size (hb q hq)
  · rcases Nat.lt_or_ge j Sg.length with h1 | h1
    · rw [List.getElem_append_left h1] at hq; exact h.gr.freshE j h1 q hq
    · have hjl : j < Sg.length + 1 := by simpa using hj
      obtain rfl : j = i := by have := h.gr.len; omega
      rw [List.getElem_append_right (by rw [h.gr.len]; omega)] at hq
      simp only [h.gr.len, Nat.sub_self, List.getElem_cons_zero] at hq
      exact (h.pl q hq).imp (fun h2 => ⟨hi, h2⟩) id
/-- The grown lists are marked. -/
theorem Grow.mkd_all (h : Grow e eS mk w0 wr B vo S outv Sg S.length) : Mkd mk Sg := by
  intro j hj
  have hj' : j < S.length := h.len ▸ hj
  rw [h.mkd j hj hj', marks_len]
end
end Go.Proofs.YtkeggcfnoonakaaGreat
