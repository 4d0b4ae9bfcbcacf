/-
  Merge, plain: the document's two rising lists laid together. Of no program.
-/
import Derived.Test.YtkeggcfnoonakaaGreatMgP
set_option linter.unusedSimpArgs false
set_option linter.unusedVariables false
namespace Go.Proofs.YtkeggcfnoonakaaGreat
open Go.Lib

def twoF : List KV → List KV → List KV
  | [], b => b
  | x :: a, [] => x :: a
  | x :: a, y :: b => if kc x.1 y.1 < 0 then x :: twoF a (y :: b) else if kc x.1 y.1 = 0 then x :: twoF a b else y :: twoF (x :: a) b
  termination_by a b => a.length + b.length
theorem twoF_nil (a : List KV) : twoF a [] = a := by
  cases a with
  | nil => rw [twoF]
  | cons x a => rw [twoF]
theorem twoF_lt {A B : List KV} {i k : Nat} (hi : i < A.length) (hk : k < B.length) (h : kc A[i].1 B[k].1 < 0) : twoF (A.drop i) (B.drop k) = A[i] :: twoF (A.drop (i + 1)) (B.drop k) := by
  rw [List.drop_eq_getElem_cons hi, List.drop_eq_getElem_cons hk, twoF, if_pos h]
theorem twoF_eq {A B : List KV} {i k : Nat} (hi : i < A.length) (hk : k < B.length) (h : kc A[i].1 B[k].1 = 0) : twoF (A.drop i) (B.drop k) = A[i] :: twoF (A.drop (i + 1)) (B.drop (k + 1)) := by
  rw [List.drop_eq_getElem_cons hi, List.drop_eq_getElem_cons hk, twoF, if_neg (by omega), if_pos h]
theorem twoF_gt {A B : List KV} {i k : Nat} (hi : i < A.length) (hk : k < B.length) (h : 0 < kc A[i].1 B[k].1) : twoF (A.drop i) (B.drop k) = B[k] :: twoF (A.drop i) (B.drop (k + 1)) := by
  rw [List.drop_eq_getElem_cons hi, List.drop_eq_getElem_cons hk, twoF, if_neg (by omega), if_neg (by omega)]
theorem twoF_l {A B : List KV} {i k : Nat} (hi : i < A.length) (hk : B.length ≤ k) : twoF (A.drop i) (B.drop k) = A[i] :: twoF (A.drop (i + 1)) (B.drop k) := by
  rw [List.drop_eq_nil_of_le hk, twoF_nil, twoF_nil, List.drop_eq_getElem_cons hi]
theorem twoF_r {A B : List KV} {i k : Nat} (hi : A.length ≤ i) (hk : k < B.length) : twoF (A.drop i) (B.drop k) = B[k] :: twoF (A.drop i) (B.drop (k + 1)) := by
  rw [List.drop_eq_nil_of_le hi, twoF, twoF, List.drop_eq_getElem_cons hk]
theorem twoF_end {A B : List KV} {i k : Nat} (hi : A.length ≤ i) (hk : B.length ≤ k) : twoF (A.drop i) (B.drop k) = [] := by
  rw [List.drop_eq_nil_of_le hi, List.drop_eq_nil_of_le hk, twoF]
/-- What is known of two rising lists laid together. -/
structure Two (a b out : List KV) : Prop where
  ris : Ris out
  mem : ∀ q ∈ out, q ∈ a ∨ (q ∈ b ∧ ¬ hasK a q.1)
  l : ∀ p ∈ a, p ∈ out
  r : ∀ p ∈ b, hasK out p.1
theorem two_two : ∀ (n : Nat) (a b : List KV), a.length + b.length ≤ n → Ris a → Ris b → Two a b (twoF a b) := by
  intro n
  induction n with
  | zero =>
    intro a b hn ha hb
    have h1 := List.eq_nil_of_length_eq_zero (show a.length = 0 by omega)
    have h2 := List.eq_nil_of_length_eq_zero (show b.length = 0 by omega)
    subst h1 h2
    rw [twoF]
    exact ⟨List.Pairwise.nil, fun q hq => by simp at hq, fun q hq => by simp at hq, fun q hq => by simp at hq⟩
  | succ n ih =>
    intro a b hn ha hb
    cases a with
    | nil =>
      rw [twoF]
      exact ⟨hb, fun q hq => .inr ⟨hq, fun ⟨r, hr, _⟩ => by simp at hr⟩, fun q hq => by simp at hq, fun q hq => ⟨q, hq, rfl⟩⟩
    | cons x a =>
      cases b with
      | nil =>
        rw [twoF]
        exact ⟨ha, fun q hq => .inl hq, fun q hq => hq, fun q hq => by simp at hq⟩
      | cons y b =>
        obtain ⟨a1, a2⟩ := List.pairwise_cons.1 ha
        obtain ⟨b1, b2⟩ := List.pairwise_cons.1 hb
        have hyb : ∀ q ∈ y :: b, kc y.1 q.1 ≤ 0 := ris_le hb
        have hxa : ∀ q ∈ x :: a, kc x.1 q.1 ≤ 0 := ris_le ha
        simp only [List.length_cons] at hn
        rw [twoF]
        split
        · rename_i hlt
          obtain ⟨i1, i2, i3, i4⟩ := ih a (y :: b) (by simp only [List.length_cons]; omega) a2 hb
          have hlow : ∀ q ∈ y :: b, kc x.1 q.1 < 0 := fun q hq => (kc_trans (by omega) (hyb q hq)).2 (.inl hlt)
          refine ⟨List.pairwise_cons.2 ⟨fun q hq => ?_, i1⟩, fun q hq => ?_, fun q hq => ?_, fun q hq => ?_⟩
          · rcases i2 q hq with h | ⟨h, _⟩
            · exact a1 q h
            · exact hlow q h
          · rcases List.mem_cons.1 hq with rfl | hq
            · exact .inl (by simp)
            · rcases i2 q hq with h | ⟨h, h2⟩
              · exact .inl (List.mem_cons_of_mem _ h)
              · refine .inr ⟨h, fun ⟨r, hr, e⟩ => ?_⟩
                rcases List.mem_cons.1 hr with rfl | hr
                · have := hlow q h
                  rw [e, kc_self] at this
                  omega
                · exact h2 ⟨r, hr, e⟩
          · rcases List.mem_cons.1 hq with rfl | hq
            · simp
            · exact List.mem_cons_of_mem _ (i3 q hq)
          · obtain ⟨r, hr, e⟩ := i4 q hq
            exact ⟨r, List.mem_cons_of_mem _ hr, e⟩
        · split
          · rename_i hn1 h0
            have hxy := kc_zero h0
            obtain ⟨i1, i2, i3, i4⟩ := ih a b (by omega) a2 b2
            refine ⟨List.pairwise_cons.2 ⟨fun q hq => ?_, i1⟩, fun q hq => ?_, fun q hq => ?_, fun q hq => ?_⟩
            · rcases i2 q hq with h | ⟨h, _⟩
              · exact a1 q h
              · rw [hxy]; exact b1 q h
            · rcases List.mem_cons.1 hq with rfl | hq
              · exact .inl (by simp)
              · rcases i2 q hq with h | ⟨h, h2⟩
                · exact .inl (List.mem_cons_of_mem _ h)
                · refine .inr ⟨List.mem_cons_of_mem _ h, fun ⟨r, hr, e⟩ => ?_⟩
                  rcases List.mem_cons.1 hr with rfl | hr
                  · have := b1 q h
                    rw [← hxy, e, kc_self] at this
                    omega
                  · exact h2 ⟨r, hr, e⟩
            · rcases List.mem_cons.1 hq with rfl | hq
              · simp
              · exact List.mem_cons_of_mem _ (i3 q hq)
            · rcases List.mem_cons.1 hq with rfl | hq
              · exact ⟨x, by simp, hxy⟩
              · obtain ⟨r, hr, e⟩ := i4 q hq
                exact ⟨r, List.mem_cons_of_mem _ hr, e⟩
          · rename_i hn1 hn0
            have hgt : kc y.1 x.1 < 0 := by rw [kc_neg]; omega
            obtain ⟨i1, i2, i3, i4⟩ := ih (x :: a) b (by simp only [List.length_cons]; omega) ha b2
            have hlow : ∀ q ∈ x :: a, kc y.1 q.1 < 0 := fun q hq => (kc_trans (by omega) (hxa q hq)).2 (.inl hgt)
            refine ⟨List.pairwise_cons.2 ⟨fun q hq => ?_, i1⟩, fun q hq => ?_, fun q hq => ?_, fun q hq => ?_⟩
            · rcases i2 q hq with h | ⟨h, _⟩
              · exact hlow q h
              · exact b1 q h
            · rcases List.mem_cons.1 hq with rfl | hq
              · refine .inr ⟨by simp, fun ⟨r, hr, e⟩ => ?_⟩
                have := hlow r hr
                rw [e, kc_self] at this
                omega
              · rcases i2 q hq with h | ⟨h, h2⟩
                · exact .inl h
                · exact .inr ⟨List.mem_cons_of_mem _ h, h2⟩
            · exact List.mem_cons_of_mem _ (i3 q hq)
            · rcases List.mem_cons.1 hq with rfl | hq
              · exact ⟨q, by simp, rfl⟩
              · obtain ⟨r, hr, e⟩ := i4 q hq
                exact ⟨r, List.mem_cons_of_mem _ hr, e⟩
theorem laid_two {a b : List KV} (ha : Ris a) (hb : Ris b) : Laid [a, b] (twoF a b) := by
  obtain ⟨h1, h2, h3, h4⟩ := two_two _ a b (Nat.le_refl _) ha hb
  refine ⟨h1, fun q hq => ?_, fun l hl p hp => ?_⟩
  · rcases h2 q hq with h | ⟨h, hn⟩
    · exact ⟨0, a, rfl, h, fun m l' hm => by omega⟩
    · refine ⟨1, b, rfl, h, fun m l' hm hl' p hp e => ?_⟩
      obtain rfl : m = 0 := by omega
      simp at hl'
      subst hl'
      exact hn ⟨p, hp, e⟩
  · simp at hl
    rcases hl with rfl | rfl
    · exact ⟨p, h3 p hp, rfl⟩
    · exact h4 p hp
theorem laid_nil : Laid [] [] := ⟨List.Pairwise.nil, fun q hq => by simp at hq, fun l hl => by simp at hl⟩
theorem laid_one {l : List KV} (h : Ris l) : Laid [l] l :=
  ⟨h, fun q hq => ⟨0, l, rfl, hq, fun m l' hm => by omega⟩, fun x hx p hp => by rw [List.mem_singleton] at hx; subst hx; exact ⟨p, hp, rfl⟩⟩
theorem laid_snoc {M : List (List KV)} {l out : List KV} (h : Laid M out) (hl : Ris l) : Laid (M ++ [l]) (twoF out l) :=
  Laid.groups (k := M.length) (a := out) (b := l) (by rw [List.take_left]; exact h) (by rw [List.drop_left]; exact laid_one hl) (laid_two h.ris hl) (by simp)
theorem twoF_len : ∀ (n : Nat) (a b : List KV), a.length + b.length ≤ n → (twoF a b).length ≤ a.length + b.length := by
  intro n
  induction n with
  | zero =>
    intro a b hn
    have h1 := List.eq_nil_of_length_eq_zero (show a.length = 0 by omega)
    have h2 := List.eq_nil_of_length_eq_zero (show b.length = 0 by omega)
    subst h1 h2
    rw [twoF]
    simp
  | succ n ih =>
    intro a b hn
    cases a with
    | nil => rw [twoF]; simp
    | cons x a =>
      cases b with
      | nil => rw [twoF]; simp
      | cons y b =>
        simp only [List.length_cons] at hn
        rw [twoF]
        split
        · have := ih a (y :: b) (by simp only [List.length_cons]; omega)
          simp only [List.length_cons] at this ⊢
          omega
        · split
          · have := ih a b (by omega)
            simp only [List.length_cons] at this ⊢
            omega
          · have := ih (x :: a) b (by simp only [List.length_cons]; omega)
            simp only [List.length_cons] at this ⊢
            omega
theorem laid_mem {M : List (List KV)} {out : List KV} (h : Laid M out) : ∀ q ∈ out, ∃ l ∈ M, q ∈ l := by
  intro q hq
  obtain ⟨n, l, h1, h2, _⟩ := h.fst q hq
  exact ⟨l, List.mem_of_getElem? h1, h2⟩
end Go.Proofs.YtkeggcfnoonakaaGreat
