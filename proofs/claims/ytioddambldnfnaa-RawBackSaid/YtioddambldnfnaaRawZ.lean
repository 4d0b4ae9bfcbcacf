/-
  Plain: what is written in quotes is read back; its signs are from 32 to 126 (no program).
-/
import Derived.Test.YtioddambldnfnaaRawV
namespace Go.Proofs.Ytioddambldnfnaa.Rw

theorem atF_app (pre r : List UInt8) (j : Nat) : atF (pre ++ r) (pre.length + j) = atF r j := by
  unfold atF
  rw [List.getElem?_append_right (by omega)]
  simp

theorem atF_cons {c : UInt8} {r : List UInt8} (h : 32 ≤ c.toNat ∧ c.toNat ≤ 126) : atF (c :: r) 0 = some c := by
  unfold atF
  simp only [List.getElem?_cons_zero]
  rw [if_pos h]
theorem atF_succ (c : UInt8) (r : List UInt8) (j : Nat) : atF (c :: r) (j + 1) = atF r j := rfl

theorem hexd_ok : ∀ n : Nat, n < 16 → (32 ≤ (hexd n).toNat ∧ (hexd n).toNat ≤ 126) ∧ nibF (hexd n) = some n := by decide +kernel

/-- What stands at i is r. -/
theorem unqK_quote (l : List UInt8) : ∀ (bs : List UInt8) (f : Nat) (pre : List UInt8) (acc more : List UInt8), bs.length < f → l = pre ++ (quoteIn bs ++ 34 :: more) →
    unqK l f pre.length acc = some (acc ++ bs, pre.length + (quoteIn bs).length + 1) := by
  intro bs
  induction bs with
  | nil =>
    intro f pre acc more hf hl
    obtain ⟨g, rfl⟩ : ∃ g, f = g + 1 := ⟨f - 1, by omega⟩
    have h0 : atF l pre.length = some 34 := by
      have := atF_app pre (quoteIn [] ++ 34 :: more) 0
      rw [← hl] at this
      rw [Nat.add_zero] at this
      rw [this]
      exact atF_cons (by decide)
    rw [unqK, h0]
    simp [quoteIn]
  | cons c bs ih =>
    intro f pre acc more hf hl
    obtain ⟨g, rfl⟩ : ∃ g, f = g + 1 := ⟨f - 1, by simp at hf; omega⟩
    have hg : bs.length < g := by simpa using hf
    rw [quoteIn_cons] at hl ⊢
    have at_ : ∀ j, atF l (pre.length + j) = atF (quoteB c ++ (quoteIn bs ++ 34 :: more)) j := by
      intro j
      rw [hl, atF_app, List.append_assoc]
    have a0 := at_ 0
    have a1 := at_ 1
    have a2 := at_ 2
    have a3 := at_ 3
    rw [Nat.add_zero] at a0
    by_cases h1 : c = 34 ∨ c = 92
    · have hq : quoteB c = [92, c] := by unfold quoteB; rw [if_pos h1]
      have hcr : 32 ≤ c.toNat ∧ c.toNat ≤ 126 := by rcases h1 with rfl | rfl <;> decide
      rw [hq] at a0 a1 hl ⊢
      have e0 : atF l pre.length = some 92 := by rw [a0]; exact atF_cons (by decide)
      have e1 : atF l (pre.length + 1) = some c := by rw [a1]; exact atF_cons (r := quoteIn bs ++ 34 :: more) hcr
      have hn := ih g (pre ++ [92, c]) (acc ++ [c]) more hg (by rw [hl]; simp)
      rw [unqK, e0]
      simp only
      rw [if_neg (by decide), if_pos (by trivial), e1]
      simp only
      rw [if_pos h1]
      simp only [List.length_append, List.length_cons, List.length_nil, List.append_assoc, List.cons_append, List.nil_append] at hn ⊢
      rw [hn]
      congr 2
      omega
    · by_cases h2 : 32 ≤ c.toNat ∧ c.toNat ≤ 126
      · have hq : quoteB c = [c] := by unfold quoteB; rw [if_neg h1, if_pos h2]
        rw [hq] at a0 hl ⊢
        have e0 : atF l pre.length = some c := by rw [a0]; exact atF_cons h2
        have hn := ih g (pre ++ [c]) (acc ++ [c]) more hg (by rw [hl]; simp)
        rw [unqK, e0]
        simp only
        rw [if_neg (fun e => h1 (Or.inl e)), if_neg (fun e => h1 (Or.inr e))]
        simp only [List.length_append, List.length_cons, List.length_nil, List.append_assoc, List.cons_append, List.nil_append] at hn ⊢
        rw [hn]
        congr 2
        omega
      · have hq : quoteB c = [92, 120, hexd (c.toNat / 16), hexd (c.toNat % 16)] := by unfold quoteB; rw [if_neg h1, if_neg h2]
        have hc8 := c.toNat_lt
        have x1 := hexd_ok (c.toNat / 16) (by omega)
        have x2 := hexd_ok (c.toNat % 16) (by omega)
        rw [hq] at a0 a1 a2 a3 hl ⊢
        have e0 : atF l pre.length = some 92 := by rw [a0]; exact atF_cons (by decide)
        have e1 : atF l (pre.length + 1) = some 120 := by rw [a1]; exact atF_cons (r := hexd (c.toNat / 16) :: hexd (c.toNat % 16) :: (quoteIn bs ++ 34 :: more)) (by decide)
        have e2 : nibAt l (pre.length + 2) = some (c.toNat / 16) := by
          unfold nibAt; rw [a2]
          have : atF ([92, 120, hexd (c.toNat / 16), hexd (c.toNat % 16)] ++ (quoteIn bs ++ 34 :: more)) 2 = some (hexd (c.toNat / 16)) := atF_cons (r := hexd (c.toNat % 16) :: (quoteIn bs ++ 34 :: more)) x1.1
          rw [this]; exact x1.2
        have e3 : nibAt l (pre.length + 3) = some (c.toNat % 16) := by
          unfold nibAt; rw [a3]
          have : atF ([92, 120, hexd (c.toNat / 16), hexd (c.toNat % 16)] ++ (quoteIn bs ++ 34 :: more)) 3 = some (hexd (c.toNat % 16)) := atF_cons (r := quoteIn bs ++ 34 :: more) x2.1
          rw [this]; exact x2.2
        have ec : UInt8.ofNat (16 * (c.toNat / 16) + c.toNat % 16) = c := by
          apply UInt8.toNat.inj
          rw [UInt8.toNat_ofNat']
          omega
        have hn := ih g (pre ++ [92, 120, hexd (c.toNat / 16), hexd (c.toNat % 16)]) (acc ++ [c]) more hg (by rw [hl]; simp)
        rw [unqK, e0]
        simp only
        rw [if_neg (by decide), if_pos (by trivial), e1]
        simp only
        rw [if_neg (by decide), if_pos (by trivial), e2, e3]
        simp only
        rw [ec]
        simp only [List.length_append, List.length_cons, List.length_nil, List.append_assoc, List.cons_append, List.nil_append] at hn ⊢
        rw [hn]
        congr 2
        omega

theorem unqF_quote (b more : List UInt8) : unqF (quoteF b ++ more) = some (b, (quoteF b).length) := by
  have h0 : atF (quoteF b ++ more) 0 = some 34 := atF_cons (by decide)
  unfold unqF
  rw [if_pos h0]
  have hl : (quoteF b ++ more) = [34] ++ (quoteIn b ++ 34 :: more) := by simp [quoteF]
  have hlen : b.length ≤ (quoteIn b).length := by
    induction b with
    | nil => simp
    | cons c b ih => have := quoteB_len c; rw [quoteIn_cons, List.length_append, List.length_cons]; have := ih (atF_cons (by decide)) (by simp [quoteF]); omega
  have h := unqK_quote (quoteF b ++ more) b (quoteF b ++ more).length [34] [] more (by simp [quoteF]; omega) hl
  rw [List.length_singleton, List.nil_append] at h
  rw [h]
  simp [quoteF]
  omega

theorem quoteB_range (c : UInt8) : ∀ x ∈ quoteB c, 32 ≤ x.toNat ∧ x.toNat ≤ 126 := by
  intro x hx
  unfold quoteB at hx
  have hc8 := c.toNat_lt
  split at hx
  · rename_i h
    rcases List.mem_cons.1 hx with rfl | hx
    · decide
    · rw [List.mem_singleton] at hx
      subst hx
      rcases h with rfl | rfl <;> decide
  · split at hx
    · rw [List.mem_singleton] at hx
      subst hx
      assumption
    · simp only [List.mem_cons, List.not_mem_nil, or_false] at hx
      rcases hx with rfl | rfl | rfl | rfl
      · decide
      · decide
      · exact (hexd_ok _ (by omega)).1
      · exact (hexd_ok _ (by omega)).1

theorem quoteF_range (b : List UInt8) : ∀ x ∈ quoteF b, 32 ≤ x.toNat ∧ x.toNat ≤ 126 := by
  intro x hx
  unfold quoteF at hx
  simp only [List.mem_cons, List.mem_append, List.not_mem_nil, or_false] at hx
  rcases hx with rfl | hx | rfl
  · decide
  · unfold quoteIn at hx
    obtain ⟨y, hy, hxy⟩ := List.mem_flatten.1 hx
    obtain ⟨c, _, rfl⟩ := List.mem_map.1 hy
    exact quoteB_range c x hxy
  · decide
end Go.Proofs.Ytioddambldnfnaa.Rw
