
/-
  Merge, plain: lists laid together by a heap of their beginnings. Of no program.
-/
import Derived.Test.YtkeggcfnoonakaaGreatCmp
set_option linter.unusedSimpArgs false
set_option linter.unusedVariables false
namespace Go.Proofs.YtkeggcfnoonakaaGreat
open Go.Lib

abbrev KV := ByteArray × ByteArray
def kc (a b : ByteArray) : Int := compareBytes a.data.toList b.data.toList
theorem kc_self (a : ByteArray) : kc a a = 0 := cmp_self _
theorem kc_neg (a b : ByteArray) : kc b a = -kc a b := cmp_neg _ _
theorem kc_zero {a b : ByteArray} (h : kc a b = 0) : a = b := by
  cases a with | mk a => cases b with | mk b =>
  have : a = b := Array.toList_inj.1 (cmp_zero _ _ h)
  rw [this]
theorem kc_trans {a b c : ByteArray} (h1 : kc a b ≤ 0) (h2 : kc b c ≤ 0) : kc a c ≤ 0 ∧ (kc a b < 0 ∨ kc b c < 0 → kc a c < 0) := cmp_trans _ _ _ h1 h2

/-- What is left of a list, its number, and where it lies. -/
structure Hd where
  l : List KV
  n : Nat
  a : Option Addr
  c : Nat
def Hd.v (h : Hd) : Value := .slice h.a h.l.length h.c
def Hd.key (h : Hd) : ByteArray := match h.l with
  | [] => ByteArray.empty
  | p :: _ => p.1
def lessH (a b : Hd) : Bool := if kc a.key b.key = 0 then decide (a.n < b.n) else decide (kc a.key b.key < 0)
theorem lessH_asym {a b : Hd} (h : lessH a b = true) : lessH b a = false := by
  unfold lessH at h ⊢
  rw [kc_neg a.key b.key]
  by_cases h0 : kc a.key b.key = 0
  · rw [if_pos h0] at h
    rw [if_pos (by omega)]
    simp at h ⊢
    omega
  · rw [if_neg h0] at h
    rw [if_neg (by omega)]
    simp at h ⊢
    omega
theorem lessH_false {a b : Hd} : lessH a b = false ↔ kc b.key a.key < 0 ∨ (kc b.key a.key = 0 ∧ b.n ≤ a.n) := by
  unfold lessH
  rw [kc_neg b.key a.key]
  by_cases h0 : kc b.key a.key = 0
  · rw [if_pos (by omega)]
    simp
    omega
  · rw [if_neg (by omega)]
    simp
    omega
/-- at most, and at most: at most. -/
theorem leH_trans {a b c : Hd} (h1 : lessH b a = false) (h2 : lessH c b = false) : lessH c a = false := by
  rw [lessH_false] at h1 h2 ⊢
  have ht := @kc_trans a.key b.key c.key
  rcases h1 with h1 | ⟨h1, n1⟩ <;> rcases h2 with h2 | ⟨h2, n2⟩
  · exact .inl ((ht (by omega) (by omega)).2 (.inl h1))
  · exact .inl ((ht (by omega) (by omega)).2 (.inl h1))
  · exact .inl ((ht (by omega) (by omega)).2 (.inr h2))
  · have e1 := kc_zero h1
    have e2 := kc_zero h2
    exact .inr ⟨by rw [e1, e2]; exact kc_self _, by omega⟩
theorem leH_self (a : Hd) : lessH a a = false := by
  rw [lessH_false]
  exact .inr ⟨kc_self _, Nat.le_refl _⟩

/-! ### The heap. -/
def at_ (l : List Hd) (i : Nat) : Hd := l.getD i ⟨[], 0, none, 0⟩
def swp (l : List Hd) (i j : Nat) : List Hd := (l.set i (at_ l j)).set j (at_ l i)
theorem at_get {l : List Hd} {i : Nat} (h : i < l.length) : at_ l i = l[i] := by
  unfold at_
  rw [List.getD_eq_getElem?_getD, List.getElem?_eq_getElem h]
  rfl
theorem swp_len (l : List Hd) (i j : Nat) : (swp l i j).length = l.length := by simp [swp]
theorem at_swp {l : List Hd} {i j : Nat} (hi : i < l.length) (hj : j < l.length) (k : Nat) : at_ (swp l i j) k = if k = j then at_ l i else if k = i then at_ l j else at_ l k := by
  unfold swp
  by_cases hk : k < l.length
  · rw [at_get (by simpa using hk)]
    rw [List.getElem_set]
    by_cases h1 : k = j
    · rw [if_pos h1.symm, if_pos h1]
    · rw [if_neg (fun e => h1 e.symm), if_neg h1, List.getElem_set]
      by_cases h2 : k = i
      · rw [if_pos h2.symm, if_pos h2]
      · rw [if_neg (fun e => h2 e.symm), if_neg h2, at_get hk]
  · rw [if_neg (by omega), if_neg (by omega)]
    have e1 : ((l.set i (at_ l j)).set j (at_ l i))[k]? = none := List.getElem?_eq_none (by simp; omega)
    have e2 : l[k]? = none := List.getElem?_eq_none (by omega)
    show ((l.set i (at_ l j)).set j (at_ l i)).getD k _ = l.getD k _
    rw [List.getD_eq_getElem?_getD, List.getD_eq_getElem?_getD, e1, e2]
theorem swp_perm {l : List Hd} {i j : Nat} (hi : i < l.length) (hj : j < l.length) : (swp l i j).Perm l := by
  unfold swp
  rw [at_get hi, at_get hj]
  exact List.set_set_perm hi hj
theorem swp_self {l : List Hd} {i : Nat} (hi : i < l.length) : swp l i i = l := by
  unfold swp
  rw [at_get hi]
  simp only [List.set_getElem_self]
/-- From number s on a father is at most his sons. -/
def Hp (s n : Nat) (l : List Hd) : Prop := ∀ c, 0 < c → c < n → s ≤ (c - 1) / 2 → lessH (at_ l c) (at_ l ((c - 1) / 2)) = false
theorem hp_root {n : Nat} {l : List Hd} (h : Hp 0 n l) : ∀ k, k < n → lessH (at_ l k) (at_ l 0) = false := by
  intro k
  induction k using Nat.strongRecOn with
  | _ k ih =>
    intro hk
    by_cases h0 : k = 0
    · subst h0; exact leH_self _
    · exact leH_trans (ih ((k - 1) / 2) (by omega) (by omega)) (h k (by omega) hk (Nat.zero_le _))
/-- While an element goes down: it stands at i. -/
structure Sift (s n : Nat) (l : List Hd) (i : Nat) : Prop where
  ge : s ≤ i
  oth : ∀ c, 0 < c → c < n → s ≤ (c - 1) / 2 → (c - 1) / 2 ≠ i → lessH (at_ l c) (at_ l ((c - 1) / 2)) = false
  up : ∀ c, 0 < c → c < n → (c - 1) / 2 = i → 0 < i → s ≤ (i - 1) / 2 → lessH (at_ l c) (at_ l ((i - 1) / 2)) = false
theorem Sift.start {s n : Nat} {l : List Hd} (h : Hp (s + 1) n l) : Sift s n l s :=
  ⟨Nat.le_refl _, fun c h0 h1 h2 h3 => h c h0 h1 (by omega), fun c h0 h1 h2 h3 h4 => by omega⟩
/-- The lesser son. -/
def son (n : Nat) (l : List Hd) (i : Nat) : Nat := if 2 * i + 2 < n ∧ lessH (at_ l (2 * i + 2)) (at_ l (2 * i + 1)) = true then 2 * i + 2 else 2 * i + 1
theorem son_lt {n : Nat} {l : List Hd} {i : Nat} (h : 2 * i + 1 < n) : son n l i < n ∧ i < son n l i ∧ 0 < son n l i ∧ (son n l i - 1) / 2 = i := by
  unfold son
  split <;> omega
theorem son_le {n : Nat} {l : List Hd} {i c : Nat} (h0 : 0 < c) (hc : c < n) (hi : (c - 1) / 2 = i) : lessH (at_ l c) (at_ l (son n l i)) = false := by
  unfold son
  rcases (by omega : c = 2 * i + 1 ∨ c = 2 * i + 2) with rfl | rfl
  · split
    · rename_i h
      exact lessH_asym h.2
    · exact leH_self _
  · split
    · exact leH_self _
    · rename_i h
      cases e : lessH (at_ l (2 * i + 2)) (at_ l (2 * i + 1)) with
      | false => rfl
      | true => exact absurd ⟨hc, e⟩ h
theorem Sift.step {s n : Nat} {l : List Hd} {i : Nat} (h : Sift s n l i) (hn : n ≤ l.length) (h1 : 2 * i + 1 < n) (hl : lessH (at_ l (son n l i)) (at_ l i) = true) : Sift s n (swp l i (son n l i)) (son n l i) := by
  have hs := h.ge
  obtain ⟨j1, j2, j0, j3⟩ := son_lt (l := l) h1
  have hle : ∀ c, 0 < c → c < n → (c - 1) / 2 = i → lessH (at_ l c) (at_ l (son n l i)) = false := fun c a b e => son_le a b e
  generalize son n l i = j at j1 j2 j0 j3 hle hl ⊢
  have hil : i < l.length := by omega
  have hjl : j < l.length := by omega
  have hat := at_swp hil hjl
  refine ⟨by omega, fun c h0 hc hp hpj => ?_, fun c h0 hc hp hj0 hsp => ?_⟩
  · rw [hat c, hat ((c - 1) / 2), if_neg hpj]
    by_cases hpi : (c - 1) / 2 = i
    · rw [if_pos hpi]
      by_cases hcj : c = j
      · rw [if_pos hcj]
        exact lessH_asym hl
      · rw [if_neg hcj, if_neg (by omega)]
        exact hle c h0 hc hpi
    · rw [if_neg hpi, if_neg (by intro e; subst e; exact hpi j3)]
      by_cases hci : c = i
      · subst hci
        rw [if_pos rfl]
        exact h.up j j0 j1 j3 h0 hp
      · rw [if_neg hci]
        exact h.oth c h0 hc hp hpi
  · rw [hat c, hat ((j - 1) / 2), if_neg (by omega), if_neg (by omega), j3, if_neg (by omega), if_pos rfl]
    have := h.oth c h0 hc (by omega) (by omega)
    rwa [hp] at this
theorem Sift.leaf {s n : Nat} {l : List Hd} {i : Nat} (h : Sift s n l i) (h1 : n ≤ 2 * i + 1) : Hp s n l := fun c h0 hc hp => h.oth c h0 hc hp (by omega)
theorem Sift.stop {s n : Nat} {l : List Hd} {i : Nat} (h : Sift s n l i) (hl : lessH (at_ l (son n l i)) (at_ l i) = false) : Hp s n l := by
  intro c h0 hc hp
  by_cases hi : (c - 1) / 2 = i
  · rw [hi]
    exact leH_trans hl (son_le h0 hc hi)
  · exact h.oth c h0 hc hp hi

/-! ### What is laid together. -/
def hasK (l : List KV) (k : ByteArray) : Prop := ∃ q ∈ l, q.1 = k
/-- The keys go up. -/
def Ris (l : List KV) : Prop := l.Pairwise (fun a b => kc a.1 b.1 < 0)
/-- A pair is the first list's that has its key. -/
def First (L : List (List KV)) (q : KV) : Prop := ∃ (n : Nat) (l : List KV), L[n]? = some l ∧ q ∈ l ∧ ∀ (m : Nat) (l' : List KV), m < n → L[m]? = some l' → ∀ p ∈ l', p.1 ≠ q.1
structure Laid (L : List (List KV)) (out : List KV) : Prop where
  ris : Ris out
  fst : ∀ q ∈ out, First L q
  all : ∀ l ∈ L, ∀ p ∈ l, hasK out p.1
/-- While they are laid together. -/
structure Inv (L : List (List KV)) (hs : List Hd) (out : List KV) : Prop where
  suf : ∀ h ∈ hs, ∃ pre, L[h.n]? = some (pre ++ h.l) ∧ ∀ p ∈ pre, hasK out p.1
  all : ∀ (n : Nat) (l : List KV), L[n]? = some l → (∃ h ∈ hs, h.n = n) ∨ ∀ p ∈ l, hasK out p.1
  ris : Ris out
  le : ∀ h ∈ hs, ∀ p ∈ h.l, ∀ q ∈ out, kc q.1 p.1 ≤ 0
  fst : ∀ q ∈ out, First L q
theorem Inv.perm {L : List (List KV)} {hs hs' : List Hd} {out : List KV} (h : Inv L hs out) (hp : hs'.Perm hs) : Inv L hs' out :=
  ⟨fun x hx => h.suf x (hp.mem_iff.1 hx), fun n l hn => (h.all n l hn).imp (fun ⟨x, hx, e⟩ => ⟨x, hp.mem_iff.2 hx, e⟩) id, h.ris, fun x hx => h.le x (hp.mem_iff.1 hx), h.fst⟩
theorem Inv.done {L : List (List KV)} {out : List KV} (h : Inv L [] out) : Laid L out :=
  ⟨h.ris, h.fst, fun l hl p hp => by
    obtain ⟨n, hn, rfl⟩ := List.mem_iff_getElem.1 hl
    rcases h.all n _ (List.getElem?_eq_getElem hn) with ⟨x, hx, _⟩ | h
    · simp at hx
    · exact h p hp⟩
theorem ris_le {p : KV} {l : List KV} (h : Ris (p :: l)) : ∀ q ∈ p :: l, kc p.1 q.1 ≤ 0 := by
  intro q hq
  rcases List.mem_cons.1 hq with rfl | hq
  · rw [kc_self]; omega
  · have := (List.pairwise_cons.1 h).1 q hq
    omega
theorem ris_last {l : List KV} {q : KV} (h : Ris (l ++ [q])) : ∀ p ∈ l ++ [q], kc p.1 q.1 ≤ 0 := by
  intro p hp
  rcases List.mem_append.1 hp with hp | hp
  · have := (List.pairwise_append.1 h).2.2 p hp q (by simp)
    omega
  · rw [List.mem_singleton] at hp
    subst hp
    rw [kc_self]; omega
theorem hasK_app {l l2 : List KV} {k : ByteArray} (h : hasK l k) : hasK (l ++ l2) k := by
  obtain ⟨q, hq, e⟩ := h
  exact ⟨q, List.mem_append_left _ hq, e⟩
/-- What a round makes of the pairs that are laid. -/
def emit (out : List KV) (p : KV) : List KV := match out.getLast? with
  | none => [p]
  | some q => if q.1 = p.1 then out else out ++ [p]
def rest (xs : List KV) (n : Nat) (a : Option Addr) (c : Nat) (t : List Hd) : List Hd := if xs = [] then t else ⟨xs, n, a, c⟩ :: t
theorem ris_suf {L : List (List KV)} (hL : ∀ l ∈ L, Ris l) {n : Nat} {pre xs : List KV} (h : L[n]? = some (pre ++ xs)) : Ris xs :=
  (List.pairwise_append.1 (hL _ (List.mem_of_getElem? h))).2.1
theorem Inv.step {L : List (List KV)} (hL : ∀ l ∈ L, Ris l) {p : KV} {xs : List KV} {n : Nat} {t : List Hd} {out : List KV} {a : Option Addr} {c : Nat} (a' : Option Addr) (c' : Nat) (h : Inv L (⟨p :: xs, n, a, c⟩ :: t) out) (hne : ∀ x ∈ t, x.l ≠ []) (hmin : ∀ x ∈ t, lessH x ⟨p :: xs, n, a, c⟩ = false) : Inv L (rest xs n a' c' t) (emit out p) := by
  obtain ⟨pre, hpre, hpk⟩ := h.suf _ (List.mem_cons_self)
  simp only at hpre hpk
  have hr := ris_suf hL hpre
  -- all that is left is at least p
  have hge : ∀ x ∈ (⟨p :: xs, n, a, c⟩ : Hd) :: t, ∀ q ∈ x.l, kc p.1 q.1 ≤ 0 := by
    intro x hx q hq
    rcases List.mem_cons.1 hx with rfl | hx
    · exact ris_le hr q hq
    · obtain ⟨pre', h1, _⟩ := h.suf x (List.mem_cons_of_mem _ hx)
      have h2 := ris_suf hL h1
      have h3 := hmin x hx
      rw [lessH_false] at h3
      obtain ⟨x1, x2, x3, x4⟩ := x
      cases x1 with
      | nil => simp at hq
      | cons r rs =>
        have h4 : kc p.1 r.1 ≤ 0 := by
          simp only [Hd.key] at h3
          omega
        exact (kc_trans h4 (ris_le h2 q hq)).1
  have hsub : ∀ x ∈ rest xs n a' c' t, x = ⟨xs, n, a', c'⟩ ∨ x ∈ t := by
    intro x hx
    unfold rest at hx
    split at hx
    · exact .inr hx
    · exact List.mem_cons.1 hx
  have hple : ∀ q ∈ out, kc q.1 p.1 ≤ 0 := fun q hq => h.le _ (List.mem_cons_self) p (by simp) q hq
  -- the pair's key is there behind the round, and what was there stays
  have hem : hasK (emit out p) p.1 ∧ (∀ k, hasK out k → hasK (emit out p) k) ∧ Ris (emit out p) ∧ (∀ q ∈ emit out p, q ∈ out ∨ (q = p ∧ ¬ hasK out p.1)) := by
    unfold emit
    cases hl : out.getLast? with
    | none =>
      have := List.getLast?_eq_none_iff.1 hl
      subst this
      exact ⟨⟨p, by simp, rfl⟩, fun k ⟨q, hq, _⟩ => by simp at hq, List.pairwise_singleton _ _, fun q hq => .inr ⟨by simpa using hq, fun ⟨q, hq, _⟩ => by simp at hq⟩⟩
    | some q =>
      obtain ⟨ys, rfl⟩ := List.getLast?_eq_some_iff.1 hl
      simp only
      split
      · rename_i e
        exact ⟨⟨q, by simp, e⟩, fun k hk => hk, h.ris, fun q hq => .inl hq⟩
      · rename_i e
        have hnk : ∀ r ∈ ys ++ [q], kc r.1 p.1 < 0 := by
          intro r hr
          have h1 := ris_last h.ris r hr
          have h2 := hple q (by simp)
          have h3 : kc q.1 p.1 ≠ 0 := fun e2 => e (kc_zero e2)
          exact (kc_trans h1 h2).2 (.inr (by omega))
        refine ⟨⟨p, by simp, rfl⟩, fun k hk => hasK_app hk, ?_, fun r hr => ?_⟩
        · exact List.pairwise_append.2 ⟨h.ris, List.pairwise_singleton _ _, fun a ha b hb => by rw [List.mem_singleton] at hb; subst hb; exact hnk a ha⟩
        · rcases List.mem_append.1 hr with hr | hr
          · exact .inl hr
          · refine .inr ⟨by simpa using hr, fun ⟨r, hr, e3⟩ => ?_⟩
            have := hnk r hr
            rw [e3, kc_self] at this
            omega
  obtain ⟨e1, e2, e3, e4⟩ := hem
  refine ⟨fun x hx => ?_, fun m l hm => ?_, e3, fun x hx q hq r hr => ?_, fun q hq => ?_⟩
  · rcases hsub x hx with rfl | hx
    · refine ⟨pre ++ [p], by simpa using hpre, fun q hq => ?_⟩
      rcases List.mem_append.1 hq with hq | hq
      · exact e2 _ (hpk q hq)
      · rw [List.mem_singleton] at hq
        subst hq
        exact e1
    · obtain ⟨pre', h1, h2⟩ := h.suf x (List.mem_cons_of_mem _ hx)
      exact ⟨pre', h1, fun q hq => e2 _ (h2 q hq)⟩
  · rcases h.all m l hm with ⟨x, hx, rfl⟩ | h1
    · rcases List.mem_cons.1 hx with rfl | hx
      · by_cases hxs : xs = []
        · subst hxs
          right
          simp only at hm
          rw [hpre] at hm
          obtain rfl := Option.some.inj hm
          intro q hq
          rcases List.mem_append.1 hq with hq | hq
          · exact e2 _ (hpk q hq)
          · rw [List.mem_singleton] at hq
            subst hq
            exact e1
        · exact .inl ⟨⟨xs, n, a', c'⟩, by unfold rest; rw [if_neg hxs]; simp, rfl⟩
      · exact .inl ⟨x, by unfold rest; split; exact hx; exact List.mem_cons_of_mem _ hx, rfl⟩
    · exact .inr (fun q hq => e2 _ (h1 q hq))
  · have hx2 : ∃ y ∈ (⟨p :: xs, n, a, c⟩ : Hd) :: t, q ∈ y.l := by
      rcases hsub x hx with rfl | hx
      · exact ⟨_, List.mem_cons_self, List.mem_cons_of_mem _ hq⟩
      · exact ⟨x, List.mem_cons_of_mem _ hx, hq⟩
    obtain ⟨y, hy, hqy⟩ := hx2
    rcases e4 r hr with hr | ⟨rfl, _⟩
    · exact h.le y hy q hqy r hr
    · exact hge y hy q hqy
  · rcases e4 q hq with hq | ⟨rfl, hno⟩
    · exact h.fst q hq
    · refine ⟨n, _, hpre, by simp, fun m l' hm hl' r hr e => ?_⟩
      rcases h.all m l' hl' with ⟨x, hx, rfl⟩ | h1
      · rcases List.mem_cons.1 hx with rfl | hx
        · exact absurd hm (Nat.lt_irrefl _)
        · obtain ⟨pre', h2, h3⟩ := h.suf x (List.mem_cons_of_mem _ hx)
          rw [hl'] at h2
          obtain rfl := Option.some.inj h2
          rcases List.mem_append.1 hr with hr | hr
          · exact hno (e ▸ h3 r hr)
          · have h4 := ris_suf hL hl'
            have h5 := hmin x hx
            rw [lessH_false] at h5
            obtain ⟨x1, x2, x3, x4⟩ := x
            cases x1 with
            | nil => simp at hr
            | cons y ys =>
              have h6 := ris_le h4 r hr
              rw [e, kc_neg] at h6
              simp only [Hd.key] at h5 hm
              omega
      · exact hno (e ▸ h1 r hr)
/-- Strictly rising lists that have the same pairs are the same. -/
theorem ris_ext : ∀ {a b : List KV}, Ris a → Ris b → (∀ q, q ∈ a ↔ q ∈ b) → a = b
  | [], [], _, _, _ => rfl
  | [], y :: b, _, _, h => by have := (h y).2 (by simp); simp at this
  | x :: a, [], _, _, h => by have := (h x).1 (by simp); simp at this
  | x :: a, y :: b, ha, hb, h => by
    obtain ⟨a1, a2⟩ := List.pairwise_cons.1 ha
    obtain ⟨b1, b2⟩ := List.pairwise_cons.1 hb
    have hxy : x = y := by
      rcases List.mem_cons.1 ((h x).1 (by simp)) with e | e
      · exact e
      · rcases List.mem_cons.1 ((h y).2 (by simp)) with e2 | e2
        · exact e2.symm
        · have h1 := b1 x e
          have h2 := a1 y e2
          rw [kc_neg] at h2
          omega
    subst hxy
    rw [ris_ext a2 b2 (fun q => ?_)]
    constructor
    · intro hq
      rcases List.mem_cons.1 ((h q).1 (List.mem_cons_of_mem _ hq)) with e | e
      · subst e; have := a1 q hq; rw [kc_self] at this; omega
      · exact e
    · intro hq
      rcases List.mem_cons.1 ((h q).2 (List.mem_cons_of_mem _ hq)) with e | e
      · subst e; have := b1 q hq; rw [kc_self] at this; omega
      · exact e
theorem ris_key {l : List KV} (h : Ris l) {a b : KV} (ha : a ∈ l) (hb : b ∈ l) (e : a.1 = b.1) : a = b := by
  induction l with
  | nil => simp at ha
  | cons x l ih =>
    obtain ⟨h1, h2⟩ := List.pairwise_cons.1 h
    rcases List.mem_cons.1 ha with ea | ha2 <;> rcases List.mem_cons.1 hb with eb | hb2
    · rw [ea, eb]
    · have := h1 b hb2; rw [← e, ea, kc_self] at this; omega
    · have := h1 a ha2; rw [e, eb, kc_self] at this; omega
    · exact ih h2 ha2 hb2
theorem First.uniq {L : List (List KV)} (hL : ∀ l ∈ L, Ris l) {p q : KV} (hp : First L p) (hq : First L q) (e : p.1 = q.1) : p = q := by
  obtain ⟨n, l, h1, h2, h3⟩ := hp
  obtain ⟨m, l', k1, k2, k3⟩ := hq
  have hnm : n = m := by
    rcases Nat.lt_trichotomy n m with h | h | h
    · exact absurd e (k3 n l h h1 p h2)
    · exact h
    · exact absurd e.symm (h3 m l' h k1 q k2)
  subst hnm
  rw [h1] at k1
  obtain rfl := Option.some.inj k1
  exact ris_key (hL _ (List.mem_of_getElem? h1)) h2 k2 e
theorem Laid.mem {L : List (List KV)} {out : List KV} (hL : ∀ l ∈ L, Ris l) (h : Laid L out) (q : KV) : q ∈ out ↔ First L q := by
  refine ⟨h.fst q, fun hq => ?_⟩
  obtain ⟨n, l, h1, h2, _⟩ := id hq
  obtain ⟨r, hr, e⟩ := h.all l (List.mem_of_getElem? h1) q h2
  rw [← First.uniq hL (h.fst r hr) hq e]
  exact hr
theorem Laid.uniq {L : List (List KV)} {a b : List KV} (hL : ∀ l ∈ L, Ris l) (ha : Laid L a) (hb : Laid L b) : a = b :=
  ris_ext ha.ris hb.ris (fun q => (ha.mem hL q).trans (hb.mem hL q).symm)
/-- At the beginning: what is not empty of the lists. -/
def Begun (L : List (List KV)) (hs : List Hd) : Prop := (∀ h ∈ hs, L[h.n]? = some h.l ∧ h.l ≠ []) ∧ ∀ (n : Nat) (l : List KV), L[n]? = some l → l ≠ [] → ∃ h ∈ hs, h.n = n
theorem Begun.nil : Begun [] [] := ⟨fun h hh => by simp at hh, fun n l h => by simp at h⟩
theorem Begun.skip {L : List (List KV)} {hs : List Hd} (h : Begun L hs) : Begun (L ++ [[]]) hs := by
  refine ⟨fun x hx => ?_, fun n l hn hl => ?_⟩
  · obtain ⟨h1, h2⟩ := h.1 x hx
    exact ⟨by rw [List.getElem?_append_left (List.getElem?_eq_some_iff.1 h1).1]; exact h1, h2⟩
  · by_cases hlt : n < L.length
    · rw [List.getElem?_append_left hlt] at hn
      exact h.2 n l hn hl
    · rw [List.getElem?_append_right (by omega)] at hn
      obtain ⟨h1, h2⟩ := List.getElem?_eq_some_iff.1 hn
      simp at h1
      simp [h1] at h2
      exact absurd h2 hl
theorem Begun.snoc {L : List (List KV)} {hs : List Hd} (h : Begun L hs) {x : List KV} (hx : x ≠ []) (a : Option Addr) (c : Nat) : Begun (L ++ [x]) (hs ++ [⟨x, L.length, a, c⟩]) := by
  refine ⟨fun y hy => ?_, fun n l hn hl => ?_⟩
  · rcases List.mem_append.1 hy with hy | hy
    · obtain ⟨h1, h2⟩ := h.1 y hy
      exact ⟨by rw [List.getElem?_append_left (List.getElem?_eq_some_iff.1 h1).1]; exact h1, h2⟩
    · rw [List.mem_singleton] at hy
      subst hy
      exact ⟨by simp, hx⟩
  · by_cases hlt : n < L.length
    · rw [List.getElem?_append_left hlt] at hn
      obtain ⟨y, hy, e⟩ := h.2 n l hn hl
      exact ⟨y, List.mem_append_left _ hy, e⟩
    · have := (List.getElem?_eq_some_iff.1 hn).1
      simp at this
      exact ⟨_, List.mem_append_right _ (List.mem_singleton.2 rfl), by show L.length = n; omega⟩
theorem Inv.start {L : List (List KV)} {hs : List Hd} (h : Begun L hs) : Inv L hs [] := by
  refine ⟨fun x hx => ⟨[], by simpa using (h.1 x hx).1, fun p hp => by simp at hp⟩, fun n l hn => ?_, List.Pairwise.nil, fun _ _ _ _ q hq => by simp at hq, fun q hq => by simp at hq⟩
  by_cases hl : l = []
  · right
    intro p hp
    rw [hl] at hp
    simp at hp
  · exact .inl (h.2 n l hn hl)
theorem Laid.groups {L : List (List KV)} {k : Nat} {a b c : List KV} (ha : Laid (L.take k) a) (hb : Laid (L.drop k) b) (hc : Laid [a, b] c) (hk : k ≤ L.length) : Laid L c := by
  refine ⟨hc.ris, fun q hq => ?_, fun l hl p hp => ?_⟩
  · obtain ⟨n, l, h1, h2, h3⟩ := hc.fst q hq
    rcases (by have := (List.getElem?_eq_some_iff.1 h1).1; simp at this; omega : n = 0 ∨ n = 1) with rfl | rfl
    · simp at h1
      subst h1
      obtain ⟨m, l, k1, k2, k3⟩ := ha.fst q h2
      have hm := (List.getElem?_eq_some_iff.1 k1).1
      rw [List.length_take] at hm
      refine ⟨m, l, by rw [List.getElem?_take_of_lt (by omega)] at k1; exact k1, k2, fun j l' hj hl' => k3 j l' hj (by rw [List.getElem?_take_of_lt (by omega)]; exact hl')⟩
    · simp at h1
      subst h1
      obtain ⟨m, l, k1, k2, k3⟩ := hb.fst q h2
      rw [List.getElem?_drop] at k1
      refine ⟨k + m, l, k1, k2, fun j l' hj hl' r hr e => ?_⟩
      by_cases hjk : j < k
      · obtain ⟨u, hu, e2⟩ := ha.all l' (List.mem_of_getElem? (i := j) (by rw [List.getElem?_take_of_lt hjk]; exact hl')) r hr
        exact h3 0 a (by omega) rfl u hu (e2.trans e)
      · exact k3 (j - k) l' (by omega) (by rw [List.getElem?_drop, show k + (j - k) = j by omega]; exact hl') r hr e
  · rw [← List.take_append_drop k L] at hl
    rcases List.mem_append.1 hl with hl | hl
    · obtain ⟨u, hu, e⟩ := ha.all l hl p hp
      rw [← e]
      exact hc.all a (by simp) u hu
    · obtain ⟨u, hu, e⟩ := hb.all l hl p hp
      rw [← e]
      exact hc.all b (by simp) u hu
theorem Laid.self {L : List (List KV)} {a : List KV} (ha : Laid L a) : Laid [a, a, []] a :=
  ⟨ha.ris, fun q hq => ⟨0, a, rfl, hq, fun m l' hm => by omega⟩, fun l hl p hp => by
    simp at hl
    rcases hl with rfl | rfl
    · exact ⟨p, hp, rfl⟩
    · simp at hp⟩
end Go.Proofs.YtkeggcfnoonakaaGreat
