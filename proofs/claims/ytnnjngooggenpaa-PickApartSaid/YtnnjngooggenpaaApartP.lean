/-
  PickApart: the plain law.
-/
import Derived.Test.YtnnjngooggenpaaPkF
namespace Go.Proofs.Ytnnjngooggenpaa
open Go.RowKit

/-- No two have a number in common. -/
def Distinct (L : List Fi) : Prop := ∀ i k (hi : i < L.length) (hk : k < L.length), L[i].nu = L[k].nu → i = k
theorem Distinct.eq {L : List Fi} (h : Distinct L) {x y : Fi} (hx : x ∈ L) (hy : y ∈ L) (e : x.nu = y.nu) : x = y := by
  obtain ⟨i, hi, rfl⟩ := List.mem_iff_getElem.1 hx
  obtain ⟨k, hk, rfl⟩ := List.mem_iff_getElem.1 hy
  have := h i k hi hk e
  subst this
  rfl
theorem minF_mem (x : Fi) (l : List Fi) : minF x l ∈ x :: l := by
  induction l generalizing x with
  | nil => simp [minF]
  | cons y l ih =>
    show minF (if y.nu < x.nu then y else x) l ∈ _
    have h := ih (if y.nu < x.nu then y else x)
    rcases List.mem_cons.1 h with h | h
    · rw [h]
      split <;> simp
    · exact List.mem_cons_of_mem _ (List.mem_cons_of_mem _ h)
theorem inK_cons (lv : Int) (y : Fi) (K : List Fi) : inK lv (y :: K) = if 0 < lv then [minF y K] else y :: K := rfl
theorem inK_mem {lv : Int} {K : List Fi} {x : Fi} (h : x ∈ inK lv K) : x ∈ K := by
  cases K with
  | nil => exact h
  | cons y K =>
    rw [inK_cons] at h
    split at h
    · rw [List.mem_singleton.1 h]; exact minF_mem y K
    · exact h
theorem ofL_mem {L : List Fi} {lv : Int} {x : Fi} : x ∈ ofL L lv ↔ x ∈ L ∧ x.lv = lv := by
  unfold ofL; simp
theorem ovL_mem {L : List Fi} {lv v : Int} {p q : ByteArray} : v ∈ ovL L lv p q ↔ ∃ x ∈ L, x.lv = lv ∧ meets p q x = true ∧ x.nu = v := by
  unfold ovL
  simp only [List.mem_map, List.mem_filter, ofL_mem]
  constructor
  · rintro ⟨x, ⟨⟨h1, h2⟩, h3⟩, h4⟩; exact ⟨x, h1, h2, h3, h4⟩
  · rintro ⟨x, h1, h2, h3, h4⟩; exact ⟨x, ⟨⟨h1, h2⟩, h3⟩, h4⟩
theorem numsK_form (L : List Fi) (lv : Int) (K : List Fi) : ∃ p q, numsK L lv K = K.map (·.nu) ++ (if K = [] then [] else ovL L (lv + 1) p q) ∧ ∀ x t, K = x :: t → p = loF x.f K ∧ q = hiF x.l K := by
  cases K with
  | nil => exact ⟨⟨#[]⟩, ⟨#[]⟩, by simp [numsK], fun x t h => by cases h⟩
  | cons x K => exact ⟨_, _, by rw [if_neg (by simp)]; rfl, fun y t h => by injection h with h1 h2; subst h1; subst h2; exact ⟨rfl, rfl⟩⟩
theorem pick_true {L : List Fi} {base ratio : Nat} (h : (pickOf L base ratio).2.2 = true) : 0 ≤ (pickOf L base ratio).1 ∧ (pickOf L base ratio).1 < 6 ∧ ofL L (pickOf L base ratio).1 ≠ [] ∧ (pickOf L base ratio).2.1 = numsK L (pickOf L base ratio).1 (inK (pickOf L base ratio).1 (ofL L (pickOf L base ratio).1)) := by
  have hb := pkSt_bd (sc L base ratio) 6
  unfold pickOf at h ⊢
  simp only [] at h ⊢
  split at h
  · cases h
  · rename_i hn
    rw [if_neg hn]
    simp only []
    have h1 : ¬ (pkSt (sc L base ratio) 6).1 < 0 := fun e => hn (.inl e)
    have h2 : ¬ ofL L (pkSt (sc L base ratio) 6).1 = [] := fun e => hn (.inr e)
    exact ⟨by omega, by omega, h2, trivial⟩
theorem pick_false {L : List Fi} {base ratio : Nat} (h : (pickOf L base ratio).2.2 = false) : (pickOf L base ratio).1 = 0 ∧ (pickOf L base ratio).2.1 = [] := by
  unfold pickOf at h ⊢
  simp only [] at h ⊢
  split at h
  · rename_i hn
    rw [if_pos hn]
    exact ⟨rfl, rfl⟩
  · cases h

/-- Whose number is picked lies in one of the two levels. -/
theorem apart_level {L K : List Fi} (hd : Distinct L) {n : Int} {m : List Int} (hK : ∀ x ∈ K, x ∈ L ∧ x.lv = n) (hm : m = numsK L n K) {x : Fi} (hx : x ∈ L) (h : x.nu ∈ m) : (x ∈ K ∧ x.lv = n) ∨ x.lv = n + 1 := by
  obtain ⟨p, q, e, _⟩ := numsK_form L n K
  rw [hm, e] at h
  rcases List.mem_append.1 h with h | h
  · obtain ⟨y, hy, e⟩ := List.mem_map.1 h
    have := hd.eq (hK y hy).1 hx e
    subst this
    exact .inl ⟨hy, (hK y hy).2⟩
  · split at h
    · cases h
    · obtain ⟨y, hy, h1, _, h2⟩ := ovL_mem.1 h
      have := hd.eq hy hx h2
      subst this
      exact .inr h1
theorem numsK_mem {L K : List Fi} {n : Int} {x : Fi} (h : x ∈ K) : x.nu ∈ numsK L n K := by
  obtain ⟨p, q, e, _⟩ := numsK_form L n K
  rw [e]
  exact List.mem_append.2 (.inl (List.mem_map.2 ⟨x, h, rfl⟩))
/-- What is picked of the level. -/
theorem picked_eq {L K : List Fi} (hd : Distinct L) {n : Int} {m : List Int} (hK : ∀ x ∈ K, x ∈ L ∧ x.lv = n) (hm : m = numsK L n K) {x : Fi} : x ∈ picked m n L ↔ x ∈ K := by
  unfold picked
  simp only [List.mem_filter, Bool.and_eq_true, decide_eq_true_eq]
  constructor
  · rintro ⟨h1, h2, h3⟩
    rcases apart_level hd hK hm h1 h3 with h | h
    · exact h.1
    · omega
  · intro h
    exact ⟨(hK x h).1, (hK x h).2, by rw [hm]; exact numsK_mem h⟩
theorem picked_one {L : List Fi} (hd : Distinct L) {n : Int} {m : List Int} {z : Fi} (h : ∀ x, x ∈ picked m n L ↔ x = z) : (picked m n L).length = 1 := by
  have hnd : (picked m n L).Nodup := by
    unfold picked
    refine List.Nodup.sublist List.filter_sublist ?_
    rw [List.nodup_iff_pairwise_ne, List.pairwise_iff_getElem]
    intro i k hi hk hik e
    have := hd i k hi hk (by rw [e])
    omega
  generalize picked m n L = P at *
  cases P with
  | nil => have := (h z).2 rfl; simp at this
  | cons x P =>
    cases P with
    | nil => rfl
    | cons y P =>
      have hx := (h x).1 (by simp)
      have hy := (h y).1 (by simp)
      rw [hx, hy] at hnd
      simp at hnd
theorem inK_zero (K : List Fi) : inK 0 K = K := by
  cases K with
  | nil => rfl
  | cons x K => rw [inK_cons, if_neg (by omega)]

/-- What the law asks. -/
structure ApartSays (L : List Fi) (n : Int) (m : List Int) : Prop where
  lo : 0 ≤ n
  hi : n < 6
  level : ∀ x ∈ L, x.nu ∈ m → x.lv = n ∨ x.lv = n + 1
  some_ : 0 < (picked m n L).length
  one : 0 < n → (picked m n L).length = 1
  all : n = 0 → ∀ x ∈ L, x.lv = 0 → x.nu ∈ m
  rest : n = 0 → ∀ x ∈ L, x.lv = 1 → x.nu ∉ m → inRange (stOf (picked m n L)) x = false
theorem apart_says {L : List Fi} (hd : Distinct L) {base ratio : Nat} (h : (pickOf L base ratio).2.2 = true) : ApartSays L (pickOf L base ratio).1 (pickOf L base ratio).2.1 := by
  obtain ⟨h1, h2, h3, h4⟩ := pick_true h
  generalize (pickOf L base ratio).1 = n at *
  generalize (pickOf L base ratio).2.1 = m at *
  have hK : ∀ x ∈ inK n (ofL L n), x ∈ L ∧ x.lv = n := fun x hx => ofL_mem.1 (inK_mem hx)
  have hpe : ∀ {x}, x ∈ picked m n L ↔ x ∈ inK n (ofL L n) := picked_eq hd hK h4
  have hp0 : n = 0 → picked m n L = ofL L n := by
    rintro rfl
    unfold picked ofL
    refine List.filter_congr (fun x hx => ?_)
    by_cases e : x.lv = 0
    · have : x.nu ∈ m := by rw [h4, inK_zero]; exact numsK_mem (ofL_mem.2 ⟨hx, e⟩)
      simp [e, this]
    · simp [e]
  refine ⟨h1, h2, fun x hx hm => ?_, ?_, fun hn => ?_, ?_, ?_⟩
  · rcases apart_level hd hK h4 hx hm with h | h
    · exact .inl h.2
    · exact .inr h
  · cases hk : ofL L n with
    | nil => exact absurd hk h3
    | cons y K =>
      by_cases hn : 0 < n
      · have : minF y K ∈ picked m n L := hpe.2 (by rw [hk, inK_cons, if_pos hn]; simp)
        exact List.length_pos_of_mem this
      · have : y ∈ picked m n L := hpe.2 (by rw [hk, inK_cons, if_neg hn]; simp)
        exact List.length_pos_of_mem this
  · cases hk : ofL L n with
    | nil => exact absurd hk h3
    | cons y K =>
      refine picked_one hd (z := minF y K) (fun x => ?_)
      rw [hpe, hk, inK_cons, if_pos hn]
      simp
  · rintro rfl x hx e
    rw [h4, inK_zero]
    exact numsK_mem (ofL_mem.2 ⟨hx, e⟩)
  · rintro rfl x hx e hno
    rw [hp0 rfl]
    cases hk : ofL L 0 with
    | nil => exact absurd hk h3
    | cons y K =>
      have hm : m = (y :: K).map (·.nu) ++ ovL L (0 + 1) (loF y.f (y :: K)) (hiF y.l (y :: K)) := by rw [h4, inK_zero, hk]; rfl
      have : ¬ meets (loF y.f (y :: K)) (hiF y.l (y :: K)) x = true := by
        intro hmt
        refine hno ?_
        rw [hm]
        exact List.mem_append.2 (.inr (ovL_mem.2 ⟨x, hx, by omega, hmt, rfl⟩))
      unfold meets at this
      unfold stOf inRange
      simpa using this
end Go.Proofs.Ytnnjngooggenpaa
