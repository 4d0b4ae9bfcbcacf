/-
  SkipFound: the plain law.
-/
import Derived.Test.YtnhieingcmnfaaaTwo
namespace Go.Proofs.Ytnhieingcmnfaaa
open Go.RowKit

theorem less_cmp : ∀ (a b : List UInt8), Op.bytesLess a b = decide (Lib.compareBytes a b < 0)
  | [], [] => by simp [Op.bytesLess, Lib.compareBytes]
  | [], _ :: _ => by simp [Op.bytesLess, Lib.compareBytes]
  | _ :: _, [] => by simp [Op.bytesLess, Lib.compareBytes]
  | a :: x, b :: y => by
    rw [Op.bytesLess, Lib.compareBytes, less_cmp x y]
    by_cases h : a < b
    · simp [h]
    · by_cases h2 : b < a
      · have hne : ¬ a = b := fun e => by subst e; exact h h2
        simp [h, h2, hne]
      · have e : a = b := by
          rw [UInt8.lt_iff_toNat_lt] at h h2
          exact UInt8.toNat_inj.1 (by omega)
        subst e
        simp [h]
theorem less_k (a b : ByteArray) : Op.bytesLess a.toList b.toList = decide (kcmp a b < 0) := by
  rw [less_cmp, ByteArray.toList_eq, ByteArray.toList_eq]
  rfl
theorem str_ne {a b : ByteArray} (h : a ≠ b) : (a.toList == b.toList) = false := by
  rw [beq_eq_false_iff_ne, ByteArray.toList_eq, ByteArray.toList_eq]
  intro e
  exact h (by cases a; cases b; simp only [ByteArray.mk.injEq]; exact Array.toList_inj.1 e)
theorem str_bne {a b : ByteArray} (h : a ≠ b) : (a.toList != b.toList) = true := by rw [bne, str_ne h]; rfl
theorem str_eq (a : ByteArray) : (a.toList == a.toList) = true := beq_self_eq_true _
theorem str_beq (a : ByteArray) : (a.toList != a.toList) = false := by rw [bne, str_eq]; rfl

theorem hasK_iff {E : List Nd} (hs : Sorted E) (k : ByteArray) : hasK E k = true ↔ ∃ n ∈ E, n.k = k := by
  constructor
  · intro h
    unfold hasK at h
    cases hn : E[below E k]? with
    | none => simp [hn] at h
    | some n => exact ⟨n, List.mem_of_getElem? hn, by simpa [hn] using h⟩
  · rintro ⟨n, hn, rfl⟩
    obtain ⟨q, hq⟩ := List.mem_iff_getElem?.1 hn
    unfold hasK
    rw [below_mem hs hq, hq]
    simp

/-- The value that goes with the i-th key. -/
def vb (i : Nat) : ByteArray := ⟨#[UInt8.ofNat i]⟩
abbrev gk (l : List ByteArray) (j : Nat) : ByteArray := l.getD j ⟨#[]⟩
/-- What is so behind i Puts. -/
def PfI (l : List ByteArray) (i : Nat) (E : List Nd) : Prop := E.length ≤ i ∧ (∀ n ∈ E, ∃ j, j < i ∧ n.k = gk l j ∧ n.v = vb j ∧ ∀ j', j' < j → gk l j' ≠ gk l j) ∧ ∀ j, j < i → ∃ n ∈ E, n.k = gk l j
theorem PfI.zero (l : List ByteArray) : PfI l 0 [] := ⟨by simp, by simp, by omega⟩
theorem PfI.step {l : List ByteArray} {i : Nat} {E : List Nd} (h : PfI l i E) (hs : Sorted E) {T : ByteArray} (hT : gk l i = T) (hsz : T.size ≤ 500) (hh : Int) : PfI l (i + 1) (putL E false T (vb i) hh) := by
  obtain ⟨h1, h2, h3⟩ := h
  have hvs : (vb i).size ≤ 65536 := by show 1 ≤ 65536; omega
  refine ⟨by have := putL_len E false T (vb i) hh; omega, fun n hn => ?_, fun j hj => ?_⟩
  · by_cases hin : n ∈ E
    · obtain ⟨j, a, b⟩ := h2 n hin
      exact ⟨j, by omega, b⟩
    · have hne : ¬ putL E false T (vb i) hh = E := fun e => hin (e ▸ hn)
      have hno : hasK E T = false := by
        cases hk : hasK E T
        · rfl
        · refine absurd ?_ hne
          unfold putL
          rw [putE_code (by omega) hvs, hk]
          rfl
      rcases putL_from hn with h | rfl
      · exact absurd h hin
      · refine ⟨i, by omega, hT.symm, rfl, fun j' hj' e => ?_⟩
        obtain ⟨m, hm, hmk⟩ := h3 j' hj'
        have := (hasK_iff hs T).2 ⟨m, hm, by rw [hmk, e, hT]⟩
        rw [hno] at this
        cases this
  · by_cases e : j = i
    · subst e
      rw [hT]
      exact putL_has (by omega) hvs
    · obtain ⟨n, hn, hk⟩ := h3 j (by omega)
      exact ⟨n, putL_sub hn, hk⟩

section
variable {l : List ByteArray} {i : Nat} {E : List Nd} (h : PfI l i E) (hs : Sorted E)
include h
theorem PfI.find {f : Nat} {T : ByteArray} (hf : f < i) (hT : gk l f = T) (hno : ∀ j, j < f → gk l j ≠ T) : ∃ n ∈ E, n.k = T ∧ n.v = vb f := by
  obtain ⟨n, hn, hk⟩ := h.2.2 f hf
  refine ⟨n, hn, hk.trans hT, ?_⟩
  obtain ⟨j, hj, hjk, hjv, hmin⟩ := h.2.1 n hn
  have e : gk l j = T := by rw [← hjk, hk, hT]
  have : j = f := by
    rcases Nat.lt_trichotomy j f with h | h | h
    · exact absurd e (hno j h)
    · exact h
    · exact absurd (hT.trans e.symm) (hmin f h)
  rw [hjv, this]
include hs
theorem PfI.get {f : Nat} {T : ByteArray} (hf : f < i) (hT : gk l f = T) (hno : ∀ j, j < f → gk l j ≠ T) : getOf E T = (vb f, 0) := by
  obtain ⟨n, hn, rfl, hv⟩ := h.find hf hT hno
  rw [get_mem hs hn, hv]
theorem PfI.from1 {f : Nat} {T : ByteArray} (hf : f < i) (hT : gk l f = T) (hno : ∀ j, j < f → gk l j ≠ T) : fromOf E T 1 = [(T, vb f)] := by
  obtain ⟨n, hn, rfl, hv⟩ := h.find hf hT hno
  obtain ⟨q, hq⟩ := List.mem_iff_getElem?.1 hn
  unfold fromOf
  rw [if_pos (by decide), below_mem hs hq]
  obtain ⟨hlt, hqe⟩ := List.getElem?_eq_some_iff.1 hq
  rw [List.drop_eq_getElem_cons hlt, hqe]
  simp [kvOf, hv]
theorem PfI.last (T : ByteArray) : ((lastOf E T).2.2 = true → kcmp (lastOf E T).1 T < 0) ∧ ∀ j, j < i → kcmp (gk l j) T < 0 → (lastOf E T).2.2 = true ∧ ¬ kcmp (lastOf E T).1 (gk l j) < 0 := by
  unfold lastOf
  cases hb : below E T with
  | zero =>
    refine ⟨fun e => ?_, fun j hj hlt => ?_⟩
    · cases hh : E[0 - 1]? <;> rw [hh] at e <;> cases e
    · obtain ⟨n, hn, hk⟩ := h.2.2 j hj
      obtain ⟨q, hq⟩ := List.mem_iff_getElem?.1 hn
      have := (below_iff hs T hq).1 (by rw [hk]; exact hlt)
      omega
  | succ m =>
    have hle := below_le E T
    have hm : m < E.length := by omega
    have hme : E[m + 1 - 1]? = some E[m] := by rw [Nat.add_sub_cancel]; exact List.getElem?_eq_getElem hm
    rw [hme]
    refine ⟨fun _ => (below_iff hs T (List.getElem?_eq_getElem hm)).2 (by omega), fun j hj hlt => ⟨rfl, fun hc => ?_⟩⟩
    obtain ⟨n, hn, hk⟩ := h.2.2 j hj
    obtain ⟨q, hq⟩ := List.mem_iff_getElem?.1 hn
    have hqm := (below_iff hs T hq).1 (by rw [hk]; exact hlt)
    have hc : kcmp E[m].k n.k < 0 := by rw [hk]; exact hc
    obtain ⟨hql, hqe⟩ := List.getElem?_eq_some_iff.1 hq
    rcases Nat.lt_or_ge q m with h1 | h1
    · have h2 := (List.pairwise_iff_getElem.1 hs) q m hql hm h1
      rw [hqe] at h2
      have := kcmp_trans hc h2
      rw [kcmp_self] at this
      omega
    · have : q = m := by omega
      subst this
      rw [hqe, kcmp_self] at hc
      omega
end
end Go.Proofs.Ytnhieingcmnfaaa
