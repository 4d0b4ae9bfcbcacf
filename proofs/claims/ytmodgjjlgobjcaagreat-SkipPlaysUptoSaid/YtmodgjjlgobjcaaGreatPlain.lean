/-
  Plain laws of lists of pairs; one list and its bound; texts and numbers that came in.
-/
import Derived.Test.YtmodgjjlgobjcaaGreatAlive
namespace Go.Proofs.YtmodgjjlgobjcaaGreat
open Go.RowKit

def StrsAt (w : World) (a : Option Addr) (len : Nat) (l : List ByteArray) : Prop :=
  l.length = len ∧ (len = 0 ∨ ∃ b off, a = some ⟨b, off, none⟩ ∧ b < w.heap.size ∧ ∀ i (hi : i < l.length), w.cell? ⟨b, off + i, none⟩ = some (.string l[i])) ∧ ∀ s ∈ l, s.size ≤ maxLen
def IntsAt (w : World) (a : Option Addr) (len : Nat) (l : List Int) : Prop :=
  l.length = len ∧ (len = 0 ∨ ∃ b off, a = some ⟨b, off, none⟩ ∧ b < w.heap.size ∧ ∀ i (hi : i < l.length), w.cell? ⟨b, off + i, none⟩ = some (.int .i64 l[i])) ∧ ∀ n ∈ l, (Lit.int .i64 n).wf = true

theorem int_wf {m : Int} (h : (Lit.int .i64 m).wf = true) : -9223372036854775808 ≤ m ∧ m ≤ 9223372036854775807 := by
  simp only [Lit.wf, Bool.and_eq_true, decide_eq_true_eq] at h
  exact ⟨h.1, h.2⟩

theorem add_none (b o n : Nat) : (⟨b, o, none⟩ : Addr).add n = ⟨b, o + n, none⟩ := by unfold Addr.add; split <;> simp_all

abbrev Sorted (E : List Nd) : Prop := E.Pairwise (fun a b => kcmp a.k b.k < 0)

theorem cmp_empty (a : ByteArray) : ¬ kcmp a ⟨#[]⟩ < 0 := by
  have h := kcmp_neg ⟨#[]⟩ a
  unfold kcmp at *
  cases e : a.data.toList with
  | nil => rw [e] at h; simp [Lib.compareBytes]
  | cons x l => simp [Lib.compareBytes]
theorem below_empty (E : List Nd) : below E ⟨#[]⟩ = 0 := by
  unfold below
  cases E with
  | nil => rfl
  | cons a E => simp [cmp_empty]

theorem below_mem {E : List Nd} (hs : Sorted E) {q : Nat} {n : Nd} (hq : E[q]? = some n) : below E n.k = q := by
  rcases Nat.lt_trichotomy (below E n.k) q with h | h | h
  · obtain ⟨m, hm⟩ : ∃ m, E[below E n.k]? = some m := ⟨_, List.getElem?_eq_getElem (by have := (List.getElem?_eq_some_iff.1 hq).1; omega)⟩
    have h1 : kcmp m.k n.k < 0 := by
      obtain ⟨h1, e1⟩ := List.getElem?_eq_some_iff.1 hm
      obtain ⟨h2, e2⟩ := List.getElem?_eq_some_iff.1 hq
      have := (List.pairwise_iff_getElem.1 hs) _ _ h1 h2 h
      rw [e1, e2] at this
      exact this
    have := (below_iff hs n.k hm).1 h1
    omega
  · exact h
  · have := (below_iff hs n.k hq).2 h
    rw [kcmp_self] at this
    omega
theorem get_mem {E : List Nd} (hs : Sorted E) {n : Nd} (hn : n ∈ E) : getOf E n.k = (n.v, 0) := by
  obtain ⟨q, hq⟩ := List.mem_iff_getElem?.1 hn
  unfold getOf
  rw [below_mem hs hq, hq]
  simp

theorem ins_mem_old {L : List Nd} {m : Nat} {x n : Nd} (h : n ∈ L) : n ∈ ins L m x := by
  unfold ins
  rw [← List.take_append_drop m L] at h
  rcases List.mem_append.1 h with h | h
  · exact List.mem_append_left _ h
  · exact List.mem_append_right _ (List.mem_cons_of_mem _ h)
theorem ins_mem_new (L : List Nd) (m : Nat) (x : Nd) : x ∈ ins L m x := by
  unfold ins
  exact List.mem_append_right _ (List.mem_cons_self)
theorem putL_sub {E : List Nd} {fr : Bool} {k v : ByteArray} {h : Int} {n : Nd} (hn : n ∈ E) : n ∈ putL E fr k v h := by
  unfold putL
  split
  · exact ins_mem_old hn
  · exact hn
theorem putL_from {E : List Nd} {fr : Bool} {k v : ByteArray} {h : Int} {n : Nd} (hn : n ∈ putL E fr k v h) : n ∈ E ∨ n = ⟨0, k, v, clampH h⟩ := by
  unfold putL at hn
  split at hn
  · exact (ins_mem hn).elim Or.inr Or.inl
  · exact Or.inl hn
theorem putE_code {E : List Nd} {k v : ByteArray} (hk : k.size ≤ 65536) (hv : v.size ≤ 65536) : putE E false k v = if hasK E k = true then 23 else 0 := by
  unfold putE
  rw [if_neg (by simp), if_neg (by omega)]
theorem putL_has {E : List Nd} {k v : ByteArray} {h : Int} (hk : k.size ≤ 65536) (hv : v.size ≤ 65536) : ∃ n ∈ putL E false k v h, n.k = k := by
  unfold putL
  rw [putE_code hk hv]
  cases hh : hasK E k
  · simp only [Bool.false_eq_true, if_false, if_true]
    exact ⟨_, ins_mem_new _ _ _, rfl⟩
  · simp only [if_true]
    rw [if_neg (by decide)]
    unfold hasK at hh
    cases hn : E[below E k]? with
    | none => simp [hn] at hh
    | some n => exact ⟨n, List.mem_of_getElem? hn, by simpa [hn] using hh⟩
theorem putE_frozen (E : List Nd) (k v : ByteArray) : putE E true k v = 30 := by simp [putE]
theorem putL_frozen (E : List Nd) (k v : ByteArray) (h : Int) : putL E true k v h = E := by unfold putL; rw [putE_frozen]; rfl
theorem from_all (E : List Nd) : fromOf E ⟨#[]⟩ (-1) = E.map kvOf := by
  unfold fromOf
  rw [if_neg (by decide), below_empty]
  rfl

/-- One list, all of whose blocks are B or above. -/
def NAt (B : Nat) (w : World) (sb : Nat) (E : List Nd) (fr : Bool) : Prop := ∃ F, SAt w F sb E fr ∧ ∀ q, F q → B ≤ q

theorem NAt.below {B : Nat} {w w' : World} {sb : Nat} {E : List Nd} {fr : Bool} (h : NAt B w sb E fr) (hb : Below w.heap.size w w') : NAt B w' sb E fr := by
  obtain ⟨F, hs, hF⟩ := h
  exact ⟨F, hs.below hb, hF⟩
theorem NAt.sorted {B : Nat} {w : World} {sb : Nat} {E : List Nd} {fr : Bool} (h : NAt B w sb E fr) : Sorted E := by
  obtain ⟨F, hs, _⟩ := h
  exact hs.sorted
theorem NAt.hts {B : Nat} {w : World} {sb : Nat} {E : List Nd} {fr : Bool} (h : NAt B w sb E fr) : ∀ n ∈ E, 1 ≤ n.h ∧ n.h ≤ 12 := by
  obtain ⟨F, hs, _⟩ := h
  exact hs.hts
theorem new_n (w : World) : Calls Tryz.prog 5 #[] w fun e w' => ∃ sb, e = .returned (.pointer (some ⟨sb, 0, none⟩)) ∧ NAt w.heap.size w' sb [] false ∧ Below w.heap.size w w' :=
  (new_s w).mono fun _ _ ⟨F, sb, he, hs, hF, hb⟩ => ⟨sb, he, ⟨F, hs, hF⟩, hb⟩
section
variable {B : Nat} {w : World} {sb : Nat} {E : List Nd} {fr : Bool} (s : NAt B w sb E fr)
include s
theorem put_n (hB : B ≤ w.heap.size) (k v : ByteArray) (h : Int) (hlen : E.length < 100000) :
    Calls Tryz.prog 6 #[.pointer (some ⟨sb, 0, none⟩), .string k, .string v, .int .i64 h] w fun e w' =>
      e = .returned (.int .i64 (putE E fr k v)) ∧ NAt B w' sb (putL E fr k v h) fr ∧ Below B w w' := by
  obtain ⟨F, hs, hF⟩ := s
  refine (put_s hs k v h hlen).mono ?_
  rintro e w' ⟨he, F', hs', ht, hF'⟩
  exact ⟨he, ⟨F', hs', fun q hq => (hF' q hq).elim (hF q) (fun h => by omega)⟩, ht.below hB hF⟩
theorem count_n : Calls Tryz.prog 19 #[.pointer (some ⟨sb, 0, none⟩)] w fun e w' => e = .returned (.int .i64 (E.length : Int)) ∧ w = w' := by
  obtain ⟨F, hs, _⟩ := s
  exact count_s hs
theorem bytes_n : Calls Tryz.prog 25 #[.pointer (some ⟨sb, 0, none⟩)] w fun e w' => e = .returned (.int .i64 (bytesOf E : Int)) ∧ w = w' := by
  obtain ⟨F, hs, _⟩ := s
  exact bytes_s hs
theorem frozen_n : Calls Tryz.prog 20 #[.pointer (some ⟨sb, 0, none⟩)] w fun e w' => e = .returned (.bool fr) ∧ w = w' := by
  obtain ⟨F, hs, _⟩ := s
  exact frozen_s hs
theorem freeze_n (hB : B ≤ w.heap.size) : Calls Tryz.prog 16 #[.pointer (some ⟨sb, 0, none⟩)] w fun e w' => e = .returned (.tuple #[]) ∧ NAt B w' sb E true ∧ Below B w w' := by
  obtain ⟨F, hs, hF⟩ := s
  exact (freeze_s hs).mono fun e w' ⟨he, hs', ht⟩ => ⟨he, ⟨F, hs', hF⟩, ht.below hB hF⟩
theorem get_n (k : ByteArray) : Calls Tryz.prog 8 #[.pointer (some ⟨sb, 0, none⟩), .string k] w fun e w' =>
      e = .returned (.tuple #[.string (getOf E k).1, .int .i64 (getOf E k).2]) ∧ Below w.heap.size w w' := by
  obtain ⟨F, hs, _⟩ := s
  exact get_s hs k
theorem from_n (k : ByteArray) (most : Int) (hm0 : -9223372036854775808 ≤ most) (hm1 : most ≤ 9223372036854775807) : Calls Tryz.prog 10 #[.pointer (some ⟨sb, 0, none⟩), .string k, .int .i64 most] w fun e w' =>
      ∃ v, e = .returned v ∧ OwnKv w' w.heap.size v (fromOf E k most) ∧ Below w.heap.size w w' := by
  obtain ⟨F, hs, _⟩ := s
  exact from_s hs k most hm0 hm1
theorem last_n (k : ByteArray) : Calls Tryz.prog 14 #[.pointer (some ⟨sb, 0, none⟩), .string k] w fun e w' =>
      e = .returned (.tuple #[.string (lastOf E k).1, .string (lastOf E k).2.1, .bool (lastOf E k).2.2]) ∧ Below w.heap.size w w' := by
  obtain ⟨F, hs, _⟩ := s
  exact last_s hs k
theorem steps_n (k : ByteArray) : Calls Tryz.prog 17 #[.pointer (some ⟨sb, 0, none⟩), .string k] w fun e w' => e = .returned (.int .i64 (stepsOf E k)) ∧ w = w' := by
  obtain ⟨F, hs, _⟩ := s
  exact steps_s hs k
theorem lanes_n : Calls Tryz.prog 21 #[.pointer (some ⟨sb, 0, none⟩)] w fun e w' => ∃ v, e = .returned v ∧ w'.ownsRow w.heap.size 3 1 v (lanesOf E).length (iCells (lanesOf E)) ∧ Below w.heap.size w w' := by
  obtain ⟨F, hs, _⟩ := s
  exact lanes_s hs
end
end Go.Proofs.YtmodgjjlgobjcaaGreat
