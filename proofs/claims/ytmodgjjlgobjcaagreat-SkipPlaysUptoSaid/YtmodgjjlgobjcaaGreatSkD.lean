/-
  A pair more in a skip list: the list that comes of it.
-/
import Derived.Test.YtmodgjjlgobjcaaGreatSkC
namespace Go.Proofs.YtmodgjjlgobjcaaGreat
open Go.RowKit

/-- The list with x behind its first m pairs. -/
def ins (L : List Nd) (m : Nat) (x : Nd) : List Nd := L.take m ++ x :: L.drop m

theorem nxt_append (A B : List Nd) (h : Nat) : nxt (A ++ B) h = (nxt A h).or (nxt B h) := by
  unfold nxt
  rw [List.find?_append]
  cases List.find? (fun n => decide (h < n.h)) A <;> rfl
theorem nxt_cons (x : Nd) (B : List Nd) (h : Nat) : nxt (x :: B) h = if h < x.h then some x.b else nxt B h := by
  unfold nxt
  by_cases e : h < x.h
  · rw [List.find?_cons_of_pos (by simpa using e), if_pos e]; rfl
  · rw [List.find?_cons_of_neg (by simpa using e), if_neg e]

theorem ins_low (L : List Nd) {m p : Nat} (x : Nd) (hm : m ≤ L.length) (hp : p ≤ m) : (ins L m x).drop p = (L.take m).drop p ++ x :: L.drop m := by
  unfold ins
  rw [List.drop_append_of_le_length (by rw [List.length_take]; omega)]
theorem drop_low (L : List Nd) {m p : Nat} (hm : m ≤ L.length) (hp : p ≤ m) : L.drop p = (L.take m).drop p ++ L.drop m := by
  conv => lhs; rw [← List.take_append_drop m L]
  rw [List.drop_append_of_le_length (by rw [List.length_take]; omega)]
theorem ins_high (L : List Nd) {m p : Nat} (x : Nd) (hm : m ≤ L.length) (hp : m ≤ p) : (ins L m x).drop (p + 1) = L.drop p := by
  unfold ins
  have hl : (L.take m).length = m := by rw [List.length_take]; omega
  rw [List.drop_append, hl, List.drop_of_length_le (by omega), List.nil_append, show p + 1 - m = (p - m) + 1 by omega, List.drop_succ_cons, List.drop_drop]
  congr 1
  omega

/-- From the last place of a lane on there is nothing of it among the lesser keys. -/
theorem pos_free {L : List Nd} {k : ByteArray} {h p : Nat} (hp : IsPos L k h p) : nxt ((L.take (below L k)).drop p) h = none := by
  unfold nxt
  rw [Option.map_eq_none_iff, List.find?_eq_none]
  intro n hn
  obtain ⟨j, hj, hjn⟩ := List.mem_iff_getElem.1 hn
  rw [List.getElem_drop, List.getElem_take] at hjn
  rw [List.length_drop, List.length_take] at hj
  have := hp.2.2 (p + j + 1) (by omega) (by omega)
  simp only [decide_eq_true_eq]
  intro hlt
  refine this (Or.inr ⟨n, ?_, by omega, hlt⟩)
  rw [Nat.add_sub_cancel, List.getElem?_eq_getElem (by omega), hjn]
theorem pos_busy {L : List Nd} {k : ByteArray} {h p q : Nat} (hq : IsPos L k h q) (hp : p < q) : ∃ b, nxt ((L.take (below L k)).drop p) h = some b := by
  rcases hq.1 with rfl | ⟨n, hn, h1, h2⟩
  · omega
  · cases e : nxt ((L.take (below L k)).drop p) h with
    | some b => exact ⟨b, rfl⟩
    | none =>
      exfalso
      have hql := hq.2.1
      unfold nxt at e
      rw [Option.map_eq_none_iff, List.find?_eq_none] at e
      obtain ⟨h3, h4⟩ := List.getElem?_eq_some_iff.1 hn
      refine e n ?_ (by simpa using h2)
      refine List.mem_iff_getElem.2 ⟨q - 1 - p, by rw [List.length_drop, List.length_take]; omega, ?_⟩
      rw [List.getElem_drop, List.getElem_take]
      have : p + (q - 1 - p) = q - 1 := by omega
      simp only [this]
      exact h4

/-- What is next of a lane, with x hung in. -/
theorem ins_next {L : List Nd} {x : Nd} {h p q : Nat} (hq : IsPos L x.k h q) (hp : p ≤ below L x.k) (hl : inLane L h p) : nxt ((ins L (below L x.k) x).drop p) h = if h < x.h ∧ p = q then some x.b else nxt (L.drop p) h := by
  have hm := below_le L x.k
  rw [ins_low L x hm hp, drop_low L hm hp, nxt_append, nxt_append, nxt_cons]
  by_cases e : p = q
  · subst e
    rw [pos_free hq]
    by_cases e2 : h < x.h
    · rw [if_pos e2, if_pos ⟨e2, rfl⟩]; rfl
    · rw [if_neg e2, if_neg (fun a => e2 a.1)]
  · have hlt : p < q := by
      rcases Nat.lt_or_ge q p with h1 | h1
      · exact absurd hl (hq.2.2 p h1 hp)
      · omega
    obtain ⟨b, hb⟩ := pos_busy hq hlt
    rw [hb, if_neg (show ¬ (h < x.h ∧ p = q) from fun a => e a.2)]
    rfl

theorem ins_get_low {L : List Nd} {m i : Nat} (x : Nd) (hm : m ≤ L.length) (hi : i < m) : (ins L m x)[i]? = L[i]? := by
  unfold ins
  rw [List.getElem?_append_left (by rw [List.length_take]; omega), List.getElem?_take, if_pos hi]
theorem ins_get_mid {L : List Nd} {m : Nat} (x : Nd) (hm : m ≤ L.length) : (ins L m x)[m]? = some x := by
  unfold ins
  rw [List.getElem?_append_right (by rw [List.length_take]; omega), List.length_take, show m - min m L.length = 0 by omega]
  rfl
theorem ins_get_high {L : List Nd} {m i : Nat} (x : Nd) (hm : m ≤ L.length) (hi : m ≤ i) : (ins L m x)[i + 1]? = L[i]? := by
  unfold ins
  rw [List.getElem?_append_right (by rw [List.length_take]; omega), List.length_take, show i + 1 - min m L.length = (i - m) + 1 by omega, List.getElem?_cons_succ, List.getElem?_drop]
  congr 1
  omega
theorem ins_len (L : List Nd) {m : Nat} (x : Nd) (hm : m ≤ L.length) : (ins L m x).length = L.length + 1 := by
  unfold ins
  rw [List.length_append, List.length_take, List.length_cons, List.length_drop]
  omega
theorem ins_mem {L : List Nd} {m : Nat} {x n : Nd} (h : n ∈ ins L m x) : n = x ∨ n ∈ L := by
  unfold ins at h
  rcases List.mem_append.1 h with h | h
  · exact Or.inr (List.mem_of_mem_take h)
  · rcases List.mem_cons.1 h with h | h
    · exact Or.inl h
    · exact Or.inr (List.mem_of_mem_drop h)
theorem ins_bytes (L : List Nd) (m : Nat) (x : Nd) : bytesOf (ins L m x) = bytesOf L + (x.k.size + x.v.size) := by
  unfold ins bytesOf
  conv => rhs; rw [← List.take_append_drop m L]
  simp only [List.map_append, List.sum_append, List.map_cons, List.sum_cons]
  omega

theorem ins_sorted {L : List Nd} {x : Nd} (hs : L.Pairwise (fun a b => kcmp a.k b.k < 0)) (hne : ∀ n, L[below L x.k]? = some n → n.k ≠ x.k) : (ins L (below L x.k) x).Pairwise (fun a b => kcmp a.k b.k < 0) := by
  have hm := below_le L x.k
  have hlow : ∀ n ∈ L.take (below L x.k), kcmp n.k x.k < 0 := by
    intro n hn
    obtain ⟨i, hi, rfl⟩ := List.mem_iff_getElem.1 hn
    rw [List.length_take] at hi
    rw [List.getElem_take]
    exact (below_iff hs x.k (List.getElem?_eq_getElem (by omega))).2 (by omega)
  have hhigh : ∀ n ∈ L.drop (below L x.k), kcmp x.k n.k < 0 := by
    intro n hn
    obtain ⟨i, hi, rfl⟩ := List.mem_iff_getElem.1 hn
    rw [List.length_drop] at hi
    rw [List.getElem_drop]
    have h0 : below L x.k < L.length := by omega
    have e0 := List.getElem?_eq_getElem h0
    have h1 : ¬ kcmp L[below L x.k].k x.k < 0 := fun e => by have := (below_iff hs x.k e0).1 e; omega
    have h2 : kcmp L[below L x.k].k x.k ≠ 0 := fun e => hne _ e0 (kcmp_zero e)
    have h3 : kcmp x.k L[below L x.k].k < 0 := by rw [kcmp_neg]; omega
    by_cases hi0 : i = 0
    · subst hi0; exact h3
    · exact kcmp_trans h3 (List.pairwise_iff_getElem.1 hs _ _ h0 (by omega) (by omega))
  unfold ins
  refine List.pairwise_append.2 ⟨hs.sublist (List.take_sublist _ _), List.pairwise_cons.2 ⟨hhigh, hs.sublist (List.drop_sublist _ _)⟩, ?_⟩
  intro a ha b hb
  rcases List.mem_cons.1 hb with rfl | hb
  · exact hlow a ha
  · exact kcmp_trans (hlow a ha) (hhigh b hb)

theorem blk_ins_low {sb : Nat} {L : List Nd} {m p : Nat} (x : Nd) (hm : m ≤ L.length) (hp : p ≤ m) : blk sb (ins L m x) p = blk sb L p := by
  cases p with
  | zero => rfl
  | succ q =>
    rw [blk_succ (n := L[q]'(by omega)) (by rw [ins_get_low x hm (by omega)]; exact List.getElem?_eq_getElem (by omega)), blk_succ (List.getElem?_eq_getElem (by omega))]

theorem ins_split {L : List Nd} {m i : Nat} {x : Nd} (hm : m ≤ L.length) (hi : i < (ins L m x).length) :
    (∃ h : i < L.length, i < m ∧ (ins L m x)[i] = L[i]) ∨ (i = m ∧ (ins L m x)[i] = x) ∨ ∃ q, ∃ h : q < L.length, i = q + 1 ∧ m ≤ q ∧ (ins L m x)[i] = L[q] := by
  have hi2 := hi
  rw [ins_len L x hm] at hi2
  have h0 := List.getElem?_eq_getElem hi
  rcases Nat.lt_trichotomy i m with h | h | h
  · refine Or.inl ⟨by omega, h, ?_⟩
    have := ins_get_low x hm h
    rw [h0, List.getElem?_eq_getElem (by omega)] at this
    injection this
  · subst h
    refine Or.inr (Or.inl ⟨rfl, ?_⟩)
    have := ins_get_mid x hm
    rw [h0] at this
    injection this
  · obtain ⟨q, rfl⟩ : ∃ q, i = q + 1 := ⟨i - 1, by omega⟩
    refine Or.inr (Or.inr ⟨q, by omega, rfl, by omega, ?_⟩)
    have := ins_get_high x hm (i := q) (by omega)
    rw [h0, List.getElem?_eq_getElem (by omega)] at this
    injection this

/-- All lanes hung in, and counted: it is the list with x in it. -/
theorem Mid.done {w : World} {sb : Nat} {L : List Nd} {fr : Bool} {x : Nd} {f : Nat → Nat} (m : Mid w sb L fr x f x.h) (s : L.Pairwise (fun a b => kcmp a.k b.k < 0)) (hts : ∀ n ∈ L, 1 ≤ n.h ∧ n.h ≤ 12) (sizes : ∀ n ∈ L, n.k.size ≤ 65536 ∧ n.v.size ≤ 65536)
    (nod : (sb :: L.map (·.b)).Nodup) (len : L.length < 100000) (hf : ∀ h, h < 12 → IsPos L x.k h (f h)) (hne : ∀ n, L[below L x.k]? = some n → n.k ≠ x.k) (hx : 1 ≤ x.h ∧ x.h ≤ 12) (hxs : x.k.size ≤ 65536 ∧ x.v.size ≤ 65536) (hxb : x.b ≠ sb ∧ ∀ n ∈ L, n.b ≠ x.b) :
    SkAt ((w.setCell ⟨sb, 15, none⟩ (.int .i64 (L.length + 1 : Nat))).setCell ⟨sb, 16, none⟩ (.int .i64 (bytesOf (ins L (below L x.k) x) : Nat))) sb (ins L (below L x.k) x) fr := by
  have hm := below_le L x.k
  have oth : ∀ b j, (b ≠ sb ∨ (j ≠ 15 ∧ j ≠ 16)) → ((w.setCell ⟨sb, 15, none⟩ (.int .i64 (L.length + 1 : Nat))).setCell ⟨sb, 16, none⟩ (.int .i64 (bytesOf (ins L (below L x.k) x) : Nat))).cell? ⟨b, j, none⟩ = w.cell? ⟨b, j, none⟩ := fun b j h => by
    rw [World.cell?_setCell_other _ _ _ _ (fun e => by have := inj_off e; rcases h with h | h <;> simp_all), World.cell?_setCell_other _ _ _ _ (fun e => by have := inj_off e; rcases h with h | h <;> simp_all)]
  have frz : ∀ a, ((w.setCell ⟨sb, 15, none⟩ (.int .i64 (L.length + 1 : Nat))).setCell ⟨sb, 16, none⟩ (.int .i64 (bytesOf (ins L (below L x.k) x) : Nat))).frozen? a = w.frozen? a := fun a => by rw [World.frozen?_setCell, World.frozen?_setCell]
  have nsb : ∀ n ∈ L, n.b ≠ sb := fun n hn e => (List.nodup_cons.1 nod).1 (e ▸ List.mem_map_of_mem hn)
  have keep : ∀ n, n.b ≠ sb → NdAt w n → NdAt ((w.setCell ⟨sb, 15, none⟩ (.int .i64 (L.length + 1 : Nat))).setCell ⟨sb, 16, none⟩ (.int .i64 (bytesOf (ins L (below L x.k) x) : Nat))) n := fun n hb h =>
    ⟨by rw [oth _ _ (Or.inl hb)]; exact h.c0, by rw [oth _ _ (Or.inl hb)]; exact h.c1, by rw [oth _ _ (Or.inl hb)]; exact h.c2, fun j => by rw [frz]; exact h.fz j⟩
  refine ⟨fun h hh => ?_, ?_, ?_, ?_, fun j => by rw [frz]; exact m.fz j, fun i hi => ?_, fun i hi h hh => ?_, ins_sorted s hne, fun n hn => ?_, fun n hn => ?_, ?_, by rw [ins_len L x hm]; omega, (m.pl.1.setCell _ _).setCell _ _, fun n hn => ?_⟩
  · have h1 := m.lane h 0 hh (Nat.zero_le _) (Or.inl rfl)
    have h2 := ins_next (hf h hh) (Nat.zero_le _) (Or.inl rfl)
    rw [oth _ _ (Or.inr (by omega))]
    rw [List.drop_zero] at h2
    rw [h2]
    have e : blk sb L 0 = sb := rfl
    rw [e] at h1
    rw [h1]
    split <;> rfl
  · rw [ins_len L x hm, World.cell?_setCell_other _ _ _ _ (fun e => by have := inj_off e; omega), World.cell?_setCell_same _ _ _ m.cnt]
  · exact World.cell?_setCell_same _ _ _ (show _ = some _ from (World.cell?_setCell_other _ _ _ _ (fun e => by have := inj_off e; omega)).trans m.byt)
  · rw [oth _ _ (Or.inr (by omega))]; exact m.frz
  · rcases ins_split hm hi with ⟨h, h1, h2⟩ | ⟨h1, h2⟩ | ⟨q, h, h1, h2, h3⟩
    · rw [h2]; exact keep _ (nsb _ (List.getElem_mem h)) (m.node i h)
    · rw [h2]; exact keep _ hxb.1 m.xn
    · rw [h3]; exact keep _ (nsb _ (List.getElem_mem h)) (m.node q h)
  · rcases ins_split hm hi with ⟨h5, h1, h2⟩ | ⟨h1, h2⟩ | ⟨q, h5, h1, h2, h3⟩
    · rw [h2, oth _ _ (Or.inl (nsb _ (List.getElem_mem h5)))]
      by_cases hlt : h < L[i].h
      · have hin : inLane L h (i + 1) := Or.inr ⟨L[i], by rw [Nat.add_sub_cancel]; exact List.getElem?_eq_getElem h5, by omega, hlt⟩
        have h6 := m.lane h (i + 1) hh (by omega) hin
        rw [blk_succ (List.getElem?_eq_getElem h5)] at h6
        rw [h6, if_pos hlt, ins_next (hf h hh) (by omega) hin]
        split <;> rfl
      · rw [m.off i h5 h hh (by omega), if_neg hlt]
    · rw [h2, oth _ _ (Or.inl hxb.1), m.mine h hh]
      by_cases hlt : h < x.h
      · rw [if_pos hlt, if_pos hlt, h1, ins_high L x hm (Nat.le_refl _)]
        have hp := hf h hh
        rw [drop_low L hm hp.2.1, nxt_append, pos_free hp]
        rfl
      · rw [if_neg hlt, if_neg hlt]
    · rw [h3, oth _ _ (Or.inl (nsb _ (List.getElem_mem h5)))]
      by_cases hlt : h < L[q].h
      · have hin : inLane L h (q + 1) := Or.inr ⟨L[q], by rw [Nat.add_sub_cancel]; exact List.getElem?_eq_getElem h5, by omega, hlt⟩
        have h6 := m.lane h (q + 1) hh (by omega) hin
        rw [blk_succ (List.getElem?_eq_getElem h5)] at h6
        have hp := (hf h hh).2.1
        rw [h6, if_pos hlt, if_neg (by omega), h1, ins_high L x hm (by omega)]
      · rw [m.off q h5 h hh (by omega), if_neg hlt]
  · rcases ins_mem hn with rfl | h
    · exact hx
    · exact hts n h
  · rcases ins_mem hn with rfl | h
    · exact hxs
    · exact sizes n h
  · have h1 : (sb :: (ins L (below L x.k) x).map (·.b)).Perm (x.b :: sb :: L.map (·.b)) := by
      unfold ins
      rw [List.map_append, List.map_cons]
      have h2 : ((L.take (below L x.k)).map (·.b) ++ x.b :: (L.drop (below L x.k)).map (·.b)).Perm (x.b :: ((L.take (below L x.k)).map (·.b) ++ (L.drop (below L x.k)).map (·.b))) := List.perm_middle
      rw [← List.map_append, List.take_append_drop] at h2
      exact (h2.cons sb).trans (List.Perm.swap _ _ _)
    refine h1.nodup_iff.2 (List.nodup_cons.2 ⟨fun h => ?_, nod⟩)
    rcases List.mem_cons.1 h with h | h
    · exact hxb.1 h
    · obtain ⟨n, hn, e⟩ := List.mem_map.1 h
      exact hxb.2 n hn e
  · rcases ins_mem hn with rfl | h
    · exact (m.pl.2.2.setCell _ _).setCell _ _
    · exact ((m.pl.2.1 n h).setCell _ _).setCell _ _
end Go.Proofs.YtmodgjjlgobjcaaGreat
