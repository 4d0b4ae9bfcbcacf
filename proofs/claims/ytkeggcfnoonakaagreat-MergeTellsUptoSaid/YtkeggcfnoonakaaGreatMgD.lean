
/-
  Merge: lists that came in; what the loop over the heap holds.
-/
import Derived.Test.YtkeggcfnoonakaaGreatMgC
set_option linter.unusedSimpArgs false
set_option linter.unusedVariables false
namespace Go.Proofs.YtkeggcfnoonakaaGreat
open Go.RowKit

def cKV (p : KV) : List Value := [.string p.1, .string p.2]
theorem eKV : Elm Tryz.prog 23 54 2 32 cKV where
  und := Tryz.underlying23
  info := by
    have h : (Tryz.prog.info? 54).map (fun i => (i.zero, i.size, i.bytes)) = some (some (.agg #[.string ByteArray.empty, .string ByteArray.empty]), 2, 32) := by kernel_rfl
    obtain ⟨i, hi, h1, h2, h3⟩ := info_parts h
    exact ⟨i, _, hi, h1, h2, h3, rfl⟩
  pos := by decide
  few := by decide
  len := fun _ => rfl
  one := fun h u hu => by
    simp [cKV] at hu
    rcases hu with rfl | rfl <;> rfl
/-- Lists that can be read. -/
def RdL (w : World) (a : Option Addr) (L : List (List KV)) : Prop := L = [] ∨ ∃ b off, a = some ⟨b, off, none⟩ ∧ ∀ i (hi : i < L.length), ∃ ai ci, w.cell? ⟨b, off + i, none⟩ = some (.slice ai L[i].length ci) ∧ RdP w ai ci L[i]
theorem kv_cells {w : World} {B : Nat} {v : Value} {ms : List KV} (h : Own eKV w B v ms) {i : Nat} (hi : i < ms.length) :
    ∃ g cap, v = .slice (some ⟨g, 0, none⟩) ms.length cap ∧ ms.length ≤ cap ∧ B ≤ g ∧ g < w.heap.size ∧ w.cell? ⟨g, i * 2, none⟩ = some (.string ms[i].1) ∧ w.cell? ⟨g, i * 2 + 1, none⟩ = some (.string ms[i].2) := by
  have h0 := h
  obtain ⟨h1, h2⟩ := h
  rcases h2 with ⟨_, h3⟩ | ⟨g, cap, cur, rfl, hg, hh, hn, hc, hcl, htk⟩
  · omega
  · have c0 := h0.cellAt (i * 2) (by omega)
    have c1 := h0.cellAt (i * 2 + 1) (by omega)
    have e0 := eKV.get ms i 0 hi (by decide)
    have e1 := eKV.get ms i 1 hi (by decide)
    rw [Nat.add_zero] at e0
    rw [e0] at c0
    rw [e1] at c1
    exact ⟨g, cap, rfl, hn, hg, (Array.getElem?_eq_some_iff.1 hh).1, c0, c1⟩
theorem rdP_own {w : World} {B : Nat} {v : Value} {l : List KV} (h : Own eKV w B v l) : ∃ a c, v = .slice a l.length c ∧ RdP w a c l := by
  obtain ⟨a, c, rfl, h1, h2⟩ := row_form h
  refine ⟨a, c, rfl, h1, h2, ?_⟩
  by_cases h0 : l = []
  · exact .inl h0
  · have hp : 0 < l.length := List.length_pos_iff.2 h0
    obtain ⟨g, cap, e, _, _, _, _, _⟩ := kv_cells h hp
    injection e with e1 e2 e3
    subst e1
    refine .inr ⟨g, 0, rfl, fun i hi => ?_⟩
    obtain ⟨g', cap', e, _, _, _, k1, k2⟩ := kv_cells h hi
    injection e with e1 e2 e3
    injection e1 with e1
    injection e1 with e1
    subst e1
    rw [Nat.zero_add]
    exact ⟨k1, k2⟩
def tot (hs : List Hd) : Nat := (hs.map (fun h => h.l.length)).sum
theorem tot_perm {a b : List Hd} (h : a.Perm b) : tot a = tot b := List.Perm.sum_nat (h.map _)
theorem ris_snoc {l : List KV} {a b : KV} (h : Ris (l ++ [a])) (hab : kc a.1 b.1 < 0) : Ris (l ++ [a] ++ [b]) := by
  refine List.pairwise_append.2 ⟨h, List.pairwise_singleton _ _, fun x hx y hy => ?_⟩
  rw [List.mem_singleton] at hy
  subst hy
  exact (kc_trans (ris_last h x hx) (by omega)).2 (.inr hab)
theorem ris_step {x : List KV} {k : Nat} (h1 : 1 ≤ k) (hk : k < x.length) (h : Ris (x.take k)) (hc : kc (x[k - 1]'(by omega)).1 x[k].1 < 0) : Ris (x.take (k + 1)) := by
  rw [List.take_succ_eq_append_getElem hk]
  obtain ⟨j, rfl⟩ : ∃ j, k = j + 1 := ⟨k - 1, by omega⟩
  rw [List.take_succ_eq_append_getElem (by omega)] at h ⊢
  simp only [Nat.add_sub_cancel] at hc
  exact ris_snoc h hc
theorem ris_not {x : List KV} {k : Nat} (h1 : 1 ≤ k) (hk : k < x.length) (hc : 0 ≤ kc (x[k - 1]'(by omega)).1 x[k].1) : ¬ Ris x := by
  intro h
  have := List.pairwise_iff_getElem.1 h (k - 1) k (by omega) hk (by omega)
  omega
/-- The loop's state. -/
structure MSt (w wr : World) (hb : Nat) (L : List (List KV)) (N : Nat) (v ov : Value) (hs : List Hd) (out : List KV) : Prop where
  h : HsAt w wr hb v hs
  hp : Hp 0 hs.length hs
  ne : ∀ h ∈ hs, h.l ≠ []
  own : Own eKV wr w.heap.size ov out
  apart : ∀ q, ov.ownBlock = some q → ¬ Foot hb v q
  inv : Inv L hs out
  few : out.length + tot hs ≤ N
theorem at_mem {ms : List Hd} {k : Nat} (h : k < ms.length) : at_ ms k ∈ ms := by
  rw [at_get h]
  exact List.getElem_mem h
theorem own_set1 {w : World} {B g cap : Nat} {ms : List Hd} (h : Own eHd w B (.slice (some ⟨g, 0, none⟩) ms.length cap) ms) (x : Hd) {m : Hd} {t : List Hd} (hm : ms = m :: t) (hn : x.n = m.n) :
    Own eHd (w.setCell ⟨g, 0, none⟩ x.v) B (.slice (some ⟨g, 0, none⟩) (x :: t).length cap) (x :: t) := by
  subst hm
  have h1 := (h.stored 0 x.v).1
  have e : (x :: t).flatMap cHd = ((m :: t).flatMap cHd).set 0 x.v := by
    simp [cHd, hn]
  show World.ownsRow _ _ _ _ _ _ _
  rw [e]
  exact h1
/-- The first head's list goes on by one. -/
theorem MSt.shift {w wr : World} {hb g cap : Nat} {L : List (List KV)} {N : Nat} {ov : Value} {p : KV} {xs : List KV} {n c : Nat} {a : Option Addr} {t : List Hd} {out : List KV} (h : MSt w wr hb L N (.slice (some ⟨g, 0, none⟩) (t.length + 1) cap) ov (⟨p :: xs, n, a, c⟩ :: t) out)
    {wr2 : World} {ov2 : Value} {out2 : List KV} (hb2 : Tn (fun q => ov.ownBlock = some q) wr wr2) (ho : Own eKV wr2 w.heap.size ov2 out2) (hov : ∀ q, ov2.ownBlock = some q → ov.ownBlock = some q ∨ wr.heap.size ≤ q) (a' : Option Addr) (c' d : Nat) (hr : RdP w a' c' xs) :
    HsAt w ((wr2.setCell ⟨g, 0, none⟩ (.slice a' xs.length c')).drewN d) hb (.slice (some ⟨g, 0, none⟩) (t.length + 1) cap) (⟨xs, n, a', c'⟩ :: t) ∧ Own eKV ((wr2.setCell ⟨g, 0, none⟩ (.slice a' xs.length c')).drewN d) w.heap.size ov2 out2 ∧
      (∀ q, ov2.ownBlock = some q → ¬ Foot hb (.slice (some ⟨g, 0, none⟩) (t.length + 1) cap) q) := by
  have hgl : g < wr.heap.size := (h.h.own.lt g rfl).2
  have hbl : hb < wr.heap.size := World.block_lt_of_cell? _ _ h.h.cell
  have hgo : ov.ownBlock ≠ some g := fun e => h.apart g e (.inr rfl)
  have hho : ov.ownBlock ≠ some hb := fun e => h.apart hb e (.inl rfl)
  have hgh : g ≠ hb := fun e => h.h.apart (by rw [← e]; rfl)
  have h2 : HsAt w wr2 hb (.slice (some ⟨g, 0, none⟩) (t.length + 1) cap) (⟨p :: xs, n, a, c⟩ :: t) :=
    ⟨h.h.bel.trans (hb2.below h.h.sz (fun q e => (h.own.lt q e).1)), Nat.le_trans h.h.sz hb2.size, hb2.cell h.h.cell hho, (hb2.frozen (p := ⟨hb, 0, none⟩) hbl hho).trans h.h.fz, h.h.lo, hb2.row h.h.own (fun q hq => by
      have e : some g = some q := hq
      injection e with e
      subst e
      exact hgo), h.h.apart, h.h.rd, h.h.few⟩
  have h3 := own_set1 (x := ⟨xs, n, a', c'⟩) h2.own rfl rfl
  have ht : Tn (fun q => q = g) wr2 ((wr2.setCell ⟨g, 0, none⟩ (.slice a' xs.length c')).drewN d) := (Tn.setCell (F := fun q => q = g) wr2 ⟨g, 0, none⟩ _ rfl).trans (tn_drewN _ _)
  have hg2 := Nat.lt_of_lt_of_le hgl hb2.size
  have hb3 := Nat.lt_of_lt_of_le hbl hb2.size
  have hap : ∀ q, ov2.ownBlock = some q → ¬ Foot hb (.slice (some ⟨g, 0, none⟩) (t.length + 1) cap) q := by
    intro q hq hf
    rcases hov q hq with e | e
    · exact h.apart q e hf
    · rcases hf with rfl | hf
      · omega
      · have e2 : some g = some q := hf
        injection e2 with e2
        omega
  refine ⟨⟨h2.bel.trans (ht.below h2.sz (fun q e => by subst e; exact (h2.own.lt q rfl).1)), Nat.le_trans h2.sz ht.size, ht.cell h2.cell (fun e => hgh e.symm), (ht.frozen (p := ⟨hb, 0, none⟩) hb3 (fun e => hgh e.symm)).trans h2.fz, h2.lo, h3, h2.apart, fun x hx => ?_, h2.few⟩, ?_, hap⟩
  · rcases List.mem_cons.1 hx with rfl | hx
    · exact hr
    · exact h.h.rd x (List.mem_cons_of_mem _ hx)
  · exact ht.row ho (fun q hq e => hap q hq (.inr (by rw [e]; rfl)))
theorem hp_swap {n : Nat} {x y : Hd} {t : List Hd} (h : Hp 0 n (x :: t)) : Hp 1 n (y :: t) := by
  intro c h0 hc hs
  have h1 := h c h0 hc (Nat.zero_le _)
  obtain ⟨k, rfl⟩ : ∃ k, c = k + 1 := ⟨c - 1, by omega⟩
  obtain ⟨j, hj⟩ : ∃ j, (k + 1 - 1) / 2 = j + 1 := ⟨(k + 1 - 1) / 2 - 1, by omega⟩
  rw [hj] at h1 ⊢
  exact h1
theorem emit_len (out : List KV) (p : KV) : (emit out p).length ≤ out.length + 1 := by
  unfold emit
  split
  · simp
  · split
    · omega
    · simp
end Go.Proofs.YtkeggcfnoonakaaGreat
