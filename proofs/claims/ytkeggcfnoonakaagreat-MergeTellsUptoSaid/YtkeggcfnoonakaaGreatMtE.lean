/-
  MergeTells: a round's lists, and what of them is still to be given to the book.
-/
import Derived.Test.YtkeggcfnoonakaaGreatMtA
import Derived.Test.YtkeggcfnoonakaaGreatMtD
import Derived.Test.YtkeggcfnoonakaaGreatMtO
set_option linter.unusedSimpArgs false
set_option linter.unusedVariables false
namespace Go.Proofs.YtkeggcfnoonakaaGreat
open Go.RowKit

/-! ### What the two Merges answer. -/
def MAns (L : List (List KV)) (code : Int) (out : List KV) : Prop := ((∀ l ∈ L, Ris l) ∧ code = 0 ∧ Laid L out) ∨ (¬ (∀ l ∈ L, Ris l) ∧ code = 32 ∧ out = [])
theorem MAns.uniq {L : List (List KV)} {c1 c2 : Int} {o1 o2 : List KV} (h1 : MAns L c1 o1) (h2 : MAns L c2 o2) : c1 = c2 ∧ o1 = o2 := by
  rcases h1 with ⟨r1, rfl, l1⟩ | ⟨r1, rfl, rfl⟩ <;> rcases h2 with ⟨r2, rfl, l2⟩ | ⟨r2, rfl, rfl⟩
  · exact ⟨rfl, Laid.uniq r1 l1 l2⟩
  · exact absurd r1 r2
  · exact absurd r2 r1
  · exact ⟨rfl, rfl⟩
theorem MAns.num {L : List (List KV)} {c : Int} {o : List KV} (h : MAns L c o) : c = 0 ∨ c = 32 := by
  rcases h with ⟨_, h, _⟩ | ⟨_, h, _⟩
  · exact .inl h
  · exact .inr h
theorem mergeAns_one {L : List (List KV)} {w w' : World} {e : Ending} (h : MergeAns L w e w') : ∃ (s : Sl) (out : List KV) (code : Int), e = .returned (.tuple #[s.val, .int .i64 code]) ∧ Own eKV w' w.heap.size s.val out ∧ MAns L code out ∧ out.length ≤ lenS L ∧ Below w.heap.size w w' := by
  obtain ⟨hb, ⟨hr, out, v, rfl, ho, hla, hln⟩ | ⟨hr, rfl⟩⟩ := h
  · obtain ⟨a, c, rfl, _⟩ := row_form ho
    exact ⟨⟨a, out.length, c⟩, out, 0, rfl, ho, .inl ⟨hr, rfl, hla⟩, hln, hb⟩
  · exact ⟨⟨none, 0, 0⟩, [], 32, rfl, World.ownsRow_nil _ _ _ _, .inr ⟨hr, rfl, rfl⟩, by simp, hb⟩
/-! ### The book's beginning. -/
theorem nil_foot {α : Type} {q : Nat} (h : footL (.slice none 0 0) ([] : List (Sl × List α)) q) : False := by
  rcases h with h | ⟨i, hi, _⟩
  · cases h
  · simp at hi
def bookCells : Array Value := #[.slice none 0 0, .slice none 0 0, .slice none 0 0, .slice none 0 0, .slice none 0 0, .slice none 0 0, .slice none 0 0, .slice none 0 0, .slice none 0 0, .slice none 0 0, .slice none 0 0, .slice none 0 0, .slice none 0 0, .slice none 0 0, .slice none 0 0, .slice none 0 0, .slice none 0 0, .slice none 0 0, .slice none 0 0, .slice none 0 0, .slice none 0 0, .slice none 0 0, .slice none 0 0, .slice none 0 0, .slice none 0 0, .slice none 0 0, .slice none 0 0, .slice none 0 0, .slice none 0 0, .slice none 0 0]
theorem book_cell (w : World) (t : TypeId) (o : Nat) (h : o < 30) : (w.alloc (.cells bookCells t)).cell? ⟨w.heap.size, o, none⟩ = some (.slice none 0 0) := by
  rw [World.cell?_alloc_mark]
  have e : bookCells = (List.replicate 30 (Value.slice none 0 0)).toArray := rfl
  rw [e, List.getElem?_toArray, List.getElem?_replicate, if_pos h]
theorem fz_alloc (w : World) (c : Array Value) (t : TypeId) (j : Nat) : (w.alloc (.cells c t)).frozen? ⟨w.heap.size, j, none⟩ = false := by
  have h : (w.alloc (.cells c t)).heap[w.heap.size]? = some (.cells c t (0, 0)) := by unfold World.alloc; simp
  unfold World.frozen?
  simp only [h]
  simp
def b00 : BB := ⟨.slice none 0 0, .slice none 0 0, [], [], .slice none 0 0, .slice none 0 0, [], []⟩
theorem b00_foot {q : Nat} (h : b00.foot q) : False := by
  rcases h with h | h | h | h <;> exact nil_foot h
theorem bkst_start {w : World} {bk : Nat} (b0 : ∀ o, o < 30 → w.cell? ⟨bk, o, none⟩ = some (.slice none 0 0)) (bf : ∀ j, w.frozen? ⟨bk, j, none⟩ = false) : BkSt w bk w.heap.size b00 := by
  have hlt : bk < w.heap.size := World.block_lt_of_cell? _ _ (b0 0 (by decide))
  exact ⟨fun o h _ _ _ _ => b0 o h, ⟨b0 6 (by decide), b0 7 (by decide), Lst.nil _ _, Lst.nil _ _, rfl, fun q hq => (nil_foot hq).elim, hlt, bf⟩, ⟨b0 28 (by decide), b0 29 (by decide), Lst.nil _ _, Lst.nil _ _, rfl, fun q hq => (nil_foot hq).elim, hlt, bf⟩, fun q hq => (hq.elim nil_foot nil_foot).elim, fun i hi => absurd hi (Nat.not_lt_zero _), fun i hi => absurd hi (Nat.not_lt_zero _), Nat.zero_le _, fun i hi => absurd hi (Nat.not_lt_zero _), fun i hi => absurd hi (Nat.not_lt_zero _), hlt, Nat.le_refl _⟩
/-! ### A round. -/
structure RdSt (w2 w : World) (bk : Nat) (b : BB) (vb : Value) (Sb : List (Sl × List KV)) (vc : Value) (Sc : List (Sl × List KV)) (P : Nat → Prop) : Prop where
  st : BkSt w bk w2.heap.size b
  lb : Lst eKV eSl w w2.heap.size vb Sb
  lc : Lst eKV eSl w w2.heap.size vc Sc
  bc : ∀ q, footL vb Sb q → ¬ footL vc Sc q
  out : ∀ q, footL vb Sb q ∨ footL vc Sc q → ¬ b.out bk q
  p : ∀ q, P q → ¬ b.foot q
  lt : ∀ q, P q → q < w.heap.size
  tn : Tn (fun q => q = bk ∨ w2.heap.size ≤ q) w2 w
  lenb : ∀ x ∈ Sb, x.2.length ≤ 50000
  lenc : ∀ x ∈ Sc, x.2.length ≤ 50000
section
variable {w2 w w' : World} {bk : Nat} {b b' : BB} {vb vc : Value} {Sb Sc : List (Sl × List KV)} {P P' : Nat → Prop}
theorem RdSt.grow (h : RdSt w2 w bk b vb Sb vc Sc P) {s : Sl} (hg : Grew w w' bk w2.heap.size b b' s) (hP : ∀ q, P' q → P q ∧ s.val.ownBlock ≠ some q) : RdSt w2 w' bk b' vb Sb vc Sc P' :=
  ⟨hg.st, h.lb.tn hg.tn (fun q hq => h.out q (.inl hq)), h.lc.tn hg.tn (fun q hq => h.out q (.inr hq)), h.bc,
   fun q hq ho => by
     rcases hg.outs q ho with h1 | h1
     · exact h.out q hq h1
     · have : q < w.heap.size := hq.elim (fun h2 => (h.lb.lt h2).2) (fun h2 => (h.lc.lt h2).2)
       omega,
   fun q hq hf => by
     obtain ⟨h1, h2⟩ := hP q hq
     rcases hg.foot q hf with h3 | h3 | h3
     · exact h.p q h1 h3
     · exact h2 h3
     · have := h.lt q h1
       omega,
   fun q hq => Nat.lt_of_lt_of_le (h.lt q (hP q hq).1) hg.tn.size,
   h.tn.trans (hg.tn.mono (fun q hq => (BB.out_foot hq).imp id (fun hf => (h.st.lt hf).1))),
   h.lenb, h.lenc⟩
/-- Still to be given: b's lists from i on, and all of c. -/
def Pb (vb : Value) (Sb : List (Sl × List KV)) (vc : Value) (Sc : List (Sl × List KV)) (i q : Nat) : Prop := (∃ k, ∃ hk : k < Sb.length, i ≤ k ∧ Sb[k].1.val.ownBlock = some q) ∨ vb.ownBlock = some q ∨ footL vc Sc q
def Pc (vb vc : Value) (Sc : List (Sl × List KV)) (j q : Nat) : Prop := vb.ownBlock = some q ∨ (∃ k, ∃ hk : k < Sc.length, j ≤ k ∧ Sc[k].1.val.ownBlock = some q) ∨ vc.ownBlock = some q
theorem RdSt.weak (h : RdSt w2 w bk b vb Sb vc Sc P) (hP : ∀ q, P' q → P q) : RdSt w2 w bk b vb Sb vc Sc P' :=
  ⟨h.st, h.lb, h.lc, h.bc, h.out, fun q hq => h.p q (hP q hq), fun q hq => h.lt q (hP q hq), h.tn, h.lenb, h.lenc⟩
theorem RdSt.b_to_c (h : RdSt w2 w bk b vb Sb vc Sc (Pb vb Sb vc Sc Sb.length)) : RdSt w2 w bk b vb Sb vc Sc (Pc vb vc Sc 0) := h.weak (fun q hq => by
  rcases hq with hq | ⟨k, hk, _, hq⟩ | hq
  · exact .inr (.inl hq)
  · exact .inr (.inr (.inr ⟨k, hk, hq⟩))
  · exact .inr (.inr (.inl hq)))
theorem rd_keysB {i : Nat} (h : RdSt w2 w bk b vb Sb vc Sc (Pb vb Sb vc Sc i)) (hi : i < Sb.length) :
    Calls Tryz.prog 17 #[.pointer (some ⟨bk, 0, none⟩), Sb[i].1.val] w fun e w' => e = .returned (.tuple #[]) ∧ ∃ b', RdSt w2 w' bk b' vb Sb vc Sc (Pb vb Sb vc Sc (i + 1)) ∧ b'.S1.length = b.S1.length := by
  refine (keys_book h.st (h.lb.each i hi) (fun q hq => h.p q (.inl ⟨i, hi, Nat.le_refl _, hq⟩)) (h.lenb _ (List.getElem_mem hi))).mono ?_
  rintro e w' ⟨rfl, b', hg, hn⟩
  refine ⟨rfl, b', h.grow hg (fun q hq => ?_), hn⟩
  rcases hq with ⟨k, hk, hik, hq⟩ | hq | hq
  · exact ⟨.inl ⟨k, hk, by omega, hq⟩, fun e => h.lb.sepE i k hi hk (by omega) q e hq⟩
  · exact ⟨.inr (.inl hq), fun e => h.lb.sepO i hi q hq e⟩
  · exact ⟨.inr (.inr hq), fun e => h.bc q (.inr ⟨i, hi, e⟩) hq⟩
theorem rd_keysC {j : Nat} (h : RdSt w2 w bk b vb Sb vc Sc (Pc vb vc Sc j)) (hj : j < Sc.length) :
    Calls Tryz.prog 17 #[.pointer (some ⟨bk, 0, none⟩), Sc[j].1.val] w fun e w' => e = .returned (.tuple #[]) ∧ ∃ b', RdSt w2 w' bk b' vb Sb vc Sc (Pc vb vc Sc (j + 1)) ∧ b'.S1.length = b.S1.length := by
  refine (keys_book h.st (h.lc.each j hj) (fun q hq => h.p q (.inr (.inl ⟨j, hj, Nat.le_refl _, hq⟩))) (h.lenc _ (List.getElem_mem hj))).mono ?_
  rintro e w' ⟨rfl, b', hg, hn⟩
  refine ⟨rfl, b', h.grow hg (fun q hq => ?_), hn⟩
  rcases hq with hq | ⟨k, hk, hik, hq⟩ | hq
  · exact ⟨.inl hq, fun e => h.bc q (.inl hq) (.inr ⟨j, hj, e⟩)⟩
  · exact ⟨.inr (.inl ⟨k, hk, by omega, hq⟩), fun e => h.lc.sepE j k hj hk (by omega) q e hq⟩
  · exact ⟨.inr (.inr hq), fun e => h.lc.sepO j hj q hq e⟩
theorem rd_listsB {j : Nat} {s : Sl} (hs : s.val = vb) (h : RdSt w2 w bk b vb Sb vc Sc (Pc vb vc Sc j)) (hln : Sb.length ≤ 50000) (hS : b.S1.length < 250) :
    Calls Tryz.prog 18 #[.pointer (some ⟨bk, 0, none⟩), s.val] w fun e w' => e = .returned (.tuple #[]) ∧ ∃ b', RdSt w2 w' bk b' vb Sb vc Sc (fun q => vc.ownBlock = some q) ∧ b'.S1.length = b.S1.length + 1 := by
  subst hs
  refine (lists_book h.st (own_lk h.lb.outer) (fun q hq => h.p q (.inl hq)) hln h.lenb (fun x hx => ?_) hS).mono ?_
  · obtain ⟨i, hi, rfl⟩ := List.mem_iff_getElem.1 hx
    exact ⟨_, h.lb.each i hi, fun q hq => h.out q (.inl (.inr ⟨i, hi, hq⟩))⟩
  · rintro e w' ⟨rfl, b', hg, hn⟩
    exact ⟨rfl, b', h.grow hg (fun q hq => ⟨.inr (.inr hq), fun e => h.bc q (.inl e) (.inl hq)⟩), hn⟩
theorem rd_listsC {s : Sl} (hs : s.val = vc) (h : RdSt w2 w bk b vb Sb vc Sc (fun q => vc.ownBlock = some q)) (hln : Sc.length ≤ 50000) (hS : b.S1.length < 250) :
    Calls Tryz.prog 18 #[.pointer (some ⟨bk, 0, none⟩), s.val] w fun e w' => e = .returned (.tuple #[]) ∧ ∃ b', (BkSt w' bk w2.heap.size b' ∧ Tn (fun q => q = bk ∨ w2.heap.size ≤ q) w2 w') ∧ b'.S1.length = b.S1.length + 1 := by
  subst hs
  refine (lists_book h.st (own_lk h.lc.outer) (fun q hq => h.p q hq) hln h.lenc (fun x hx => ?_) hS).mono ?_
  · obtain ⟨i, hi, rfl⟩ := List.mem_iff_getElem.1 hx
    exact ⟨_, h.lc.each i hi, fun q hq => h.out q (.inr (.inr ⟨i, hi, hq⟩))⟩
  · rintro e w' ⟨rfl, b', hg, hn⟩
    exact ⟨rfl, b', ⟨hg.st, h.tn.trans (hg.tn.mono (fun q hq => (BB.out_foot hq).imp id (fun hf => (h.st.lt hf).1)))⟩, hn⟩
end
theorem rd_apart {w2 w : World} {bk : Nat} {b : BB} (h : BkSt w bk w2.heap.size b) (hS : b.S1.length ≤ 250) (htn : Tn (fun q => q = bk ∨ w2.heap.size ≤ q) w2 w) :
    Calls Tryz.prog 19 #[.pointer (some ⟨bk, 0, none⟩)] w fun e w' => e = .returned (.bool true) ∧ Tn (fun q => q = bk ∨ w2.heap.size ≤ q) w2 w' := by
  refine (apart_any h.Bw h.bB h.n h.k0 h.k1 (fun i hi x hx => ⟨(h.r1 i hi x hx).1.rd, by have := (h.r1 i hi x hx).2; omega⟩) (fun i hi x hx => (h.t1 i hi x hx).rd) (fun q h0 h1 => h.d q (.inl h0) (.inl h1)) h.n0 h.l0 hS h.l1).mono ?_
  rintro e w' ⟨rfl, ht⟩
  exact ⟨rfl, htn.trans (ht.mono (fun q hq => .inr (hq.elim (fun h1 => (h.k0.l.lt h1).1) (fun h1 => (h.k1.l.lt h1).1))))⟩
end Go.Proofs.YtkeggcfnoonakaaGreat
