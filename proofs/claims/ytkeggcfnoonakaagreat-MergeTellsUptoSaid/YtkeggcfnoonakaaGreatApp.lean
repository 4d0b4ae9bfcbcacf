
/-
  append, for whatever elements: of one and of many, to a slice of the call's own.
-/
import Derived.Test.YtkeggcfnoonakaaGreatFrame
import Derived.Laws.AppendOwnNone
import Derived.Laws.OwnMore
set_option linter.unusedSimpArgs false
set_option linter.unusedVariables false
namespace Go.Proofs.YtkeggcfnoonakaaGreat
open Go.RowKit

/-- The elements of a type: each lies in k cells. -/
structure Elm (P : Program) (T E : TypeId) (k by_ : Nat) {α : Type} (cell : α → List Value) : Prop where
  und : P.underlying T = some (.slice E)
  info : ∃ i z, P.info? E = some i ∧ i.zero = some z ∧ i.size = k ∧ i.bytes = by_ ∧ z.cells.size = k
  pos : 0 < k
  few : by_ ≤ 1000
  len : ∀ x, (cell x).length = k
  one : ∀ x, ∀ u ∈ cell x, u.oneCell' = true

section
variable {P : Program} {T E : TypeId} {k by_ : Nat} {α : Type} {cell : α → List Value}
theorem Elm.lens (e : Elm P T E k by_ cell) (l : List α) : (l.flatMap cell).length = l.length * k := by
  induction l with
  | nil => simp
  | cons m l ih => rw [List.flatMap_cons, List.length_append, ih, List.length_cons, e.len, Nat.add_mul]; omega
theorem Elm.ones (e : Elm P T E k by_ cell) (l : List α) : ∀ u ∈ l.flatMap cell, u.oneCell' = true := by
  intro u hu
  simp only [List.mem_flatMap] at hu
  obtain ⟨m, _, hm⟩ := hu
  exact e.one m u hm
theorem Elm.get (e : Elm P T E k by_ cell) (l : List α) (i j : Nat) (hi : i < l.length) (hj : j < k) : (l.flatMap cell)[i * k + j]? = (cell l[i])[j]? := by
  induction l generalizing i with
  | nil => simp at hi
  | cons m l ih =>
    rw [List.flatMap_cons]
    cases i with
    | zero => rw [Nat.zero_mul, Nat.zero_add, List.getElem?_append_left (by rw [e.len]; exact hj)]; rfl
    | succ i =>
      have h := ih i (by simpa using hi)
      rw [List.getElem?_append_right (by rw [e.len, Nat.add_mul]; omega), show (i + 1) * k + j - (cell m).length = i * k + j by rw [e.len, Nat.add_mul]; omega, h]
      rfl

/-- A slice of the call's own, in a block from B on, that holds l. -/
abbrev Own (_e : Elm P T E k by_ cell) (w : World) (B : Nat) (v : Value) (l : List α) : Prop := w.ownsRow B E k v l.length (l.flatMap cell)
/-- A slice that can be read: l. -/
def Src (_e : Elm P T E k by_ cell) (w : World) (x : Value) (l : List α) : Prop :=
  (x = .slice none 0 0 ∧ l = []) ∨ ∃ ad c, x = .slice (some ad) l.length c ∧ ∀ j u, (l.flatMap cell)[j]? = some u → w.cell? (ad.add j) = some u

theorem row_form {w : World} {B e s n : Nat} {v : Value} {xs : List Value} (h : w.ownsRow B e s v n xs) : ∃ a cap, v = .slice a n cap ∧ n ≤ cap ∧ cap ≤ 9223372036854775807 := by
  obtain ⟨_, h2⟩ := h
  rcases h2 with ⟨rfl, h0⟩ | ⟨g, cap, cur, rfl, hg, hh, hn, hc, _⟩
  · exact ⟨none, 0, by rw [h0], by omega, by omega⟩
  · exact ⟨_, cap, rfl, hn, by unfold maxLen at hc; omega⟩
theorem row_mono {w : World} {B B' e s n : Nat} {v : Value} {xs : List Value} (h : w.ownsRow B e s v n xs) (hB : B' ≤ B) : w.ownsRow B' e s v n xs := by
  obtain ⟨h1, h2⟩ := h
  refine ⟨h1, ?_⟩
  rcases h2 with h2 | ⟨g, cap, cur, hv, hg, r⟩
  · exact .inl h2
  · exact .inr ⟨g, cap, cur, hv, Nat.le_trans hB hg, r⟩
theorem below_grown {w w' : World} {B e s n : Nat} {v : Value} {xs : List Value} (h : w.ownsRow B e s v n xs) (hg : w.grownBy w' v.ownBlock) (hB : B ≤ w.heap.size) : Below B w w' :=
  (Tn.ofGrown (F := fun q => B ≤ q) hg (fun q hq => (h.lt q hq).1)).below hB (fun _ e => e)
theorem row_below {w w' : World} {B e s n : Nat} {v : Value} {xs : List Value} (h : w.ownsRow B e s v n xs) (hb : Below w.heap.size w w') : w'.ownsRow B e s v n xs :=
  (Tn.ofBelow (F := fun _ => False) hb).row h (fun _ _ h => h)
theorem add_off (g o j : Nat) : (⟨g, o, none⟩ : Addr).add j = ⟨g, o + j, none⟩ := by unfold Addr.add; split <;> simp_all

theorem Own.src {e : Elm P T E k by_ cell} {w : World} {B : Nat} {v : Value} {l : List α} (h : Own e w B v l) : Src e w v l := by
  have h0 := h
  obtain ⟨h1, h2⟩ := h
  rcases h2 with ⟨h2, h3⟩ | ⟨g, cap', cur, h2, hg, hh, hn, hc, hcl, htk⟩
  · exact .inl ⟨h2, List.eq_nil_of_length_eq_zero h3⟩
  · subst h2
    refine .inr ⟨_, cap', rfl, fun j u hj => ?_⟩
    have hjl : j < l.length * k := by rw [← e.lens]; exact (List.getElem?_eq_some_iff.1 hj).1
    rw [add_off, Nat.zero_add, h0.cellAt j hjl, hj]
theorem Src.below {e : Elm P T E k by_ cell} {w w' : World} {n : Nat} {v : Value} {l : List α} (h : Src e w v l) (hb : Below n w w') (hn : ∀ b, v.ownBlock = some b → b < n) : Src e w' v l := by
  rcases h with h | ⟨ad, c, rfl, h⟩
  · exact .inl h
  · refine .inr ⟨ad, c, rfl, fun j u hj => ?_⟩
    have hlt : (ad.add j).block < n := by
      have := hn ad.block rfl
      unfold Addr.add; split <;> simpa
    exact (hb.cell hlt).trans (h j u hj)
/-- One element, in a block of its own. -/
theorem src_one {e : Elm P T E k by_ cell} (w : World) (x : α) (cs : Array Value) (t : TypeId) (hc : cell x = cs.toList) (c : Nat) : Src e (w.alloc (.cells cs t)) (.slice (some ⟨w.heap.size, 0, none⟩) 1 c) [x] := by
  refine .inr ⟨_, c, rfl, ?_⟩
  intro j u hj
  simp only [List.flatMap_cons, List.flatMap_nil, List.append_nil, hc] at hj
  rw [add_off, Nat.zero_add]
  simp only [Array.getElem?_toList] at hj
  simp [go_sem, hj]

theorem run_app (e : Elm P T E k by_ cell) (ty : TypeId) {w : World} {B : Nat} {v x : Value} {l l2 : List α} (hown : Own e w B v l) (hsrc : Src e w x l2) (hlen : l.length + l2.length ≤ 100000000) (hB : B ≤ w.heap.size) :
    ∃ a cap w', (Builtin.append_ #[T, T] ty #[v, x]).run P w = .ok (.slice a (l.length + l2.length) cap) w' ∧ Own e w' B (.slice a (l.length + l2.length) cap) (l ++ l2) ∧ Below B w w' ∧ w.grownBy w' v.ownBlock ∧ ((Value.slice a (l.length + l2.length) cap).ownBlock = v.ownBlock ∨ (Value.slice a (l.length + l2.length) cap).ownBlock = some w.heap.size) := by
  obtain ⟨i, z, hi, hz, hsz, hby, hzs⟩ := e.info
  rcases hsrc with ⟨rfl, rfl⟩ | ⟨ad, c, rfl, hcell⟩
  · obtain ⟨a, cap, rfl, _, _⟩ := row_form hown
    have hg : w.grownBy w (Value.slice a l.length cap).ownBlock := ⟨rfl, rfl, rfl, Nat.le_refl _, fun _ _ _ => rfl⟩
    exact ⟨a, cap, w, run_append_owned_none (P := P) (w := w) B T ty E i k e.und hi _ _ _ hown, by simpa using hown, Below.refl _ _, hg, .inl rfl⟩
  · have hfew := e.few
    have hb : (l.length + l2.length) * by_ ≤ 140737488355328 := Nat.le_trans (Nat.mul_le_mul hlen hfew) (by omega)
    obtain ⟨v', w', hr, h2, h3, _, h5⟩ := run_append_own_at (P := P) w B T ty E i z k by_ e.und hi hz hsz hby hzs e.pos v l.length (l.flatMap cell) hown ad l2.length c (l2.flatMap cell)
      (e.lens l2) hcell (e.ones l2) (by unfold maxLen; omega) hb hB
    obtain ⟨a, cap, rfl, _, _⟩ := row_form h2
    refine ⟨a, cap, w', hr, ?_, below_grown hown h3 hB, h3, h5⟩
    show w'.ownsRow B E k _ _ _
    rw [List.length_append, List.flatMap_append]
    exact h2

section
variable {w : World} {ops : Array Oper} {rest : List Oper} {o : Oper} {a : Act} {Q : Exit → Act → World → Prop} {K : Act → World → Prop}
theorem wp_app (e : Elm P T E k by_ cell) (s x : Operand) (ho : o.op = .call { callee := .builtin .append, args := #[s, x], argTypes := #[T, T] }) {B : Nat} {v xv : Value} {l l2 : List α} (hs : a.eval s = v) (hx : a.eval x = xv)
    (hown : Own e w B v l) (hsrc : Src e w xv l2) (hlen : l.length + l2.length ≤ 100000000) (hB : B ≤ w.heap.size)
    (h : ∀ a' cap w', Own e w' B (.slice a' (l.length + l2.length) cap) (l ++ l2) → Below B w w' → w.grownBy w' v.ownBlock → ((Value.slice a' (l.length + l2.length) cap).ownBlock = v.ownBlock ∨ (Value.slice a' (l.length + l2.length) cap).ownBlock = some w.heap.size) → K (a.put o.dst (.slice a' (l.length + l2.length) cap)) w') : o.wp P a w K Q := by
  obtain ⟨a', cap, w', hr, h2, h3, h4, h5⟩ := run_app e o.type hown hsrc hlen hB
  unfold Oper.wp execOp
  simp only [ho, resolve, invoke, builtin, Sem.run_bind, Sem.run_pure, Result.andThen_ok, List.map_toArray, List.map_cons, List.map_nil, hs, hx, hr]
  exact h a' cap w' h2 h3 h4 h5
/-- append, as a step of a walk. -/
theorem wpl_app (e : Elm P T E k by_ cell) (hgd : o.guard = none) (s x : Operand) (ho : o.op = .call { callee := .builtin .append, args := #[s, x], argTypes := #[T, T] }) {B : Nat} {v xv : Value} {l l2 : List α} (hs : a.eval s = v) (hx : a.eval x = xv)
    (hown : Own e w B v l) (hsrc : Src e w xv l2) (hlen : l.length + l2.length ≤ 100000000) (hB : B ≤ w.heap.size)
    (h : ∀ a' cap w', Own e w' B (.slice a' (l.length + l2.length) cap) (l ++ l2) → Below B w w' → w.grownBy w' v.ownBlock → ((Value.slice a' (l.length + l2.length) cap).ownBlock = v.ownBlock ∨ (Value.slice a' (l.length + l2.length) cap).ownBlock = some w.heap.size) → wpList P ops Q rest (a.put o.dst (.slice a' (l.length + l2.length) cap)) w') : wpList P ops Q (o :: rest) a w :=
  wpList_plain hgd fun _ hK => wp_app e s x ho hs hx hown hsrc hlen hB fun a' cap w' h2 h3 h4 h5 => hK _ _ (h a' cap w' h2 h3 h4 h5)
/-- append, as a step of a region that draws its order. -/
theorem step_app {F : Prop} (e : Elm P T E k by_ cell) (hgd : o.guard = none) (s x : Operand) (ho : o.op = .call { callee := .builtin .append, args := #[s, x], argTypes := #[T, T] }) {B : Nat} {v xv : Value} {l l2 : List α} (hs : a.eval s = v) (hx : a.eval x = xv)
    (hown : Own e w B v l) (hsrc : Src e w xv l2) (hlen : l.length + l2.length ≤ 100000000) (hB : B ≤ w.heap.size)
    (h : ∀ a' cap w', Own e w' B (.slice a' (l.length + l2.length) cap) (l ++ l2) → Below B w w' → w.grownBy w' v.ownBlock → ((Value.slice a' (l.length + l2.length) cap).ownBlock = v.ownBlock ∨ (Value.slice a' (l.length + l2.length) cap).ownBlock = some w.heap.size) → K (a.put o.dst (.slice a' (l.length + l2.length) cap)) w') :
    if Region.wanted o (yielded ops a.tmps) = true then o.wp P a w K Q else F := by
  have hw : Region.wanted o (yielded ops a.tmps) = true := by simp [Region.wanted, hgd]
  rw [if_pos hw]
  exact wp_app e s x ho hs hx hown hsrc hlen hB h
end
end
end Go.Proofs.YtkeggcfnoonakaaGreat
