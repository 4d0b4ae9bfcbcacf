import Derived.Test.YtnegappgdpeabaaGreatFrame
import Derived.Laws.AppendOwnNone
import Derived.Laws.OwnMore
import Derived.ArgAppend
import Derived.Test.YtnegappgdpeabaaGreatMp
import Derived.Deep.RegionHeld3
set_option linter.unusedSimpArgs false
set_option linter.unusedVariables false
/-
  append, for whatever elements: of one and of many, to a slice of the call's own.
-/
namespace Go.Proofs.YtnegappgdpeabaaGreat
open Go.RowKit

/-- The elements of a type: each lies in k cells. -/
structure Elm (P : Program) (T E : TypeId) (k by_ : Nat) {α : Type} (cell : α → List Value) : Prop where
  und : P.underlying T = some (.slice E)
  info : ∃ i z, P.info? E = some i ∧ i.zero = some z ∧ i.size = k ∧ i.bytes = by_ ∧ z.cells.size = k
  pos : 0 < k
  few : by_ ≤ 1000
  len : ∀ x, (cell x).length = k
  one : ∀ x, ∀ u ∈ cell x, u.oneCell' = true

section
variable {P : Program} {T E : TypeId} {k by_ : Nat} {α : Type} {cell : α → List Value}
theorem Elm.lens (e : Elm P T E k by_ cell) (l : List α) : (l.flatMap cell).length = l.length * k := by
  induction l with
  | nil => simp
  | cons m l ih => rw [List.flatMap_cons, List.length_append, ih, List.length_cons, e.len, Nat.add_mul]; omega
theorem Elm.ones (e : Elm P T E k by_ cell) (l : List α) : ∀ u ∈ l.flatMap cell, u.oneCell' = true := by
  intro u hu
  simp only [List.mem_flatMap] at hu
  obtain ⟨m, _, hm⟩ := hu
  exact e.one m u hm
theorem Elm.get (e : Elm P T E k by_ cell) (l : List α) (i j : Nat) (hi : i < l.length) (hj : j < k) : (l.flatMap cell)[i * k + j]? = (cell l[i])[j]? := by
  induction l generalizing i with
  | nil => simp at hi
  | cons m l ih =>
    rw [List.flatMap_cons]
    cases i with
    | zero => rw [Nat.zero_mul, Nat.zero_add, List.getElem?_append_left (by rw [e.len]; exact hj)]; rfl
    | succ i =>
      have h := ih i (by simpa using hi)
      rw [List.getElem?_append_right (by rw [e.len, Nat.add_mul]; omega), show (i + 1) * k + j - (cell m).length = i * k + j by rw [e.len, Nat.add_mul]; omega, h]
      rfl

/-- A slice of the call's own, in a block from B on, that holds l. -/
abbrev Own (_e : Elm P T E k by_ cell) (w : World) (B : Nat) (v : Value) (l : List α) : Prop := w.ownsRow B E k v l.length (l.flatMap cell)
/-- A slice that can be read: l. -/
def Src (_e : Elm P T E k by_ cell) (w : World) (x : Value) (l : List α) : Prop :=
  (x = .slice none 0 0 ∧ l = []) ∨ ∃ ad c, x = .slice (some ad) l.length c ∧ ∀ j u, (l.flatMap cell)[j]? = some u → w.cell? (ad.add j) = some u

theorem row_form {w : World} {B e s n : Nat} {v : Value} {xs : List Value} (h : w.ownsRow B e s v n xs) : ∃ a cap, v = .slice a n cap ∧ n ≤ cap ∧ cap ≤ 9223372036854775807 := by
  obtain ⟨_, h2⟩ := h
  rcases h2 with ⟨rfl, h0⟩ | ⟨g, cap, cur, rfl, hg, hh, hn, hc, _⟩
  · exact ⟨none, 0, by rw [h0], by omega, by omega⟩
  · exact ⟨_, cap, rfl, hn, by unfold maxLen at hc; omega⟩
theorem row_mono {w : World} {B B' e s n : Nat} {v : Value} {xs : List Value} (h : w.ownsRow B e s v n xs) (hB : B' ≤ B) : w.ownsRow B' e s v n xs := by
  obtain ⟨h1, h2⟩ := h
  refine ⟨h1, ?_⟩
  rcases h2 with h2 | ⟨g, cap, cur, hv, hg, r⟩
  · exact .inl h2
  · exact .inr ⟨g, cap, cur, hv, Nat.le_trans hB hg, r⟩
theorem below_grown {w w' : World} {B e s n : Nat} {v : Value} {xs : List Value} (h : w.ownsRow B e s v n xs) (hg : w.grownBy w' v.ownBlock) (hB : B ≤ w.heap.size) : Below B w w' :=
  (Tn.ofGrown (F := fun q => B ≤ q) hg (fun q hq => (h.lt q hq).1)).below hB (fun _ e => e)
theorem row_below {w w' : World} {B e s n : Nat} {v : Value} {xs : List Value} (h : w.ownsRow B e s v n xs) (hb : Below w.heap.size w w') : w'.ownsRow B e s v n xs :=
  (Tn.ofBelow (F := fun _ => False) hb).row h (fun _ _ h => h)
theorem add_off (g o j : Nat) : (⟨g, o, none⟩ : Addr).add j = ⟨g, o + j, none⟩ := by unfold Addr.add; split <;> simp_all

theorem Own.src {e : Elm P T E k by_ cell} {w : World} {B : Nat} {v : Value} {l : List α} (h : Own e w B v l) : Src e w v l := by
  have h0 := h
  obtain ⟨h1, h2⟩ := h
  rcases h2 with ⟨h2, h3⟩ | ⟨g, cap', cur, h2, hg, hh, hn, hc, hcl, htk⟩
  · exact .inl ⟨h2, List.eq_nil_of_length_eq_zero h3⟩
  · subst h2
    refine .inr ⟨_, cap', rfl, fun j u hj => ?_⟩
    have hjl : j < l.length * k := by rw [← e.lens]; exact (List.getElem?_eq_some_iff.1 hj).1
    rw [add_off, Nat.zero_add, h0.cellAt j hjl, hj]
theorem Src.below {e : Elm P T E k by_ cell} {w w' : World} {n : Nat} {v : Value} {l : List α} (h : Src e w v l) (hb : Below n w w') (hn : ∀ b, v.ownBlock = some b → b < n) : Src e w' v l := by
  rcases h with h | ⟨ad, c, rfl, h⟩
  · exact .inl h
  · refine .inr ⟨ad, c, rfl, fun j u hj => ?_⟩
    have hlt : (ad.add j).block < n := by
      have := hn ad.block rfl
      unfold Addr.add; split <;> simpa
    exact (hb.cell hlt).trans (h j u hj)
/-- One element, in a block of its own. -/
theorem src_one {e : Elm P T E k by_ cell} (w : World) (x : α) (cs : Array Value) (t : TypeId) (hc : cell x = cs.toList) (c : Nat) : Src e (w.alloc (.cells cs t)) (.slice (some ⟨w.heap.size, 0, none⟩) 1 c) [x] := by
  refine .inr ⟨_, c, rfl, ?_⟩
  intro j u hj
  simp only [List.flatMap_cons, List.flatMap_nil, List.append_nil, hc] at hj
  rw [add_off, Nat.zero_add]
  simp only [Array.getElem?_toList] at hj
  simp [go_sem, hj]

theorem run_app (e : Elm P T E k by_ cell) (ty : TypeId) {w : World} {B : Nat} {v x : Value} {l l2 : List α} (hown : Own e w B v l) (hsrc : Src e w x l2) (hlen : l.length + l2.length ≤ 100000000) (hB : B ≤ w.heap.size) :
    ∃ a cap w', (Builtin.append_ #[T, T] ty #[v, x]).run P w = .ok (.slice a (l.length + l2.length) cap) w' ∧ Own e w' B (.slice a (l.length + l2.length) cap) (l ++ l2) ∧ Below B w w' ∧ w.grownBy w' v.ownBlock ∧ ((Value.slice a (l.length + l2.length) cap).ownBlock = v.ownBlock ∨ (Value.slice a (l.length + l2.length) cap).ownBlock = some w.heap.size) := by
  obtain ⟨i, z, hi, hz, hsz, hby, hzs⟩ := e.info
  rcases hsrc with ⟨rfl, rfl⟩ | ⟨ad, c, rfl, hcell⟩
  · obtain ⟨a, cap, rfl, _, _⟩ := row_form hown
    have hg : w.grownBy w (Value.slice a l.length cap).ownBlock := ⟨rfl, rfl, rfl, Nat.le_refl _, fun _ _ _ => rfl⟩
    exact ⟨a, cap, w, run_append_owned_none (P := P) (w := w) B T ty E i k e.und hi _ _ _ hown, by simpa using hown, Below.refl _ _, hg, .inl rfl⟩
  · have hfew := e.few
    have hb : (l.length + l2.length) * by_ ≤ 140737488355328 := Nat.le_trans (Nat.mul_le_mul hlen hfew) (by omega)
    obtain ⟨v', w', hr, h2, h3, _, h5⟩ := run_append_own_at (P := P) w B T ty E i z k by_ e.und hi hz hsz hby hzs e.pos v l.length (l.flatMap cell) hown ad l2.length c (l2.flatMap cell)
      (e.lens l2) hcell (e.ones l2) (by unfold maxLen; omega) hb hB
    obtain ⟨a, cap, rfl, _, _⟩ := row_form h2
    refine ⟨a, cap, w', hr, ?_, below_grown hown h3 hB, h3, h5⟩
    show w'.ownsRow B E k _ _ _
    rw [List.length_append, List.flatMap_append]
    exact h2

section
variable {w : World} {ops : Array Oper} {rest : List Oper} {o : Oper} {a : Act} {Q : Exit → Act → World → Prop} {K : Act → World → Prop}
theorem wp_app (e : Elm P T E k by_ cell) (s x : Operand) (ho : o.op = .call { callee := .builtin .append, args := #[s, x], argTypes := #[T, T] }) {B : Nat} {v xv : Value} {l l2 : List α} (hs : a.eval s = v) (hx : a.eval x = xv)
    (hown : Own e w B v l) (hsrc : Src e w xv l2) (hlen : l.length + l2.length ≤ 100000000) (hB : B ≤ w.heap.size)
    (h : ∀ a' cap w', Own e w' B (.slice a' (l.length + l2.length) cap) (l ++ l2) → Below B w w' → w.grownBy w' v.ownBlock → ((Value.slice a' (l.length + l2.length) cap).ownBlock = v.ownBlock ∨ (Value.slice a' (l.length + l2.length) cap).ownBlock = some w.heap.size) → K (a.put o.dst (.slice a' (l.length + l2.length) cap)) w') : o.wp P a w K Q := by
  obtain ⟨a', cap, w', hr, h2, h3, h4, h5⟩ := run_app e o.type hown hsrc hlen hB
  unfold Oper.wp execOp
  simp only [ho, resolve, invoke, builtin, Sem.run_bind, Sem.run_pure, Result.andThen_ok, List.map_toArray, List.map_cons, List.map_nil, hs, hx, hr]
  exact h a' cap w' h2 h3 h4 h5
/-- append, as a step of a walk. -/
theorem wpl_app (e : Elm P T E k by_ cell) (hgd : o.guard = none) (s x : Operand) (ho : o.op = .call { callee := .builtin .append, args := #[s, x], argTypes := #[T, T] }) {B : Nat} {v xv : Value} {l l2 : List α} (hs : a.eval s = v) (hx : a.eval x = xv)
    (hown : Own e w B v l) (hsrc : Src e w xv l2) (hlen : l.length + l2.length ≤ 100000000) (hB : B ≤ w.heap.size)
    (h : ∀ a' cap w', Own e w' B (.slice a' (l.length + l2.length) cap) (l ++ l2) → Below B w w' → w.grownBy w' v.ownBlock → ((Value.slice a' (l.length + l2.length) cap).ownBlock = v.ownBlock ∨ (Value.slice a' (l.length + l2.length) cap).ownBlock = some w.heap.size) → wpList P ops Q rest (a.put o.dst (.slice a' (l.length + l2.length) cap)) w') : wpList P ops Q (o :: rest) a w :=
  wpList_plain hgd fun _ hK => wp_app e s x ho hs hx hown hsrc hlen hB fun a' cap w' h2 h3 h4 h5 => hK _ _ (h a' cap w' h2 h3 h4 h5)
/-- append, as a step of a region that draws its order. -/
theorem step_app {F : Prop} (e : Elm P T E k by_ cell) (hgd : o.guard = none) (s x : Operand) (ho : o.op = .call { callee := .builtin .append, args := #[s, x], argTypes := #[T, T] }) {B : Nat} {v xv : Value} {l l2 : List α} (hs : a.eval s = v) (hx : a.eval x = xv)
    (hown : Own e w B v l) (hsrc : Src e w xv l2) (hlen : l.length + l2.length ≤ 100000000) (hB : B ≤ w.heap.size)
    (h : ∀ a' cap w', Own e w' B (.slice a' (l.length + l2.length) cap) (l ++ l2) → Below B w w' → w.grownBy w' v.ownBlock → ((Value.slice a' (l.length + l2.length) cap).ownBlock = v.ownBlock ∨ (Value.slice a' (l.length + l2.length) cap).ownBlock = some w.heap.size) → K (a.put o.dst (.slice a' (l.length + l2.length) cap)) w') :
    if Region.wanted o (yielded ops a.tmps) = true then o.wp P a w K Q else F := by
  have hw : Region.wanted o (yielded ops a.tmps) = true := by simp [Region.wanted, hgd]
  rw [if_pos hw]
  exact wp_app e s x ho hs hx hown hsrc hlen hB h
end
end
end Go.Proofs.YtnegappgdpeabaaGreat
/-
  append, and what becomes of the old slice.
-/
namespace Go.Proofs.YtnegappgdpeabaaGreat
open Go.RowKit

/-- A row's beginning is a row. -/
theorem row_prefix {w : World} {B e s n m g cap : Nat} {xs ys : List Value} (h : w.ownsRow B e s (.slice (some ⟨g, 0, none⟩) (n + m) cap) (n + m) (xs ++ ys)) (hx : xs.length = n * s) : w.ownsRow B e s (.slice (some ⟨g, 0, none⟩) n cap) n xs := by
  obtain ⟨_, h2⟩ := h
  refine ⟨hx, ?_⟩
  rcases h2 with ⟨h2, _⟩ | ⟨g', cap', cur, h2, hg, hh, hn, hc, hcl, htk⟩
  · cases h2
  · cases h2
    refine .inr ⟨g, cap, cur, rfl, hg, hh, by omega, hc, hcl, ?_⟩
    have h3 := congrArg (List.take (n * s)) htk
    rw [List.take_take, Nat.min_eq_left (Nat.mul_le_mul_right _ (by omega)), List.take_append_of_le_length (by omega)] at h3
    rw [h3]
    exact List.take_of_length_le (by omega)
section
variable {P : Program} {T E : TypeId} {k by_ : Nat} {α : Type} {cell : α → List Value}
/-- What append leaves. -/
structure Appd (e : Elm P T E k by_ cell) (w w' : World) (B : Nat) (v v' : Value) (l l2 : List α) : Prop where
  own : Own e w' B v' (l ++ l2)
  old : Own e w' B v l
  tn : Tn (fun q => v.ownBlock = some q) w w'
  block : v'.ownBlock = v.ownBlock ∨ ∀ q, v'.ownBlock = some q → w.heap.size ≤ q
theorem run_app2 (e : Elm P T E k by_ cell) (ty : TypeId) {w : World} {B : Nat} {v x : Value} {l l2 : List α} (hown : Own e w B v l) (hsrc : Src e w x l2) (hlen : l.length + l2.length ≤ 100000000) (hB : B ≤ w.heap.size) :
    ∃ a cap w', (Builtin.append_ #[T, T] ty #[v, x]).run P w = .ok (.slice a (l.length + l2.length) cap) w' ∧ Appd e w w' B v (.slice a (l.length + l2.length) cap) l l2 := by
  obtain ⟨i, z, hi, hz, hsz, hby, hzs⟩ := e.info
  rcases hsrc with ⟨rfl, rfl⟩ | ⟨ad, c, rfl, hcell⟩
  · obtain ⟨a, cap, rfl, _, _⟩ := row_form hown
    exact ⟨a, cap, w, run_append_owned_none (P := P) (w := w) B T ty E i k e.und hi _ _ _ hown, by simpa using hown, hown, Tn.refl _ _, .inl rfl⟩
  · have hfew := e.few
    have hb : (l.length + l2.length) * by_ ≤ 140737488355328 := Nat.le_trans (Nat.mul_le_mul hlen hfew) (by omega)
    have h0 := hown
    obtain ⟨hxl, h2⟩ := hown
    rcases h2 with ⟨rfl, hl0⟩ | ⟨g, cap, cur, rfl, hg, hh, hn, hc, hcl, htk⟩
    · obtain ⟨v', w', hr, h2, h3, _, h5⟩ := run_append_own_at (P := P) w B T ty E i z k by_ e.und hi hz hsz hby hzs e.pos (.slice none 0 0) l.length (l.flatMap cell) h0 ad l2.length c (l2.flatMap cell)
        (e.lens l2) hcell (e.ones l2) (by unfold maxLen; omega) hb hB
      obtain ⟨a, cap, rfl, _, _⟩ := row_form h2
      refine ⟨a, cap, w', hr, ?_, ?_, Tn.ofGrown h3 (fun q hq => hq), ?_⟩
      · show w'.ownsRow B E k _ _ _
        rw [List.length_append, List.flatMap_append]
        exact h2
      · exact ⟨hxl, .inl ⟨rfl, hl0⟩⟩
      · rcases h5 with h5 | h5
        · exact .inl h5
        · exact .inr fun q hq => by rw [h5] at hq; injection hq with hq; omega
    · by_cases hroom : l.length + l2.length ≤ cap
      · obtain ⟨w', hr, h2, h3⟩ := run_append_fits (P := P) w B T ty E i k e.und hi hsz g l.length cap (l.flatMap cell) h0 ad l2.length c (l2.flatMap cell) (e.lens l2) hcell (e.ones l2) hroom
        refine ⟨_, cap, w', hr, ?_, row_prefix h2 hxl, Tn.ofGrown h3 (fun q hq => hq), .inl rfl⟩
        show w'.ownsRow B E k _ _ _
        rw [List.length_append, List.flatMap_append]
        exact h2
      · obtain ⟨v', w', hr, h2, h3⟩ := run_append_arg_grows (P := P) w T ty E i z k by_ e.und hi hz hsz hby hzs e.pos ⟨g, 0, none⟩ l.length cap (l.flatMap cell) hxl (fun j u hj => by
          have hjl : j < l.length * k := by rw [← hxl]; exact (List.getElem?_eq_some_iff.1 hj).1
          rw [add_off, Nat.zero_add, h0.cellAt j hjl, hj]) ad l2.length c (l2.flatMap cell) (e.lens l2) hcell (by omega) (by unfold maxLen; omega) hb
        obtain ⟨a, cap', rfl, _, _⟩ := row_form h2
        have htn : Tn (fun _ => False) w w' := Tn.ofGrown h3 (fun q hq => by cases hq)
        refine ⟨a, cap', w', hr, ?_, htn.row h0 (fun _ _ h => h), htn.mono (fun _ h => h.elim), .inr fun q hq => (h2.lt q hq).1⟩
        show w'.ownsRow B E k _ _ _
        rw [List.length_append, List.flatMap_append]
        exact row_mono h2 hB

section
variable {w : World} {ops : Array Oper} {rest : List Oper} {o : Oper} {a : Act} {Q : Exit → Act → World → Prop} {K : Act → World → Prop}
theorem wp_app2 (e : Elm P T E k by_ cell) (s x : Operand) (ho : o.op = .call { callee := .builtin .append, args := #[s, x], argTypes := #[T, T] }) {B : Nat} {v xv : Value} {l l2 : List α} (hs : a.eval s = v) (hx : a.eval x = xv)
    (hown : Own e w B v l) (hsrc : Src e w xv l2) (hlen : l.length + l2.length ≤ 100000000) (hB : B ≤ w.heap.size)
    (h : ∀ a' cap w', Appd e w w' B v (.slice a' (l.length + l2.length) cap) l l2 → K (a.put o.dst (.slice a' (l.length + l2.length) cap)) w') : o.wp P a w K Q := by
  obtain ⟨a', cap, w', hr, h2⟩ := run_app2 e o.type hown hsrc hlen hB
  unfold Oper.wp execOp
  simp only [ho, resolve, invoke, builtin, Sem.run_bind, Sem.run_pure, Result.andThen_ok, List.map_toArray, List.map_cons, List.map_nil, hs, hx, hr]
  exact h a' cap w' h2
theorem wpl_app2 (e : Elm P T E k by_ cell) (hgd : o.guard = none) (s x : Operand) (ho : o.op = .call { callee := .builtin .append, args := #[s, x], argTypes := #[T, T] }) {B : Nat} {v xv : Value} {l l2 : List α} (hs : a.eval s = v) (hx : a.eval x = xv)
    (hown : Own e w B v l) (hsrc : Src e w xv l2) (hlen : l.length + l2.length ≤ 100000000) (hB : B ≤ w.heap.size)
    (h : ∀ a' cap w', Appd e w w' B v (.slice a' (l.length + l2.length) cap) l l2 → wpList P ops Q rest (a.put o.dst (.slice a' (l.length + l2.length) cap)) w') : wpList P ops Q (o :: rest) a w :=
  wpList_plain hgd fun _ hK => wp_app2 e s x ho hs hx hown hsrc hlen hB fun a' cap w' h2 => hK _ _ (h a' cap w' h2)
theorem step_app2 {F : Prop} (e : Elm P T E k by_ cell) (hgd : o.guard = none) (s x : Operand) (ho : o.op = .call { callee := .builtin .append, args := #[s, x], argTypes := #[T, T] }) {B : Nat} {v xv : Value} {l l2 : List α} (hs : a.eval s = v) (hx : a.eval x = xv)
    (hown : Own e w B v l) (hsrc : Src e w xv l2) (hlen : l.length + l2.length ≤ 100000000) (hB : B ≤ w.heap.size)
    (h : ∀ a' cap w', Appd e w w' B v (.slice a' (l.length + l2.length) cap) l l2 → K (a.put o.dst (.slice a' (l.length + l2.length) cap)) w') :
    if Region.wanted o (yielded ops a.tmps) = true then o.wp P a w K Q else F := by
  have hw : Region.wanted o (yielded ops a.tmps) = true := by simp [Region.wanted, hgd]
  rw [if_pos hw]
  exact wp_app2 e s x ho hs hx hown hsrc hlen hB h
end
end
end Go.Proofs.YtnegappgdpeabaaGreat
/-
  A load may be taken first as long as the region's last store has not come up: the condition on the world is asked for only till then.
-/
namespace Go.Proofs.YtnegappgdpeabaaGreat
open Go.RowKit
section
variable {P : Program} {ops : Array Oper} {Q : Exit → Act → World → Prop} {md : Region.Mode} {S : World → Prop} {k : Nat}

/-- Whatever order is picked from here on; behind every operation S holds, as long as operation k has not come up. -/
def wpAnyK (P : Program) (md : Region.Mode) (ops : Array Oper) (Q : Exit → Act → World → Prop) (S : World → Prop) (k : Nat) : Nat → Array Bool → Act → World → Prop
  | 0, listed, a, w => Region.ready md ops listed = [] ∧ Q .normal a w
  | fuel + 1, listed, a, w =>
    (Region.ready md ops listed = [] → Q .normal a w) ∧
    ∀ i ∈ Region.ready md ops listed, wpOp P ops Q i (fun a' w' => ((listed.setIfInBounds i true).getD k true = false → S w') ∧ wpAnyK P md ops Q S k fuel (listed.setIfInBounds i true) a' w') a w

theorem wpAny_of_K : ∀ (fuel : Nat) (listed : Array Bool) (a : Act) (w : World), wpAnyK P md ops Q S k fuel listed a w → wpAny P md ops Q fuel listed a w
  | 0, _, _, _, h => h
  | fuel + 1, _, _, _, h => ⟨h.1, fun i hi => wpOp_mono (fun a' w' h' => wpAny_of_K fuel _ a' w' h'.2) (h.2 i hi)⟩

/-- Operation b waits for a. -/
def Region.waits (md : Region.Mode) (ops : Array Oper) (a b : Nat) : Bool :=
  match ops[b]? with
  | some ob => ob.after.any fun e => Region.binds md e && e.on == a
  | none => false
/-- Each of a row of operations waits for the one ahead of it. -/
def Region.row (md : Region.Mode) (ops : Array Oper) : List Nat → Bool
  | a :: b :: l => Region.waits md ops a b && Region.row md ops (b :: l)
  | _ => true

theorem waits_spec {a b : Nat} (h : Region.waits md ops a b = true) (listed : Array Bool) (hl : listed.getD a true = false) : b ∉ Region.ready md ops listed := by
  intro hr
  obtain ⟨_, ok, hok, hall⟩ := mem_ready.1 hr
  unfold Region.waits at h
  simp only [hok] at h
  rw [← Array.any_toList] at h
  obtain ⟨e, he, hb⟩ := List.any_eq_true.1 h
  simp only [Bool.and_eq_true, beq_iff_eq] at hb
  have h1 := hall e (Array.mem_toList_iff.1 he) hb.1
  rw [hb.2] at h1
  rcases Nat.lt_or_ge a listed.size with h' | h'
  · simp [h'] at hl h1; rw [hl] at h1; cases h1
  · simp [Array.getElem?_eq_none h'] at h1

theorem row_spec : ∀ (l : List Nat) (i : Nat), Region.row md ops (i :: l) = true → ∀ listed : Array Bool, (∀ a ∈ i :: l, listed.getD a true = false) → ∀ a ∈ l, a ∉ Region.ready md ops listed
  | [], _, _, _, _, a, ha => by simp at ha
  | b :: l, i, hr, listed, hl, a, ha => by
    simp only [Region.row, Bool.and_eq_true] at hr
    rcases List.mem_cons.1 ha with rfl | ha
    · exact waits_spec hr.1 listed (hl i (by simp))
    · exact row_spec l b hr.2 listed (fun c hc => hl c (List.mem_cons_of_mem _ hc)) a ha

/-- An operation that may come up now, that yields its value in every world that meets S, and that k waits for, over a row of others, may be taken first. -/
theorem wpAnyK_first {i : Nat} {oi : Oper} {v : Value} {path : List Nat} (hi : ops[i]? = some oi) (hsel : ∀ (j : Nat) (o : Oper) cs b, ops[j]? = some o → o.op ≠ .select cs b)
    (hQ : ∀ c a w, Q (.panic c) (a.put oi.dst v) w → Q (.panic c) a w) (hik : i ∉ path) (hkp : k ∈ path) (hrow : Region.row md ops (i :: path) = true) :
    ∀ (fuel : Nat) (listed : Array Bool) (a : Act) (w : World),
      (∀ j oj, ops[j]? = some oj → j ≠ i → listed.getD j true = false → (∀ e ∈ oj.after, Region.binds md e = true → e.on ≠ i) → oi.apart ops oj = true) →
      i ∈ Region.ready md ops listed → (∀ b ∈ i :: path, listed.getD b true = false) → YieldsIf P ops S oi v a → S w →
      wpAnyK P md ops Q S k fuel (listed.setIfInBounds i true) (a.put oi.dst v) w → wpAnyK P md ops Q S k (fuel + 1) listed a w := by
  intro fuel
  have hike : i ≠ k := fun e => hik (e ▸ hkp)
  induction fuel with
  | zero =>
    intro listed a w _ hr hk hy hS H
    refine ⟨fun h => (by rw [h] at hr; cases hr), fun j hj => ?_⟩
    by_cases hji : j = i
    · subst hji; exact hy.wpOp hi hS ⟨fun _ => hS, H⟩
    · have := ready_mono hj hji
      rw [H.1] at this
      cases this
  | succ fuel ih =>
    intro listed a w hfree hr hk hy hS H
    refine ⟨fun h => (by rw [h] at hr; cases hr), fun j hj => ?_⟩
    by_cases hji : j = i
    · subst hji; exact hy.wpOp hi hS ⟨fun _ => hS, H⟩
    · have h1 := H.2 j (ready_mono hj hji)
      have hjp : j ∉ path := fun e => row_spec path i hrow listed hk j e hj
      have hjk : j ≠ k := fun e => hjp (e ▸ hkp)
      obtain ⟨hjun, oj, hoj, hall⟩ := mem_ready.1 hj
      have hnot : ∀ e ∈ oj.after, Region.binds md e = true → e.on ≠ i := fun e he hb heq => by
        have h1 := hall e he hb
        have h0 := (mem_ready.1 hr).1
        rw [heq] at h1
        rcases Nat.lt_or_ge i listed.size with h' | h'
        · simp [h'] at h0 h1; rw [h0] at h1; cases h1
        · simp [Array.getElem?_eq_none h'] at h1
      have h2 := wpOp_putIf hoj (hfree j oj hoj hji hjun hnot) (fun cs b => hsel i oi cs b hi) (fun cs b => hsel j oj cs b hoj) hQ hy h1
      have hfree' : ∀ k ok, ops[k]? = some ok → k ≠ i → (listed.setIfInBounds j true).getD k true = false →
          (∀ e ∈ ok.after, Region.binds md e = true → e.on ≠ i) → oi.apart ops ok = true := fun k ok hk hki hun hno => by
        refine hfree k ok hk hki ?_ hno
        by_cases hjk : j = k
        · subst hjk; exact hjun
        · rw [getD_set_ne true hjk] at hun; exact hun
      have hk0 : listed.getD k true = false := hk k (List.mem_cons_of_mem _ hkp)
      have hkij : ((listed.setIfInBounds i true).setIfInBounds j true).getD k true = false := by rw [getD_set_ne true hjk, getD_set_ne true hike]; exact hk0
      have hk' : ∀ b ∈ i :: path, (listed.setIfInBounds j true).getD b true = false := fun b hb => by
        rw [getD_set_ne true (fun e => by
          rcases List.mem_cons.1 hb with h | h
          · exact hji (e.trans h)
          · exact hjp (e ▸ h))]
        exact hk b hb
      refine wpOp_mono (fun a' w' h3 => ⟨fun _ => h3.2.1 hkij, ih (listed.setIfInBounds j true) a' w' hfree' (ready_mono hr (Ne.symm hji)) hk' h3.1 (h3.2.1 hkij) ?_⟩) h2
      rw [Array.setIfInBounds_comm _ _ hji]
      exact h3.2.2

/-- Take number i first; path: a row of operations from behind i to k, each waiting for the one ahead of it. -/
theorem wpAnyK_take {i : Nat} (path : List Nat) {t : Option Tmp} {op : Op} {ty : TypeId} {pos : String} {aft : Array Edge} {gd : Option (Nat × Bool)} {v : Value} {fuel : Nat} {listed : Array Bool} {a : Act} {w : World} (hi : ops[i]? = some ⟨t, op, ty, pos, aft, gd⟩)
    (hs : Region.noSelect ops = true) (hf : Region.free md ops listed i = true) (hr : (Region.ready md ops listed).contains i = true)
    (hk : (!path.contains i && path.contains k && Region.row md ops (i :: path) && (i :: path).all (fun b => listed.getD b true == false)) = true)
    (hQ : ∀ c a w, Q (.panic c) (a.put t v) w → Q (.panic c) a w) (hy : YieldsIf P ops S ⟨t, op, ty, pos, aft, gd⟩ v a) (hS : S w)
    (h : wpAnyK P md ops Q S k fuel (listed.setIfInBounds i true) (a.put t v) w) : wpAnyK P md ops Q S k (fuel + 1) listed a w := by
  simp only [Bool.and_eq_true, Bool.not_eq_true', List.all_eq_true, beq_iff_eq] at hk
  exact wpAnyK_first hi (Region.noSelect_spec hs) hQ (by simpa using hk.1.1.1) (by simpa using hk.1.1.2) hk.1.2 fuel listed a w (Region.free_spec hi hf) (by simpa using hr) hk.2 hy hS h

/-- Whichever of those that may come up comes up. -/
theorem wpAnyK_all {rs : List Nat} {fuel : Nat} {listed : Array Bool} {a : Act} {w : World} (hr : Region.ready md ops listed = rs) (hne : rs ≠ [])
    (h : ∀ i ∈ rs, wpOp P ops Q i (fun a' w' => ((listed.setIfInBounds i true).getD k true = false → S w') ∧ wpAnyK P md ops Q S k fuel (listed.setIfInBounds i true) a' w') a w) : wpAnyK P md ops Q S k (fuel + 1) listed a w :=
  ⟨fun h0 => absurd (hr ▸ h0) hne, hr ▸ h⟩

/-- One alone may come up, and it is not k. -/
theorem wpAnyK_one {i : Nat} {t : Option Tmp} {op : Op} {ty : TypeId} {pos : String} {aft : Array Edge} {gd : Option (Nat × Bool)} {fuel : Nat} {listed : Array Bool} {a : Act} {w : World} (hr : Region.ready md ops listed = [i]) (hi : ops[i]? = some ⟨t, op, ty, pos, aft, gd⟩)
    (h : ∀ K' : Act → World → Prop, Shut (∀ a w, S w → (S w → wpAnyK P md ops Q S k fuel (listed.setIfInBounds i true) a w) → K' a w) →
      if Region.wanted ⟨t, op, ty, pos, aft, gd⟩ (yielded ops a.tmps) = true then Oper.wp P ⟨t, op, ty, pos, aft, gd⟩ a w K' Q else K' (a.put t undef) w)
    (hk : (listed.setIfInBounds i true).getD k true = false) : wpAnyK P md ops Q S k (fuel + 1) listed a w :=
  wpAnyK_all hr (by simp) (fun j hj => by
    obtain rfl := List.mem_singleton.1 hj
    exact wpOp_step hi (fun K' hK => h K' (fun a w hS hW => hK a w ⟨fun _ => hS, hW hS⟩)))

/-- k comes up. -/
theorem wpAnyK_last {t : Option Tmp} {op : Op} {ty : TypeId} {pos : String} {aft : Array Edge} {gd : Option (Nat × Bool)} {fuel : Nat} {listed : Array Bool} {a : Act} {w : World} (hr : Region.ready md ops listed = [k]) (hi : ops[k]? = some ⟨t, op, ty, pos, aft, gd⟩)
    (h : ∀ K' : Act → World → Prop, Shut (∀ a w, wpAnyK P md ops Q S k fuel (listed.setIfInBounds k true) a w → K' a w) →
      if Region.wanted ⟨t, op, ty, pos, aft, gd⟩ (yielded ops a.tmps) = true then Oper.wp P ⟨t, op, ty, pos, aft, gd⟩ a w K' Q else K' (a.put t undef) w)
    (hk : (listed.setIfInBounds k true).getD k true = true) : wpAnyK P md ops Q S k (fuel + 1) listed a w :=
  wpAnyK_all hr (by simp) (fun j hj => by
    obtain rfl := List.mem_singleton.1 hj
    exact wpOp_step hi (fun K' hK => h K' (fun a w hW => hK a w ⟨fun e => absurd (hk.symm.trans e) (by decide), hW⟩)))

/-- All have come up. -/
theorem wpAnyK_done {listed : Array Bool} {a : Act} {w : World} (hr : Region.ready md ops listed = []) (h : Q .normal a w) :
    ∀ fuel, wpAnyK P md ops Q S k fuel listed a w
  | 0 => ⟨hr, h⟩
  | _ + 1 => ⟨fun _ => h, by rw [hr]; simp⟩

/-- The beginning. -/
theorem wp_region_K {id : Nat} {a : Act} {w : World} (S : World → Prop) (k n : Nat) (hm : P.follows .mixedOrders = true) (hn : ops.size = n) (hS : S w.drew)
    (h : S w.drew → wpAnyK P .any ops Q S k n (Array.replicate n false) a w.drew) : (Code.region id ops true).wp P Q a w := by
  subst hn
  exact wp_region_any hm (wpAny_of_K _ _ _ _ (h hS))
end
end Go.Proofs.YtnegappgdpeabaaGreat
