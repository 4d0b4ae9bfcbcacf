
/-
  append, and what becomes of the old slice.
-/
import Derived.Test.YtkeggcfnoonakaaGreatApp
import Derived.ArgAppend
set_option linter.unusedSimpArgs false
set_option linter.unusedVariables false
namespace Go.Proofs.YtkeggcfnoonakaaGreat
open Go.RowKit

/-- A row's beginning is a row. -/
theorem row_prefix {w : World} {B e s n m g cap : Nat} {xs ys : List Value} (h : w.ownsRow B e s (.slice (some ⟨g, 0, none⟩) (n + m) cap) (n + m) (xs ++ ys)) (hx : xs.length = n * s) : w.ownsRow B e s (.slice (some ⟨g, 0, none⟩) n cap) n xs := by
  obtain ⟨_, h2⟩ := h
  refine ⟨hx, ?_⟩
  rcases h2 with ⟨h2, _⟩ | ⟨g', cap', cur, h2, hg, hh, hn, hc, hcl, htk⟩
  · cases h2
  · cases h2
    refine .inr ⟨g, cap, cur, rfl, hg, hh, by omega, hc, hcl, ?_⟩
    have h3 := congrArg (List.take (n * s)) htk
    rw [List.take_take, Nat.min_eq_left (Nat.mul_le_mul_right _ (by omega)), List.take_append_of_le_length (by omega)] at h3
    rw [h3]
    exact List.take_of_length_le (by omega)
section
variable {P : Program} {T E : TypeId} {k by_ : Nat} {α : Type} {cell : α → List Value}
/-- What append leaves. -/
structure Appd (e : Elm P T E k by_ cell) (w w' : World) (B : Nat) (v v' : Value) (l l2 : List α) : Prop where
  own : Own e w' B v' (l ++ l2)
  old : Own e w' B v l
  tn : Tn (fun q => v.ownBlock = some q) w w'
  block : v'.ownBlock = v.ownBlock ∨ ∀ q, v'.ownBlock = some q → w.heap.size ≤ q
theorem run_app2 (e : Elm P T E k by_ cell) (ty : TypeId) {w : World} {B : Nat} {v x : Value} {l l2 : List α} (hown : Own e w B v l) (hsrc : Src e w x l2) (hlen : l.length + l2.length ≤ 100000000) (hB : B ≤ w.heap.size) :
    ∃ a cap w', (Builtin.append_ #[T, T] ty #[v, x]).run P w = .ok (.slice a (l.length + l2.length) cap) w' ∧ Appd e w w' B v (.slice a (l.length + l2.length) cap) l l2 := by
  obtain ⟨i, z, hi, hz, hsz, hby, hzs⟩ := e.info
  rcases hsrc with ⟨rfl, rfl⟩ | ⟨ad, c, rfl, hcell⟩
  · obtain ⟨a, cap, rfl, _, _⟩ := row_form hown
    exact ⟨a, cap, w, run_append_owned_none (P := P) (w := w) B T ty E i k e.und hi _ _ _ hown, by simpa using hown, hown, Tn.refl _ _, .inl rfl⟩
  · have hfew := e.few
    have hb : (l.length + l2.length) * by_ ≤ 140737488355328 := Nat.le_trans (Nat.mul_le_mul hlen hfew) (by omega)
    have h0 := hown
    obtain ⟨hxl, h2⟩ := hown
    rcases h2 with ⟨rfl, hl0⟩ | ⟨g, cap, cur, rfl, hg, hh, hn, hc, hcl, htk⟩
    · obtain ⟨v', w', hr, h2, h3, _, h5⟩ := run_append_own_at (P := P) w B T ty E i z k by_ e.und hi hz hsz hby hzs e.pos (.slice none 0 0) l.length (l.flatMap cell) h0 ad l2.length c (l2.flatMap cell)
        (e.lens l2) hcell (e.ones l2) (by unfold maxLen; omega) hb hB
      obtain ⟨a, cap, rfl, _, _⟩ := row_form h2
      refine ⟨a, cap, w', hr, ?_, ?_, Tn.ofGrown h3 (fun q hq => hq), ?_⟩
      · show w'.ownsRow B E k _ _ _
        rw [List.length_append, List.flatMap_append]
        exact h2
      · exact ⟨hxl, .inl ⟨rfl, hl0⟩⟩
      · rcases h5 with h5 | h5
        · exact .inl h5
        · exact .inr fun q hq => by rw [h5] at hq; injection hq with hq; omega
    · by_cases hroom : l.length + l2.length ≤ cap
      · obtain ⟨w', hr, h2, h3⟩ := run_append_fits (P := P) w B T ty E i k e.und hi hsz g l.length cap (l.flatMap cell) h0 ad l2.length c (l2.flatMap cell) (e.lens l2) hcell (e.ones l2) hroom
        refine ⟨_, cap, w', hr, ?_, row_prefix h2 hxl, Tn.ofGrown h3 (fun q hq => hq), .inl rfl⟩
        show w'.ownsRow B E k _ _ _
        rw [List.length_append, List.flatMap_append]
        exact h2
      · obtain ⟨v', w', hr, h2, h3⟩ := run_append_arg_grows (P := P) w T ty E i z k by_ e.und hi hz hsz hby hzs e.pos ⟨g, 0, none⟩ l.length cap (l.flatMap cell) hxl (fun j u hj => by
          have hjl : j < l.length * k := by rw [← hxl]; exact (List.getElem?_eq_some_iff.1 hj).1
          rw [add_off, Nat.zero_add, h0.cellAt j hjl, hj]) ad l2.length c (l2.flatMap cell) (e.lens l2) hcell (by omega) (by unfold maxLen; omega) hb
        obtain ⟨a, cap', rfl, _, _⟩ := row_form h2
        have htn : Tn (fun _ => False) w w' := Tn.ofGrown h3 (fun q hq => by cases hq)
        refine ⟨a, cap', w', hr, ?_, htn.row h0 (fun _ _ h => h), htn.mono (fun _ h => h.elim), .inr fun q hq => (h2.lt q hq).1⟩
        show w'.ownsRow B E k _ _ _
        rw [List.length_append, List.flatMap_append]
        exact row_mono h2 hB

section
variable {w : World} {ops : Array Oper} {rest : List Oper} {o : Oper} {a : Act} {Q : Exit → Act → World → Prop} {K : Act → World → Prop}
theorem wp_app2 (e : Elm P T E k by_ cell) (s x : Operand) (ho : o.op = .call { callee := .builtin .append, args := #[s, x], argTypes := #[T, T] }) {B : Nat} {v xv : Value} {l l2 : List α} (hs : a.eval s = v) (hx : a.eval x = xv)
    (hown : Own e w B v l) (hsrc : Src e w xv l2) (hlen : l.length + l2.length ≤ 100000000) (hB : B ≤ w.heap.size)
    (h : ∀ a' cap w', Appd e w w' B v (.slice a' (l.length + l2.length) cap) l l2 → K (a.put o.dst (.slice a' (l.length + l2.length) cap)) w') : o.wp P a w K Q := by
  obtain ⟨a', cap, w', hr, h2⟩ := run_app2 e o.type hown hsrc hlen hB
  unfold Oper.wp execOp
  simp only [ho, resolve, invoke, builtin, Sem.run_bind, Sem.run_pure, Result.andThen_ok, List.map_toArray, List.map_cons, List.map_nil, hs, hx, hr]
  exact h a' cap w' h2
theorem wpl_app2 (e : Elm P T E k by_ cell) (hgd : o.guard = none) (s x : Operand) (ho : o.op = .call { callee := .builtin .append, args := #[s, x], argTypes := #[T, T] }) {B : Nat} {v xv : Value} {l l2 : List α} (hs : a.eval s = v) (hx : a.eval x = xv)
    (hown : Own e w B v l) (hsrc : Src e w xv l2) (hlen : l.length + l2.length ≤ 100000000) (hB : B ≤ w.heap.size)
    (h : ∀ a' cap w', Appd e w w' B v (.slice a' (l.length + l2.length) cap) l l2 → wpList P ops Q rest (a.put o.dst (.slice a' (l.length + l2.length) cap)) w') : wpList P ops Q (o :: rest) a w :=
  wpList_plain hgd fun _ hK => wp_app2 e s x ho hs hx hown hsrc hlen hB fun a' cap w' h2 => hK _ _ (h a' cap w' h2)
theorem step_app2 {F : Prop} (e : Elm P T E k by_ cell) (hgd : o.guard = none) (s x : Operand) (ho : o.op = .call { callee := .builtin .append, args := #[s, x], argTypes := #[T, T] }) {B : Nat} {v xv : Value} {l l2 : List α} (hs : a.eval s = v) (hx : a.eval x = xv)
    (hown : Own e w B v l) (hsrc : Src e w xv l2) (hlen : l.length + l2.length ≤ 100000000) (hB : B ≤ w.heap.size)
    (h : ∀ a' cap w', Appd e w w' B v (.slice a' (l.length + l2.length) cap) l l2 → K (a.put o.dst (.slice a' (l.length + l2.length) cap)) w') :
    if Region.wanted o (yielded ops a.tmps) = true then o.wp P a w K Q else F := by
  have hw : Region.wanted o (yielded ops a.tmps) = true := by simp [Region.wanted, hgd]
  rw [if_pos hw]
  exact wp_app2 e s x ho hs hx hown hsrc hlen hB h
end
end
end Go.Proofs.YtkeggcfnoonakaaGreat
