/-
  A slice of Ops that came in, read as a list; each with a vector of its own.
-/
import Derived.Test.YtmdhegmnfcodbaaOpenInts
import Derived.ProofKit
import Derived.OpenShut
import Derived.Deep.Slices
import Derived.ChangeSame
namespace Go.Proofs.Ytmdhegmnfcodbaa
open Go.RowKit Go.ChangeShapes Go.WideShapes Go.ChangeAt Go.Deep

structure LOp where
  k : Int
  id : Int
  t : Int
  n : Int
  va : Option Addr
  vn : Nat
  vc : Nat
  vs : List Int

/-- The cells of one Op. -/
def LOp.here (w : World) (b off : Nat) (o : LOp) : Prop :=
  w.cell? ⟨b, off, none⟩ = some (.int .i64 o.k) ∧ w.cell? ⟨b, off + 1, none⟩ = some (.int .i64 o.id) ∧ w.cell? ⟨b, off + 2, none⟩ = some (.int .i64 o.t) ∧ w.cell? ⟨b, off + 3, none⟩ = some (.int .i64 o.n) ∧ w.cell? ⟨b, off + 4, none⟩ = some (.slice o.va o.vn o.vc)
def LOp.wf (w : World) (o : LOp) : Prop := (Lit.int .i64 o.n).wf = true ∧ o.vn ≤ maxLen ∧ IntsAt w o.va o.vn o.vs
def OpsAt (w : World) (a : Option Addr) (len : Nat) (l : List LOp) : Prop :=
  l.length = len ∧ (len = 0 ∨ ∃ b off, a = some ⟨b, off, none⟩ ∧ b < w.heap.size ∧ ∀ i (hi : i < l.length), l[i].here w b (off + i * 5)) ∧ ∀ o ∈ l, o.wf w

theorem list_of {α : Type} (p : Nat → α → Prop) : ∀ n, (∀ i, i < n → ∃ x, p i x) → ∃ l : List α, l.length = n ∧ ∀ i (hi : i < l.length), p i l[i]
  | 0, _ => ⟨[], rfl, fun i hi => by simp at hi⟩
  | n + 1, h => by
    obtain ⟨l, hl, hp⟩ := list_of p n (fun i hi => h i (by omega))
    obtain ⟨x, hx⟩ := h n (by omega)
    refine ⟨l ++ [x], by simp [hl], fun i hi => ?_⟩
    rcases Nat.lt_or_ge i l.length with h1 | h1
    · rw [List.getElem_append_left h1]; exact hp i h1
    · have h2 : i = n := by simp at hi; omega
      subst h2
      rw [List.getElem_append_right (by omega)]
      simp [hl, hx]
theorem take_one {cs : List Value} {k : Nat} {v : Value} (h : (cs.drop k).take 1 = [v]) : cs[k]? = some v := by
  have := congrArg (fun l => l[0]?) h
  simpa using this

section
variable {H : Type} {enc : TypeId × Value → H} {w : World} {base : Nat} {spare : Nat → Bool} {held : Bool}
theorem open_vec {n : Nat} {cs : List Value} {x : DataW H × List MemPlace} (h : DataW.trod enc Try.prog w base spare held n 28 cs = some x) :
    ∃ va vn vc vs, cs = [.slice va vn vc] ∧ vn ≤ maxLen ∧ IntsAt w va vn vs := by
  rcases open_ints Try.underlying28 Try.underlying3 (by kernel_rfl) h with ⟨hcs, _⟩ | ⟨x, l, c, zs, hcs, _, hl, hm, hz, _, hcell, hwz⟩
  · exact ⟨none, 0, 0, [], by simpa using hcs, Nat.zero_le _, rfl, .inl rfl, by simp⟩
  · exact ⟨some x, l, c, _, by simpa using hcs, Nat.le_trans hl hm, ints_at (cap := zs.length) (by rw [hz]; split <;> omega) rfl hcell hwz⟩
set_option maxRecDepth 100000 in
theorem open_op {n : Nat} {cs : List Value} {x : DataW H × List MemPlace} (h : DataW.trod enc Try.prog w base spare held n 30 cs = some x) :
    ∃ o : LOp, cs[0]? = some (.int .i64 o.k) ∧ cs[1]? = some (.int .i64 o.id) ∧ cs[2]? = some (.int .i64 o.t) ∧ cs[3]? = some (.int .i64 o.n) ∧ cs[4]? = some (.slice o.va o.vn o.vc) ∧ o.wf w := by
  obtain ⟨xs, n', _, _, _, hlen, hf⟩ := DataW.trod_struct Try.underlying30 h
  have hl5 : xs.length = 5 := hlen
  obtain ⟨k, e0, _, w0⟩ := DataW.trod_int Try.underlying3 ((hf 0 _ rfl).trans (List.getElem?_eq_getElem (by omega)))
  obtain ⟨a, e1, _, w1⟩ := DataW.trod_int Try.underlying3 ((hf 1 _ rfl).trans (List.getElem?_eq_getElem (by omega)))
  obtain ⟨b, e2, _, w2⟩ := DataW.trod_int Try.underlying3 ((hf 2 _ rfl).trans (List.getElem?_eq_getElem (by omega)))
  obtain ⟨d, e3, _, w3⟩ := DataW.trod_int Try.underlying3 ((hf 3 _ rfl).trans (List.getElem?_eq_getElem (by omega)))
  obtain ⟨va, vn, vc, vs, e4, w4, w5⟩ := open_vec ((hf 4 _ rfl).trans (List.getElem?_eq_getElem (by omega)))
  exact ⟨⟨k, a, b, d, va, vn, vc, vs⟩, take_one e0, take_one e1, take_one e2, take_one e3, take_one e4, w3, w4, w5⟩
theorem open_ops {fuel : Nat} {a : Option Addr} {len cap : Nat} {x : DataW H × List MemPlace} (h : DataW.trod enc Try.prog w base spare held fuel 22 [.slice a len cap] = some x) :
    ∃ l, OpsAt w a len l ∧ len ≤ maxLen := by
  rcases open_slice Try.underlying22 h with ⟨hcs, _⟩ | ⟨ad, ln, cp, m, n, D, Pl, hcs, _, hl, hm, hmm, _, hi⟩
  · simp at hcs
    obtain ⟨rfl, rfl, rfl⟩ := hcs
    exact ⟨[], ⟨rfl, Or.inl rfl, by simp⟩, Nat.zero_le _⟩
  · simp at hcs
    obtain ⟨rfl, rfl, rfl⟩ := hcs
    have hlm : len ≤ m := by rw [hmm]; split <;> omega
    have hC : Try.prog.cellsOf 30 = 5 := by kernel_rfl
    rw [hC] at hi
    have each : ∀ i, i < len → ∃ o : LOp, o.wf w ∧ w.cell? (ad.add (i * 5)) = some (.int .i64 o.k) ∧ w.cell? ((ad.add (i * 5)).add 1) = some (.int .i64 o.id) ∧ w.cell? ((ad.add (i * 5)).add 2) = some (.int .i64 o.t) ∧ w.cell? ((ad.add (i * 5)).add 3) = some (.int .i64 o.n) ∧ w.cell? ((ad.add (i * 5)).add 4) = some (.slice o.va o.vn o.vc) := by
      intro i hil
      obtain ⟨cs', hc, ht⟩ := hi i (by omega)
      obtain ⟨_, _, hat⟩ := World.cells?_some hc
      obtain ⟨o, e0, e1, e2, e3, e4, hw⟩ := open_op ht
      exact ⟨o, hw, (hat 0 (by omega)).trans e0, (hat 1 (by omega)).trans e1, (hat 2 (by omega)).trans e2, (hat 3 (by omega)).trans e3, (hat 4 (by omega)).trans e4⟩
    obtain ⟨l, hll, hp⟩ := list_of _ len each
    refine ⟨l, ⟨hll, ?_, ?_⟩, by omega⟩
    · by_cases h0 : len = 0
      · exact Or.inl h0
      · refine Or.inr ?_
        obtain ⟨b, off, spot⟩ := ad
        have hc := (hp 0 (by omega)).2.1
        have hspot : spot = none := by simpa [Addr.add] using World.cell?_spot hc
        subst hspot
        refine ⟨b, off, rfl, ?_, fun i hil => ?_⟩
        · exact World.block_lt_of_cell? _ _ (by rw [add_off] at hc; exact hc)
        · obtain ⟨_, q0, q1, q2, q3, q4⟩ := hp i hil
          rw [add_off] at q0 q1 q2 q3 q4
          rw [add_off] at q1 q2 q3 q4
          exact ⟨q0, q1, q2, q3, q4⟩
    · intro o ho
      obtain ⟨i, hil, rfl⟩ := List.mem_iff_getElem.1 ho
      exact (hp i hil).1
end
end Go.Proofs.Ytmdhegmnfcodbaa
