/-
  A slice of Ops that came in, read as a list.
-/
import Derived.Test.YtanekdcmealoeaaNetP
import Derived.ProofKit
import Derived.OpenShut
import Derived.Deep.Slices
import Derived.ChangeSame
namespace Go.Proofs.Ytanekdcmealoeaa
open Go.RowKit Go.ChangeShapes Go.WideShapes Go.ChangeAt Go.Deep

structure LOp where
  k : Int
  a : Int
  b : Int
  d : ByteArray

def LOp.wf (o : LOp) : Prop := (Lit.int .i64 o.k).wf = true ∧ (Lit.int .i64 o.a).wf = true ∧ (Lit.int .i64 o.b).wf = true ∧ o.d.size ≤ maxLen
/-- The cells of one Op. -/
def LOp.here (w : World) (b off : Nat) (o : LOp) : Prop :=
  w.cell? ⟨b, off, none⟩ = some (.int .i64 o.k) ∧ w.cell? ⟨b, off + 1, none⟩ = some (.int .i64 o.a) ∧ w.cell? ⟨b, off + 2, none⟩ = some (.int .i64 o.b) ∧ w.cell? ⟨b, off + 3, none⟩ = some (.string o.d)

def OpsAt (w : World) (a : Option Addr) (len : Nat) (l : List LOp) : Prop :=
  l.length = len ∧ (len = 0 ∨ ∃ b off, a = some ⟨b, off, none⟩ ∧ b < w.heap.size ∧ ∀ i (hi : i < l.length), l[i].here w b (off + i * 4)) ∧ ∀ o ∈ l, o.wf

theorem add_one_none (g off j : Nat) : (⟨g, off, none⟩ : Addr).add j = ⟨g, off + j, none⟩ := by
  unfold Addr.add
  split
  · rename_i h
    have h0 : j = 0 := by simpa using h
    subst h0
    rfl
  · rfl

theorem list_of {α : Type} (p : Nat → α → Prop) : ∀ n, (∀ i, i < n → ∃ x, p i x) → ∃ l : List α, l.length = n ∧ ∀ i (hi : i < l.length), p i l[i]
  | 0, _ => ⟨[], rfl, fun i hi => by simp at hi⟩
  | n + 1, h => by
    obtain ⟨l, hl, hp⟩ := list_of p n (fun i hi => h i (by omega))
    obtain ⟨x, hx⟩ := h n (by omega)
    refine ⟨l ++ [x], by simp [hl], fun i hi => ?_⟩
    rcases Nat.lt_or_ge i l.length with h1 | h1
    · rw [List.getElem_append_left h1]; exact hp i h1
    · have h2 : i = n := by simp at hi; omega
      subst h2
      rw [List.getElem_append_right (by omega)]
      simp [hl, hx]

theorem take_one {cs : List Value} {k : Nat} {v : Value} (h : (cs.drop k).take 1 = [v]) : cs[k]? = some v := by
  have := congrArg (fun l => l[0]?) h
  simpa using this

section
variable {H : Type} {enc : TypeId × Value → H} {w : World} {base : Nat} {spare : Nat → Bool} {held : Bool}
theorem open_op {n : Nat} {cs : List Value} {x : DataW H × List MemPlace} (h : DataW.trod enc Try.prog w base spare held n 37 cs = some x) :
    ∃ o : LOp, cs[0]? = some (.int .i64 o.k) ∧ cs[1]? = some (.int .i64 o.a) ∧ cs[2]? = some (.int .i64 o.b) ∧ cs[3]? = some (.string o.d) ∧ o.wf := by
  obtain ⟨xs, n', _, _, _, hlen, hf⟩ := DataW.trod_struct Try.underlying37 h
  have hl4 : xs.length = 4 := hlen
  obtain ⟨k, e0, _, w0⟩ := DataW.trod_int Try.underlying3 ((hf 0 _ rfl).trans (List.getElem?_eq_getElem (by omega)))
  obtain ⟨a, e1, _, w1⟩ := DataW.trod_int Try.underlying3 ((hf 1 _ rfl).trans (List.getElem?_eq_getElem (by omega)))
  obtain ⟨b, e2, _, w2⟩ := DataW.trod_int Try.underlying3 ((hf 2 _ rfl).trans (List.getElem?_eq_getElem (by omega)))
  obtain ⟨d, e3, _, w3⟩ := DataW.trod_string Try.underlying9 ((hf 3 _ rfl).trans (List.getElem?_eq_getElem (by omega)))
  exact ⟨⟨k, a, b, d⟩, take_one e0, take_one e1, take_one e2, take_one e3, w0, w1, w2, w3⟩

theorem open_ops {fuel : Nat} {a : Option Addr} {len cap : Nat} {x : DataW H × List MemPlace} (h : DataW.trod enc Try.prog w base spare held fuel 35 [.slice a len cap] = some x) :
    ∃ l, OpsAt w a len l ∧ len ≤ maxLen := by
  rcases open_slice Try.underlying35 h with ⟨hcs, _⟩ | ⟨ad, ln, cp, m, n, D, Pl, hcs, _, hl, hm, hmm, _, hi⟩
  · simp at hcs
    obtain ⟨rfl, rfl, rfl⟩ := hcs
    exact ⟨[], ⟨rfl, Or.inl rfl, by simp⟩, Nat.zero_le _⟩
  · simp at hcs
    obtain ⟨rfl, rfl, rfl⟩ := hcs
    have hlm : len ≤ m := by rw [hmm]; split <;> omega
    have hC : Try.prog.cellsOf 37 = 4 := by kernel_rfl
    rw [hC] at hi
    have each : ∀ i, i < len → ∃ o : LOp, o.wf ∧ w.cell? (ad.add (i * 4)) = some (.int .i64 o.k) ∧ w.cell? ((ad.add (i * 4)).add 1) = some (.int .i64 o.a) ∧ w.cell? ((ad.add (i * 4)).add 2) = some (.int .i64 o.b) ∧ w.cell? ((ad.add (i * 4)).add 3) = some (.string o.d) := by
      intro i hil
      obtain ⟨cs', hc, ht⟩ := hi i (by omega)
      obtain ⟨_, _, hat⟩ := World.cells?_some hc
      obtain ⟨o, e0, e1, e2, e3, hw⟩ := open_op ht
      exact ⟨o, hw, (hat 0 (by omega)).trans e0, (hat 1 (by omega)).trans e1, (hat 2 (by omega)).trans e2, (hat 3 (by omega)).trans e3⟩
    obtain ⟨l, hll, hp⟩ := list_of _ len each
    refine ⟨l, ⟨hll, ?_, ?_⟩, by omega⟩
    · by_cases h0 : len = 0
      · exact Or.inl h0
      · refine Or.inr ?_
        obtain ⟨b, off, spot⟩ := ad
        have hc := (hp 0 (by omega)).2.1
        have hspot : spot = none := by simpa [Addr.add] using World.cell?_spot hc
        subst hspot
        refine ⟨b, off, rfl, ?_, fun i hil => ?_⟩
        · exact World.block_lt_of_cell? _ _ (by rw [add_one_none] at hc; exact hc)
        · obtain ⟨_, q0, q1, q2, q3⟩ := hp i hil
          rw [add_one_none] at q0 q1 q2 q3
          rw [add_one_none] at q1 q2 q3
          exact ⟨q0, q1, q2, q3⟩
    · intro o ho
      obtain ⟨i, hil, rfl⟩ := List.mem_iff_getElem.1 ho
      exact (hp i hil).1
end
end Go.Proofs.Ytanekdcmealoeaa
