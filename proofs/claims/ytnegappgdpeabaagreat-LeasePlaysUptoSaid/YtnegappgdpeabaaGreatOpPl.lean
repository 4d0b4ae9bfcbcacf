/-
  A script for leases that came in, read as a list.
-/
import Derived.Test.YtnegappgdpeabaaGreatBulk
import Derived.Test.YtnegappgdpeabaaGreatOpenInts
set_option linter.unusedSimpArgs false
set_option linter.unusedVariables false
namespace Go.Proofs.YtnegappgdpeabaaGreat
open Go.RowKit Go.ChangeShapes Go.WideShapes Go.ChangeAt Go.Deep

theorem add_nn (g o j : Nat) : (⟨g, o, none⟩ : Addr).add j = ⟨g, o + j, none⟩ := by unfold Addr.add; split <;> simp_all
/-- A vector that came in. -/
def VecAt (w : World) (va : Option Addr) (vn vc : Nat) (vs : List Int) : Prop := vs.length = vn ∧ (va = none → vn = 0 ∧ vc = 0) ∧ (vn = 0 ∨ ∃ b off, va = some ⟨b, off, none⟩ ∧ b < w.heap.size ∧ ∀ i (hi : i < vs.length), w.cell? ⟨b, off + i, none⟩ = some (.int .i64 vs[i]))
structure LOp where
  k : Int
  id : Int
  t : Int
  n : Int
  va : Option Addr
  vn : Nat
  vc : Nat
  vs : List Int
def LOp.here (w : World) (b off : Nat) (o : LOp) : Prop :=
  w.cell? ⟨b, off, none⟩ = some (.int .i64 o.k) ∧ w.cell? ⟨b, off + 1, none⟩ = some (.int .i64 o.id) ∧ w.cell? ⟨b, off + 2, none⟩ = some (.int .i64 o.t) ∧ w.cell? ⟨b, off + 3, none⟩ = some (.int .i64 o.n) ∧ w.cell? ⟨b, off + 4, none⟩ = some (.slice o.va o.vn o.vc)
def OpsAt (w : World) (a : Option Addr) (len : Nat) (l : List LOp) : Prop :=
  l.length = len ∧ (len = 0 ∨ ∃ b off, a = some ⟨b, off, none⟩ ∧ b < w.heap.size ∧ ∀ i (hi : i < l.length), l[i].here w b (off + i * 5)) ∧ ∀ o ∈ l, VecAt w o.va o.vn o.vc o.vs

section
variable {H : Type} {enc : TypeId × Value → H} {w : World} {base : Nat} {spare : Nat → Bool} {held : Bool}
theorem open_vec {n : Nat} {cs : List Value} {x : DataW H × List MemPlace} (h : DataW.trod enc Tryz.prog w base spare held n 51 cs = some x) :
    ∃ va vn vc vs, cs = [.slice va vn vc] ∧ VecAt w va vn vc vs := by
  rcases open_ints Tryz.underlying51 Tryz.underlying3 (by kernel_rfl) h with ⟨hcs, _⟩ | ⟨x, l, c, zs, hcs, _, hl, hm, hz, _, hcell, hwz⟩
  · exact ⟨none, 0, 0, [], by simpa using hcs, rfl, fun _ => ⟨rfl, rfl⟩, .inl rfl⟩
  · have h1 := ints_at (cap := zs.length) (by rw [hz]; split <;> omega) rfl hcell hwz
    exact ⟨some x, l, c, _, by simpa using hcs, h1.1, (fun e => by cases e), h1.2.1⟩
set_option maxRecDepth 100000 in
theorem open_op {n : Nat} {cs : List Value} {x : DataW H × List MemPlace} (h : DataW.trod enc Tryz.prog w base spare held n 53 cs = some x) :
    ∃ o : LOp, cs[0]? = some (.int .i64 o.k) ∧ cs[1]? = some (.int .i64 o.id) ∧ cs[2]? = some (.int .i64 o.t) ∧ cs[3]? = some (.int .i64 o.n) ∧ cs[4]? = some (.slice o.va o.vn o.vc) ∧ VecAt w o.va o.vn o.vc o.vs := by
  obtain ⟨xs, n', _, _, _, hlen, hf⟩ := DataW.trod_struct Tryz.underlying53 h
  have hl5 : xs.length = 5 := hlen
  obtain ⟨k, e0, _, w0⟩ := DataW.trod_int Tryz.underlying3 ((hf 0 _ rfl).trans (List.getElem?_eq_getElem (by omega)))
  obtain ⟨a, e1, _, w1⟩ := DataW.trod_int Tryz.underlying3 ((hf 1 _ rfl).trans (List.getElem?_eq_getElem (by omega)))
  obtain ⟨b, e2, _, w2⟩ := DataW.trod_int Tryz.underlying3 ((hf 2 _ rfl).trans (List.getElem?_eq_getElem (by omega)))
  obtain ⟨d, e3, _, w3⟩ := DataW.trod_int Tryz.underlying3 ((hf 3 _ rfl).trans (List.getElem?_eq_getElem (by omega)))
  obtain ⟨va, vn, vc, vs, e4, w4⟩ := open_vec ((hf 4 _ rfl).trans (List.getElem?_eq_getElem (by omega)))
  exact ⟨⟨k, a, b, d, va, vn, vc, vs⟩, take_one e0, take_one e1, take_one e2, take_one e3, take_one e4, w4⟩
theorem open_ops {fuel : Nat} {a : Option Addr} {len cap : Nat} {x : DataW H × List MemPlace} (h : DataW.trod enc Tryz.prog w base spare held fuel 22 [.slice a len cap] = some x) (_ : Rows.uptoBulk x.1 ≤ 1048576) :
    ∃ l, OpsAt w a len l ∧ len ≤ maxLen := by
  rcases open_slice Tryz.underlying22 h with ⟨hcs, _⟩ | ⟨ad, ln, cp, m, n, D, Pl, hcs, _, hl, hm, hmm, _, hi⟩
  · simp at hcs
    obtain ⟨rfl, rfl, rfl⟩ := hcs
    exact ⟨[], ⟨rfl, Or.inl rfl, by simp⟩, Nat.zero_le _⟩
  · simp at hcs
    obtain ⟨rfl, rfl, rfl⟩ := hcs
    have hlm : len ≤ m := by rw [hmm]; split <;> omega
    have hC : Tryz.prog.cellsOf 53 = 5 := by kernel_rfl
    rw [hC] at hi
    have each : ∀ i, i < len → ∃ o : LOp, VecAt w o.va o.vn o.vc o.vs ∧ w.cell? (ad.add (i * 5)) = some (.int .i64 o.k) ∧ w.cell? ((ad.add (i * 5)).add 1) = some (.int .i64 o.id) ∧ w.cell? ((ad.add (i * 5)).add 2) = some (.int .i64 o.t) ∧ w.cell? ((ad.add (i * 5)).add 3) = some (.int .i64 o.n) ∧ w.cell? ((ad.add (i * 5)).add 4) = some (.slice o.va o.vn o.vc) := by
      intro i hil
      obtain ⟨cs', hc, ht⟩ := hi i (by omega)
      obtain ⟨_, _, hat⟩ := World.cells?_some hc
      obtain ⟨o, e0, e1, e2, e3, e4, hw⟩ := open_op ht
      exact ⟨o, hw, (hat 0 (by omega)).trans e0, (hat 1 (by omega)).trans e1, (hat 2 (by omega)).trans e2, (hat 3 (by omega)).trans e3, (hat 4 (by omega)).trans e4⟩
    obtain ⟨l, hll, hp⟩ := list_of _ len each
    refine ⟨l, ⟨hll, ?_, ?_⟩, by omega⟩
    · by_cases h0 : len = 0
      · exact Or.inl h0
      · refine Or.inr ?_
        obtain ⟨b, off, spot⟩ := ad
        have hc := (hp 0 (by omega)).2.1
        have hspot : spot = none := by simpa [Addr.add] using World.cell?_spot hc
        subst hspot
        refine ⟨b, off, rfl, ?_, fun i hil => ?_⟩
        · exact World.block_lt_of_cell? _ _ (by rw [add_nn] at hc; exact hc)
        · obtain ⟨_, q0, q1, q2, q3, q4⟩ := hp i hil
          rw [add_nn] at q0 q1 q2 q3 q4
          rw [add_nn] at q1 q2 q3 q4
          exact ⟨q0, q1, q2, q3, q4⟩
    · intro o ho
      obtain ⟨i, hil, rfl⟩ := List.mem_iff_getElem.1 ho
      exact (hp i hil).1
end
end Go.Proofs.YtnegappgdpeabaaGreat
