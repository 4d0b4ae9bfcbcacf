/-
  A slice of ints that came in, read as a list.
-/
import Derived.Test.YtnegappgdpeabaaGreatLe4
import Derived.ProofKit
import Derived.OpenShut
set_option linter.unusedSimpArgs false
set_option linter.unusedVariables false
namespace Go.Proofs.YtnegappgdpeabaaGreat
open Go.RowKit Go.ChangeShapes Go.WideShapes Go.ChangeAt

def IntsAt (w : World) (a : Option Addr) (len : Nat) (l : List Int) : Prop :=
  l.length = len ∧ (len = 0 ∨ ∃ b off, a = some ⟨b, off, none⟩ ∧ b < w.heap.size ∧ ∀ i (hi : i < l.length), w.cell? ⟨b, off + i, none⟩ = some (.int .i64 l[i])) ∧ ∀ n ∈ l, (Lit.int .i64 n).wf = true

theorem ints_at {W : World} {x : Addr} {len cap : Nat} {zs : List Int} (hl : len ≤ cap) (hz : zs.length = cap) (hcell : ∀ i, i < zs.length → W.cell? (x.add i) = some (.int .i64 (zs.getD i 0))) (hwz : ∀ n ∈ zs, (Lit.int .i64 n).wf = true) :
    IntsAt W (some x) len (zs.take len) := by
  have hlen : (zs.take len).length = len := by rw [List.length_take]; omega
  refine ⟨hlen, ?_, fun n hn => hwz n (List.mem_of_mem_take hn)⟩
  by_cases h0 : len = 0
  · exact Or.inl h0
  · refine Or.inr ?_
    obtain ⟨b, off, spot⟩ := x
    have hc := hcell 0 (by omega)
    have hspot : spot = none := by simpa [Addr.add] using World.cell?_spot hc
    subst hspot
    rw [add_off, Nat.add_zero] at hc
    refine ⟨b, off, rfl, ?_, ?_⟩
    · rcases Nat.lt_or_ge b W.heap.size with h | h
      · exact h
      · simp [World.cell?, Array.getElem?_eq_none h] at hc
    · intro i hi
      rw [hlen] at hi
      have h := hcell i (by omega)
      rw [add_off] at h
      rw [h]
      congr 2
      rw [List.getElem_take, List.getD_eq_getElem?_getD, List.getElem?_eq_getElem (by omega)]
      rfl
end Go.Proofs.YtnegappgdpeabaaGreat
