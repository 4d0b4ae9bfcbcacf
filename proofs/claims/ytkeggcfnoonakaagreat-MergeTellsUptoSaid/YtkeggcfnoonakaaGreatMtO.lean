/-
  Lists of pairs that came in: a nil slice has no places.
-/
import Derived.Test.YtkeggcfnoonakaaGreatMgQ
import Derived.Test.YtkeggcfnoonakaaGreatMtC
set_option linter.unusedSimpArgs false
set_option linter.unusedVariables false
namespace Go.Proofs.YtkeggcfnoonakaaGreat
open Go.RowKit Go.ChangeShapes Go.WideShapes Go.ChangeAt Go.Deep

def RdM (w : World) (a : Option Addr) (L : List (List KV)) : Prop := L = [] ∨ ∃ b off, a = some ⟨b, off, none⟩ ∧ ∀ i (hi : i < L.length), ∃ ai ci, w.cell? ⟨b, off + i, none⟩ = some (.slice ai L[i].length ci) ∧ RdQ w ai ci L[i]
theorem RdM.rd {w : World} {a : Option Addr} {L : List (List KV)} (h : RdM w a L) : RdL w a L :=
  h.imp id (fun ⟨b, off, h1, h2⟩ => ⟨b, off, h1, fun i hi => by
    obtain ⟨ai, ci, h3, h4⟩ := h2 i hi
    exact ⟨ai, ci, h3, h4.1⟩⟩)
section
variable {H : Type} {enc : TypeId × Value → H} {w : World} {base : Nat} {spare : Nat → Bool} {held : Bool}
theorem open_pairsQ {n : Nat} {a : Option Addr} {len cap : Nat} {x : DataW H × List MemPlace} (h : DataW.trod enc Tryz.prog w base spare held n 23 [.slice a len cap] = some x) :
    ∃ l : List KV, l.length = len ∧ RdQ w a cap l ∧ l.length ≤ Rows.uptoBulk x.1 ∧ ∀ p ∈ l, p.1.size + p.2.size ≤ Rows.uptoBulk x.1 := by
  obtain ⟨l, h1, h2, h3, h4⟩ := open_pairs h
  refine ⟨l, h1, ⟨h2, ?_⟩, h3, h4⟩
  rcases open_slice Tryz.underlying23 h with ⟨hcs, hx⟩ | ⟨ad, ln, cp, m, k, D, Pl, hcs, _, hl, hm, hmm, hx, hi⟩
  · simp at hcs
    obtain ⟨rfl, rfl, rfl⟩ := hcs
    intro _
    rfl
  · simp at hcs
    obtain ⟨rfl, rfl, rfl⟩ := hcs
    intro e
    cases e
/-- Pairs that came in. -/
def KsInQ (w : World) (a : Option Addr) (len cap : Nat) (l : List KV) : Prop := l.length = len ∧ RdQ w a cap l ∧ (∀ p ∈ l, p.1.size + p.2.size ≤ 1048576) ∧ len ≤ 1048576 ∧ len ≤ cap ∧ cap ≤ 9223372036854775807
theorem open_keysQ {n : Nat} {a : Option Addr} {len cap : Nat} {x : DataW H × List MemPlace} (h : DataW.trod enc Tryz.prog w base spare held n 23 [.slice a len cap] = some x) (hb : Rows.uptoBulk x.1 ≤ 1048576) :
    ∃ l : List KV, KsInQ w a len cap l := by
  obtain ⟨l, h1, h2, h3, h4⟩ := open_pairsQ h
  exact ⟨l, h1, h2, fun p hp => Nat.le_trans (h4 p hp) hb, by omega, by have := h2.1.1; omega, h2.1.2.1⟩
/-- Lists that came in. -/
def LsInQ (w : World) (a : Option Addr) (len cap : Nat) (L : List (List KV)) : Prop := L.length = len ∧ RdM w a L ∧ SzL L ∧ len ≤ 1048576 ∧ len ≤ cap ∧ cap ≤ 9223372036854775807
theorem open_listsQ {n : Nat} {a : Option Addr} {len cap : Nat} {x : DataW H × List MemPlace} (h : DataW.trod enc Tryz.prog w base spare held n 22 [.slice a len cap] = some x) (hb : Rows.uptoBulk x.1 ≤ 1048576) :
    ∃ L : List (List KV), LsInQ w a len cap L := by
  rcases open_slice Tryz.underlying22 h with ⟨hcs, hx⟩ | ⟨ad, ln, cp, m, k, D, Pl, hcs, _, hl, hm, hmm, hx, hi⟩
  · simp at hcs
    obtain ⟨rfl, rfl, rfl⟩ := hcs
    exact ⟨[], rfl, .inl rfl, fun l hl => by simp at hl, by omega, by omega, by omega⟩
  · simp at hcs
    obtain ⟨rfl, rfl, rfl⟩ := hcs
    have hlm : len ≤ m := by rw [hmm]; split <;> omega
    have hC : Tryz.prog.cellsOf 23 = 1 := by kernel_rfl
    rw [hC] at hi
    have hbk : ∀ i, i < len → Rows.uptoBulk (D i) ≤ 1048576 := fun i hil => by
      refine Nat.le_trans ?_ hb
      rw [hx]
      show _ ≤ Rows.uptoBulk (.slice _ _)
      rw [← bulk_slice]
      have := bulk_part (d := D i) (l := (List.range len).map D) (List.mem_map.2 ⟨i, List.mem_range.2 hil, rfl⟩)
      omega
    have each : ∀ i, i < len → ∃ l : List KV, ∃ ai ci, w.cell? (ad.add i) = some (.slice ai l.length ci) ∧ RdQ w ai ci l ∧ l.length ≤ 1048576 ∧ ∀ p ∈ l, p.1.size + p.2.size ≤ 1048576 := by
      intro i hil
      obtain ⟨cs', hc, ht⟩ := hi i (by omega)
      obtain ⟨_, hlen, hat⟩ := World.cells?_some hc
      have hs := open_slice Tryz.underlying23 ht
      obtain ⟨ai, li, ci, rfl⟩ : ∃ ai li ci, cs' = [.slice ai li ci] := by
        rcases hs with ⟨e, _⟩ | ⟨a, l, c, _, _, _, _, e, _⟩
        · exact ⟨_, _, _, e⟩
        · exact ⟨_, _, _, e⟩
      obtain ⟨l, hll, hr, h1, h2⟩ := open_pairsQ ht
      have h0 := hat 0 (by omega)
      rw [Nat.mul_one, show (ad.add i).add 0 = ad.add i from by unfold Addr.add; simp] at h0
      exact ⟨l, ai, ci, by rw [h0, hll]; rfl, hr, Nat.le_trans h1 (hbk i hil), fun p hp => Nat.le_trans (h2 p hp) (hbk i hil)⟩
    obtain ⟨L, hLl, hp⟩ := list_of _ len each
    refine ⟨L, hLl, ?_, fun l hl2 => ?_, ?_, hl, by unfold maxLen at hm; omega⟩
    · by_cases h0 : len = 0
      · exact .inl (List.eq_nil_of_length_eq_zero (hLl.trans h0))
      · right
        obtain ⟨b, off, spot⟩ := ad
        obtain ⟨_, _, hc, _⟩ := hp 0 (by omega)
        have hspot : spot = none := by simpa [Addr.add] using World.cell?_spot hc
        subst hspot
        refine ⟨b, off, rfl, fun i hil => ?_⟩
        obtain ⟨ai, ci, q0, q1, _⟩ := hp i hil
        rw [add_off] at q0
        exact ⟨ai, ci, q0, q1⟩
    · obtain ⟨i, hil, rfl⟩ := List.mem_iff_getElem.1 hl2
      obtain ⟨ai, ci, _, _, q2, q3⟩ := hp i hil
      exact ⟨by omega, fun p hp2 => by have := q3 p hp2; omega⟩
    · rw [hx] at hb
      have hb2 : Rows.uptoBulk (DataW.slice ((List.range len).map D) ((List.range (m - len)).map fun j => D (len + j))) ≤ 1048576 := hb
      rw [← bulk_slice] at hb2
      have := bulk_len ((List.range len).map D)
      rw [List.length_map, List.length_range] at this
      omega
end
end Go.Proofs.YtkeggcfnoonakaaGreat
