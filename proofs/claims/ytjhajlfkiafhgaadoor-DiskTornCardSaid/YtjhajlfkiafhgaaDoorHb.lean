/-
  The row of bytes that a text's conversion makes.
-/
import Derived.Test.YtjhajlfkiafhgaaDoorDkE
namespace Go.Proofs.YtjhajlfkiafhgaaDoor
open Go.RowKit

theorem add_none (g off j : Nat) : (⟨g, off, none⟩ : Addr).add j = ⟨g, off + j, none⟩ := by
  unfold Addr.add
  split
  · rename_i h
    have h0 : j = 0 := by simpa using h
    subst h0
    rfl
  · rfl
/-! ### The row of bytes that a text's conversion makes. -/

/-- From block B's head on there stand the bytes l, and none of them is frozen. -/
def HasB (w : World) (B : Nat) (l : List UInt8) : Prop := ∀ (j : Nat) (hj : j < l.length), w.cell? ⟨B, j, none⟩ = some (.int .u8 (l[j].toNat : Int)) ∧ w.frozen? ⟨B, j, none⟩ = false

theorem HasB.lt {w : World} {B : Nat} {l : List UInt8} (h : HasB w B l) (hl : 0 < l.length) : B < w.heap.size := by
  rcases Nat.lt_or_ge B w.heap.size with h1 | h1
  · exact h1
  · have := (h 0 hl).1
    simp [World.cell?, Array.getElem?_eq_none h1] at this

theorem HasB.str {w : World} {B : Nat} {l : List UInt8} (h : HasB w B l) (n cap : Nat) (hn : n = l.length) :
    (convert 55 9 (.slice (some ⟨B, 0, none⟩) n cap)).run Tryd.prog w = .ok (.string ⟨l.toArray⟩) w := by
  subst hn
  refine run_convert_bytes_back w 55 9 5 ⟨B, 0, none⟩ cap l Tryd.underlying55 Tryd.underlying5 Tryd.underlying9 fun j hj => ?_
  rw [add_none, Nat.zero_add]
  exact (h j hj).1

theorem HasB.set {w : World} {B : Nat} {l : List UInt8} (h : HasB w B l) (k : Nat) (c : UInt8) : HasB (w.setCell ⟨B, k, none⟩ (.int .u8 (c.toNat : Int))) B (l.set k c) := by
  intro j hj
  have hj' : j < l.length := by simpa using hj
  refine ⟨?_, by rw [World.frozen?_setCell]; exact (h j hj').2⟩
  by_cases hjk : j = k
  · subst hjk
    rw [World.cell?_setCell_same _ _ _ (h j hj').1]
    simp
  · rw [World.cell?_setCell_other _ _ _ _ (by intro e; injection e with _ e2; exact hjk e2.symm)]
    rw [List.getElem_set_ne (by omega)]
    exact (h j hj').1

theorem conv_b (s : ByteArray) (w : World) : ∃ cap W, Below w.heap.size w W ∧ W.heap.size = w.heap.size + 1 ∧ HasB W w.heap.size s.data.toList ∧
    (convert 9 55 (.string s)).run Tryd.prog w = .ok (.slice (some ⟨w.heap.size, 0, none⟩) s.size cap) W := by
  have h := run_bytes_of_string (P := Tryd.prog) w 9 55 5 s Tryd.underlying9 Tryd.underlying55 Tryd.underlying5
  refine ⟨_, _, ?_, ?_, ?_, h⟩
  · exact (Below.refl _ _).drew.alloc (Nat.le_refl _) _
  · simp
  · intro j hj
    have hj2 : j < s.data.size := by simpa using hj
    constructor
    · rw [show w.heap.size = w.drew.heap.size from rfl, World.cell?_alloc_mark, bytesRow_at s _ j hj2]
      simp
    · rw [show w.heap.size = w.drew.heap.size from rfl, World.frozen?_alloc_mark]
      have : s.data.size ≤ (bytesRow s (grownCap w s.size 0 5)).size := by simp [bytesRow]
      simp
      omega

end Go.Proofs.YtjhajlfkiafhgaaDoor
