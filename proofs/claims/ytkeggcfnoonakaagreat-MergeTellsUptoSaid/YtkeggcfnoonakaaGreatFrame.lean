
/-
  A frame's word: w' is w but for the blocks of F (and new ones). Plain, of no program.
-/
import Derived.Test.YtkeggcfnoonakaaGreatRows
import Derived.WalkKit
import Derived.WalkSpells
import Derived.WalkLawsBesides
import Derived.Laws.IdiomStrings
import Derived.Laws.BytesArg
import Derived.Lib.Hide
import Derived.Deep.QuietTactic
import Derived.BigQuiet
import Derived.Deep.RegionLaw
set_option linter.unusedSimpArgs false
set_option linter.unusedVariables false



namespace Go.Proofs.YtkeggcfnoonakaaGreat
open Go.RowKit

/-- w' is w but for the blocks of F and new ones. -/
structure Tn (F : Nat → Prop) (w w' : World) : Prop where
  os : w'.os = w.os
  tape : w'.tape = w.tape
  output : w'.output = w.output
  size : w.heap.size ≤ w'.heap.size
  block : ∀ k, k < w.heap.size → ¬ F k → w'.heap[k]? = w.heap[k]?

theorem Tn.refl (F : Nat → Prop) (w : World) : Tn F w w := ⟨rfl, rfl, rfl, Nat.le_refl _, fun _ _ _ => rfl⟩
theorem Tn.trans {F : Nat → Prop} {a b c : World} (h : Tn F a b) (k : Tn F b c) : Tn F a c :=
  ⟨k.os.trans h.os, k.tape.trans h.tape, k.output.trans h.output, Nat.le_trans h.size k.size, fun i hi hf => (k.block i (Nat.lt_of_lt_of_le hi h.size) hf).trans (h.block i hi hf)⟩
/-- What turns behind may be new as well. -/
theorem Tn.andThen {F G : Nat → Prop} {a b c : World} (h : Tn F a b) (k : Tn G b c) (hG : ∀ i, G i → F i ∨ a.heap.size ≤ i) : Tn F a c :=
  ⟨k.os.trans h.os, k.tape.trans h.tape, k.output.trans h.output, Nat.le_trans h.size k.size, fun i hi hf =>
    (k.block i (Nat.lt_of_lt_of_le hi h.size) (fun hg => (hG i hg).elim hf (fun h2 => by omega))).trans (h.block i hi hf)⟩
theorem Tn.mono {F G : Nat → Prop} {a b : World} (h : Tn F a b) (hF : ∀ i, F i → G i) : Tn G a b :=
  ⟨h.os, h.tape, h.output, h.size, fun i hi hg => h.block i hi (fun hf => hg (hF i hf))⟩
theorem Tn.ofBelow {F : Nat → Prop} {a b : World} (h : Below a.heap.size a b) : Tn F a b := ⟨h.os, h.tape, h.output, h.size, fun i hi _ => h.block i hi⟩
theorem Tn.ofGrown {F : Nat → Prop} {a b : World} {row : Option Nat} (h : a.grownBy b row) (hr : ∀ k, row = some k → F k) : Tn F a b :=
  ⟨h.os, h.tape, h.output, h.size, fun i hi hf => h.block i hi (fun e => hf (hr i e.symm))⟩
theorem Tn.setCell {F : Nat → Prop} (w : World) (p : Addr) (u : Value) (hp : F p.block) : Tn F w (w.setCell p u) :=
  ⟨rfl, rfl, rfl, by simp [World.setCell], fun i _ hf => Below.heap_setCell w p u i (fun e => hf (e ▸ hp))⟩
theorem Tn.alloc {F : Nat → Prop} (w : World) (o : Obj) : Tn F w (w.alloc o) := .ofBelow ((Below.refl _ _).alloc (Nat.le_refl _) o)
theorem Tn.drew {F : Nat → Prop} (w : World) : Tn F w w.drew := .ofBelow (Below.refl _ _).drew
theorem Tn.below {F : Nat → Prop} {B : Nat} {a b : World} (h : Tn F a b) (hB : B ≤ a.heap.size) (hF : ∀ k, F k → B ≤ k) : Below B a b :=
  ⟨h.os, h.tape, h.output, h.size, fun k hk => h.block k (by omega) (fun hf => by have := hF k hf; omega)⟩
theorem Tn.cell {F : Nat → Prop} {a b : World} (h : Tn F a b) {p : Addr} {v : Value} (hc : a.cell? p = some v) (hp : ¬ F p.block) : b.cell? p = some v :=
  (World.cell?_of_block (h.block p.block (World.block_lt_of_cell? a p hc) hp)).trans hc
theorem Tn.frozen {F : Nat → Prop} {a b : World} (h : Tn F a b) {p : Addr} (hlt : p.block < a.heap.size) (hp : ¬ F p.block) : b.frozen? p = a.frozen? p :=
  World.frozen?_of_block (h.block p.block hlt hp)
theorem Tn.row {F : Nat → Prop} {a b : World} {base : Nat} {e : TypeId} {size : Nat} {v : Value} {n : Nat} {xs : List Value} (h : Tn F a b) (ho : a.ownsRow base e size v n xs) (hv : ∀ k, v.ownBlock = some k → ¬ F k) :
    b.ownsRow base e size v n xs := by
  obtain ⟨h1, h2⟩ := ho
  refine ⟨h1, ?_⟩
  rcases h2 with h2 | ⟨g, cap, cur, rfl, hg, hh, r⟩
  · exact Or.inl h2
  · refine Or.inr ⟨g, cap, cur, rfl, hg, ?_, r⟩
    rw [h.block g ((Array.getElem?_eq_some_iff.1 hh).1) (hv g rfl)]
    exact hh
theorem Tn.map {F : Nat → Prop} {a b : World} {H : Type} {P : Program} {k : TypeId} {R : Value → Option (DataW H × List MemPlace)} {m n : Nat} {D : DataW H} (h : Tn F a b) (ho : a.ownsMap P k R m n D) (hm : ¬ F m) : b.ownsMap P k R m n D := by
  have hlt := ho.lt
  obtain ⟨es, clock, hb, r⟩ := ho
  exact ⟨es, clock, by rw [h.block m hlt hm]; exact hb, r⟩
end Go.Proofs.YtkeggcfnoonakaaGreat
