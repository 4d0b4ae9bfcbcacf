
/-
  Book: a slice of a stand; draws add up (whatever the kind).
-/
import Derived.Test.YtkeggcfnoonakaaGreatBk2
import Derived.Deep.QuietTactic
set_option linter.unusedSimpArgs false
set_option linter.unusedVariables false
namespace Go.Proofs.YtkeggcfnoonakaaGreat
open Go.RowKit

theorem quiet_add {P : Program} {f : FuncId} {args : Array Value} {w : World} {a n : Nat} {v : Value}
    (h : Calls P f args (w.drewN (a + n)) fun e w' => e = .returned v ∧ ∃ m, w' = (w.drewN (a + n)).drewN m) :
    Calls P f args (w.drewN (a + n)) fun e w'' => e = .returned v ∧ ∃ m, w'' = w.drewN (a + m) :=
  h.mono fun _ _ ⟨he, m, hm⟩ => ⟨he, n + m, by rw [hm, World.drewN_drewN, Nat.add_assoc]⟩

/-- The slice number i of a stand. -/
theorem Lst.at_ {P : Program} {T E TS : TypeId} {k by_ : Nat} {α : Type} {cell : α → List Value} {e : Elm P T E k by_ cell} {eS : Elm P TS T 1 24 sCell} {w : World} {B n cap : Nat} {a : Option Addr} {S : List (Sl × List α)} (h : Lst e eS w B (.slice a n cap) S) {i : Nat} (hi : i < S.length) :
    ∃ g sa sc, a = some ⟨g, 0, none⟩ ∧ w.cell? ⟨g, i, none⟩ = some (.slice sa S[i].2.length sc) ∧ S[i].1.val = .slice sa S[i].2.length sc := by
  obtain ⟨g, cap', hv, hc⟩ := h.read hi
  obtain ⟨sa, sc, hs, _, _⟩ := row_form (h.each i hi)
  exact ⟨g, sa, sc, (Value.slice.inj hv).1, by rw [hc, hs], hs⟩

end Go.Proofs.YtkeggcfnoonakaaGreat
