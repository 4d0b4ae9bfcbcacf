/-
  Steps of drawn regions: a pair laid, a pair taken away. Of no program.
-/
import Derived.Test.YtnegappgdpeabaaGreatMp
set_option linter.unusedSimpArgs false
set_option linter.unusedVariables false
namespace Go.Proofs.YtnegappgdpeabaaGreat
open Go.RowKit Go.ChangeMaps Go.MapKept
section
variable {P : Program} {t k e : TypeId} {K0 V : Type} [DecidableEq K0] {ck : K0 → Value} {cv : V → Value} {d : TypeDesc}
variable {w : World} {ops : Array Oper} {rest : List Oper} {o : Oper} {a : Act} {Q : Exit → Act → World → Prop} {ob : Option Nat} {m : List (K0 × V)} {K : Act → World → Prop}
theorem step_put {F : Prop} (hg : o.guard = none) (mo xo vo : Operand) (hop : o.op = Op.mapUpdate t mo xo vo) (hk : KeyT P k ck d) (ht : P.underlying t = some (.map k e)) {b : Nat}
    (hm : a.eval mo = .map (some b)) (h : MapL ck cv w b m) (x : K0) (hx : a.eval xo = ck x) (v : V) (hv : a.eval vo = cv v)
    (hK : ∀ w', MapL ck cv w' b (setL m x v) → Tn (fun q => q = b) w w' → w'.heap.size = w.heap.size → K (a.put o.dst undef) w') :
    if Region.wanted o (yielded ops a.tmps) = true then o.wp P a w K Q else F := by
  have hw : Region.wanted o (yielded ops a.tmps) = true := by simp [Region.wanted, hg]
  rw [if_pos hw]
  obtain ⟨w', hrun, r1, r2, r3⟩ := h.put hk ht x v
  unfold Oper.wp
  simp [execOp, hop, hm, hx, hv, hrun, Result.andThen]
  exact hK w' r1 r2 r3
theorem step_del {F : Prop} (hg : o.guard = none) (mo xo : Operand) (hop : o.op = Op.call { callee := Callee.builtin Builtin.delete, args := #[mo, xo], argTypes := #[t, k] }) (hk : KeyT P k ck d) (ht : P.underlying t = some (.map k e))
    (hm : a.eval mo = .map ob) (h : MapV ck cv w ob m) (x : K0) (hx : a.eval xo = ck x)
    (hK : ∀ w', MapV ck cv w' ob (delL m x) → Tn (fun q => ob = some q) w w' → w'.heap.size = w.heap.size → K (a.put o.dst (.tuple #[])) w') :
    if Region.wanted o (yielded ops a.tmps) = true then o.wp P a w K Q else F := by
  have hw : Region.wanted o (yielded ops a.tmps) = true := by simp [Region.wanted, hg]
  rw [if_pos hw]
  obtain ⟨w', hrun, r1, r2, r3⟩ := h.del hk ht o.type x
  unfold Oper.wp
  simp [execOp, hop, resolve, invoke, builtin, hm, hx, hrun, Result.andThen]
  exact hK w' r1 r2 r3
end
end Go.Proofs.YtnegappgdpeabaaGreat
