/-
  The walk of asked where there is no such message; and Drop, Twice.
-/
import Derived.Test.YtanekdcmealoeaaNetG
namespace Go.Proofs.Ytanekdcmealoeaa
open Go.RowKit Go.Maps

set_option maxRecDepth 100000 in
theorem asked_bad (p : Value) (i : Int) (k : FuncId) (caps : Array Value) (w : World) (code : Int)
    (hat : ∀ W, Below w.heap.size w W → Calls Try.prog 38 #[p, .int .i64 i] W fun e w' => e = errPanic code ∧ Below W.heap.size W w') :
    Calls Try.prog 29 #[p, .int .i64 i, .func (.func k) #[] caps] w fun e w' => e = .returned (.int .i64 code) ∧ Below w.heap.size w w' := by
  have hmf : ∀ (fn : Fn) (first cap : Array Value) (w : World), (Instr.makeFunc fn first cap).run Try.prog w = .ok (.func fn first cap) w := fun _ _ _ _ => rfl
  have b1 : Below w.heap.size w (w.alloc (.cells #[.int .i64 0] 26)) := (Below.refl _ _).alloc (Nat.le_refl _) _
  have hsz : (w.alloc (.cells #[.int .i64 0] 26)).heap.size = w.heap.size + 1 := by simp
  have c1 : (w.alloc (.cells #[.int .i64 0] 26)).cell? ⟨w.heap.size, 0, none⟩ = some (.int .i64 0) := by simp [go_sem]
  have f1 : (w.alloc (.cells #[.int .i64 0] 26)).frozen? ⟨w.heap.size, 0, none⟩ = false := by simp [go_sem]
  generalize hW : (w.alloc (.cells #[.int .i64 0] 26)) = W at *
  have HW := Lib.hid hW
  clear hW
  have HAT := Lib.hid hat
  clear hat
  go_enter_defers Try.func29, Try.ntmps29
  go_wp2_with fail
  rw [HW.out]
  refine (HAT.out W b1).mono ?_
  rintro e w1 ⟨rfl, hb1⟩
  have hlt : w.heap.size < W.heap.size := by omega
  have d1 := (hb1.cell (p := ⟨w.heap.size, 0, none⟩) hlt).trans c1
  have g1 := (hb1.frozen (p := ⟨w.heap.size, 0, none⟩) hlt).trans f1
  have bw1 := b1.trans (hb1.mono (by omega))
  clear hlt b1 hsz c1 f1 HAT hb1 HW
  go_wp2
  refine leaves_cons (f := 37) (args := #[.pointer (some ⟨w.heap.size, 0, none⟩)]) (by simp) (by simp [go_sem]) ?_
  refine (asked_catch _ _ _ g1 ⟨_, d1⟩).mono ?_
  rintro e u' w'' ⟨rfl, rfl, rfl⟩
  simp [Leaves, settle, results, Try.results29, go_sem]
  rw [World.cell?_setCell_same _ _ _ d1]
  exact ⟨_, rfl, rfl, bw1.setCell (Nat.le_refl _) _⟩
end Go.Proofs.Ytanekdcmealoeaa
