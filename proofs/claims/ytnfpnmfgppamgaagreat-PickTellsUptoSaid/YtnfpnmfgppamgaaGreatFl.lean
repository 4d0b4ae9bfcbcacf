/-
  Floats in a walk: what a quotient and a product give, NaN and all.
-/
import Derived.Test.YtnfpnmfgppamgaaGreatPkA
import Derived.Laws.FloatArith
namespace Go.Proofs.YtnfpnmfgppamgaaGreat
open Go.RowKit

def isN (b : Nat) : Bool := (Ieee.double.read b).isNaN
/-- The same number, or both none. -/
def FEq (a b : Nat) : Prop := a = b ∨ (isN a = true ∧ isN b = true)
theorem FEq.refl (a : Nat) : FEq a a := .inl rfl
def fnan : Nat := 0x7ff8000000000001
theorem fnan_n : isN fnan = true := by decide +kernel
def fdiv (a b : Nat) : Nat := (Ieee.double.div a b).getD fnan
def fmul (a b : Nat) : Nat := (Ieee.double.mul a b).getD fnan

theorem isN_spec {b : Nat} : isN b = true ↔ ∃ s t, Ieee.double.read b = .nan s t := by
  unfold isN
  cases Ieee.double.read b <;> simp [Ieee.Datum.isNaN]
theorem div_nan_l {a b : Nat} (h : isN a = true) : Ieee.double.div a b = none := by
  obtain ⟨s, t, e⟩ := isN_spec.1 h
  unfold Ieee.Format.div
  rw [e]
  rfl
theorem div_nan_r {a b : Nat} (h : isN b = true) : Ieee.double.div a b = none := by
  obtain ⟨s, t, e⟩ := isN_spec.1 h
  unfold Ieee.Format.div
  rw [e]
  cases Ieee.double.read a <;> rfl
theorem mul_nan_l {a b : Nat} (h : isN a = true) : Ieee.double.mul a b = none := by
  obtain ⟨s, t, e⟩ := isN_spec.1 h
  unfold Ieee.Format.mul
  rw [e]
  rfl
theorem mul_nan_r {a b : Nat} (h : isN b = true) : Ieee.double.mul a b = none := by
  obtain ⟨s, t, e⟩ := isN_spec.1 h
  unfold Ieee.Format.mul
  rw [e]
  cases Ieee.double.read a <;> rfl
theorem fdiv_congr {a a' b b' : Nat} (h : FEq a a') (k : FEq b b') : FEq (fdiv a b) (fdiv a' b') := by
  unfold fdiv
  rcases h with rfl | ⟨h1, h2⟩
  · rcases k with rfl | ⟨k1, k2⟩
    · exact .refl _
    · rw [div_nan_r k1, div_nan_r k2]; exact .refl _
  · rw [div_nan_l h1, div_nan_l h2]; exact .refl _
theorem fmul_congr {a a' b b' : Nat} (h : FEq a a') (k : FEq b b') : FEq (fmul a b) (fmul a' b') := by
  unfold fmul
  rcases h with rfl | ⟨h1, h2⟩
  · rcases k with rfl | ⟨k1, k2⟩
    · exact .refl _
    · rw [mul_nan_r k1, mul_nan_r k2]; exact .refl _
  · rw [mul_nan_l h1, mul_nan_l h2]; exact .refl _
theorem order_nan_l {a b : Nat} (h : isN a = true) : Ieee.double.order a b = none := by
  obtain ⟨s, t, e⟩ := isN_spec.1 h
  unfold Ieee.Format.order
  rw [e]
  rfl
theorem order_nan_r {a b : Nat} (h : isN b = true) : Ieee.double.order a b = none := by
  obtain ⟨s, t, e⟩ := isN_spec.1 h
  unfold Ieee.Format.order
  rw [e]
  cases Ieee.double.read a <;> rfl
theorem order_congr {a a' b b' : Nat} (h : FEq a a') (k : FEq b b') : Ieee.double.order a b = Ieee.double.order a' b' := by
  rcases h with rfl | ⟨h1, h2⟩
  · rcases k with rfl | ⟨k1, k2⟩
    · rfl
    · rw [order_nan_r k1, order_nan_r k2]
  · rw [order_nan_l h1, order_nan_l h2]

theorem drawn_nan (t : Nat) (x y : Nat) : isN (Question.cut (.nanBits .f64 x y) t) = true := by
  have hq : Question.cut (.nanBits .f64 x y) t = (t % 2) * 2 ^ 63 + 0x7ff0000000000000 + 1 + (t / 2) % (2 ^ 52 - 1) := rfl
  rw [hq]
  unfold isN Ieee.Format.read
  have h1 : Ieee.double.signWeight = 2 ^ 63 := by decide +kernel
  have h2 : Ieee.double.binade = 2 ^ 52 := by decide +kernel
  have h3 : Ieee.double.infRung = 0x7ff0000000000000 := by decide +kernel
  rw [h1, h2, h3]
  have h4 : ((t % 2) * 2 ^ 63 + 0x7ff0000000000000 + 1 + (t / 2) % (2 ^ 52 - 1)) % 2 ^ 63 = 0x7ff0000000000000 + 1 + (t / 2) % (2 ^ 52 - 1) := by omega
  simp only []
  rw [h4, if_neg (by omega), if_neg (by omega), if_neg (by omega)]
  rfl

section
variable {P : Program} (w : World)
theorem run_quo (t : TypeId) (x y : Nat) : ∃ r w', (binOp .quo t (.float .f64 x) (.float .f64 y)).run P w = .ok (.float .f64 r) w' ∧ FEq r (fdiv x y) ∧ (w' = w ∨ w' = w.drew) := by
  cases h : Ieee.double.div x y with
  | some r => exact ⟨r, w, run_float_arith w .quo t .f64 x y r h, by unfold fdiv; rw [h]; exact .refl _, .inl rfl⟩
  | none =>
    have h' : FloatKind.f64.format.div x y = none := h
    refine ⟨Question.cut (.nanBits .f64 x y) (w.tape w.drawn (.nanBits .f64 x y)), w.drew, ?_, .inr ⟨drawn_nan _ _ _, by unfold fdiv; rw [h]; exact fnan_n⟩, .inr rfl⟩
    simp [binOp, Op.floatArith, h', go_sem, Question.forced]
theorem run_mul (t : TypeId) (x y : Nat) : ∃ r w', (binOp .mul t (.float .f64 x) (.float .f64 y)).run P w = .ok (.float .f64 r) w' ∧ FEq r (fmul x y) ∧ (w' = w ∨ w' = w.drew) := by
  cases h : Ieee.double.mul x y with
  | some r => exact ⟨r, w, run_float_arith w .mul t .f64 x y r h, by unfold fmul; rw [h]; exact .refl _, .inl rfl⟩
  | none =>
    have h' : FloatKind.f64.format.mul x y = none := h
    refine ⟨Question.cut (.nanBits .f64 x y) (w.tape w.drawn (.nanBits .f64 x y)), w.drew, ?_, .inr ⟨drawn_nan _ _ _, by unfold fmul; rw [h]; exact fnan_n⟩, .inr rfl⟩
    simp [binOp, Op.floatArith, h', go_sem, Question.forced]
end
end Go.Proofs.YtnfpnmfgppamgaaGreat
