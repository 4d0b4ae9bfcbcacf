/-
  Book: the kind Reals: the document's Same; numbers that can be read.
-/
import Derived.Test.YtnfpnmfgppamgaaGreatFl
import Derived.Test.YtnfpnmfgppamgaaGreatBkAt
import Derived.Test.YtnfpnmfgppamgaaGreatBk3
import Derived.StillTailTactics
namespace Go.Proofs.YtnfpnmfgppamgaaGreat
open Go.RowKit

theorem tn_drewN {F : Nat → Prop} (w : World) (d : Nat) : Tn F w (w.drewN d) := ⟨rfl, rfl, rfl, Nat.le_refl _, fun _ _ _ => rfl⟩
theorem order_selfN {b : Nat} (h : isN b = false) : FloatKind.f64.format.order b b = some .eq := by
  show (Ieee.double.read b).order (Ieee.double.read b) = some .eq
  unfold isN at h
  cases e : Ieee.double.read b with
  | nan s t => rw [e] at h; simp [Ieee.Datum.isNaN] at h
  | infinity s => simp [Ieee.Datum.order]
  | number s m i => simp [Ieee.Datum.order]
theorem isnan_any (b : Nat) (w : World) : Calls Tryz.prog 135 #[.float .f64 b] w fun e w' => e = .returned (.bool (isN b)) ∧ w = w' := by
  have hn : (FloatKind.f64.format.order b b != some Ordering.eq) = isN b := by
    cases h : isN b
    · rw [order_selfN h]; rfl
    · rw [show FloatKind.f64.format.order b b = none from order_nan_l h]; rfl
  go_enter Tryz.func135, Tryz.ntmps135
  go_wp2
  go_ret
  exact ⟨by first | rfl | rw [hn], rfl⟩
theorem bits_any {b : Nat} (w : World) : (Extern.MathFloatBits.float64bits #[.float .f64 b]).run Tryz.prog w = .ok (.int .u64 (b : Int)) w := rfl
def kH (b : Nat) : Int := wrap64 (IntKind.u64.wrap ((b : Int) / 4294967296))
def kX (b : Nat) : Int := if isN b = true then 0 else if 2147483648 ≤ kH b then wrap64 (4294967295 - kH b) else wrap64 (kH b + 2147483648)
def kY (b : Nat) : Int := if isN b = true then 0 else if 2147483648 ≤ kH b then 4294967295 - (b : Int) % 4294967296 else (b : Int) % 4294967296
theorem kX_congr {a b : Nat} (h : FEq a b) : kX a = kX b ∧ kY a = kY b := by
  rcases h with rfl | ⟨h1, h2⟩
  · exact ⟨rfl, rfl⟩
  · unfold kX kY
    rw [if_pos h1, if_pos h2, if_pos h1, if_pos h2]
    exact ⟨rfl, rfl⟩
set_option maxRecDepth 100000 in
theorem key_any (b : Nat) (w : World) : Calls Tryz.prog 126 #[.float .f64 b] w fun e w' => e = .returned (.tuple #[.int .i64 (kX b), .int .i64 (kY b)]) ∧ w = w' := by
  cases h : isN b with
  | true =>
    go_enter Tryz.func126, Tryz.ntmps126
    go_wp2_with (go_at_call 135; refine (isnan_any b _).mono ?_; rintro _ _ ⟨rfl, rfl⟩; rw [h])
    refine ⟨rfl, .tuple #[.int .i64 0, .int .i64 0], ?_, ?_, rfl⟩
    · simp [results, Tryz.results126, go_sem]
    · unfold kX kY; rw [if_pos h, if_pos h]
  | false =>
    have hx0 : kX b = if 2147483648 ≤ wrap64 (IntKind.u64.wrap ((b : Int) / 4294967296)) then wrap64 (4294967295 - wrap64 (IntKind.u64.wrap ((b : Int) / 4294967296))) else wrap64 (wrap64 (IntKind.u64.wrap ((b : Int) / 4294967296)) + 2147483648) := by
      unfold kX kH; rw [if_neg (by rw [h]; decide)]
    have hy0 : kY b = if 2147483648 ≤ wrap64 (IntKind.u64.wrap ((b : Int) / 4294967296)) then 4294967295 - (b : Int) % 4294967296 else (b : Int) % 4294967296 := by
      unfold kY kH; rw [if_neg (by rw [h]; decide)]
    have HX := Lib.hid (And.intro hx0 hy0)
    clear hx0 hy0
    go_enter Tryz.func126, Tryz.ntmps126
    go_wp2_with (go_at_call 135; refine (isnan_any b _).mono ?_; rintro _ _ ⟨rfl, rfl⟩; rw [h])
    rw [run_callFunc_extern Tryz.func124 (by kernel_rfl) (by kernel_rfl) (by kernel_rfl) (e := Extern.MathFloatBits.float64bits) (by kernel_rfl), bits_any]
    simp only [Result.andThen]
    rw [Oper.upon_value]
    go_wp2
    · rename_i hx
      refine ⟨rfl, .tuple #[.int .i64 (wrap64 (4294967295 - wrap64 (IntKind.u64.wrap ((b : Int) / 4294967296)))), .int .i64 (4294967295 - (b : Int) % 4294967296)], ?_, ?_, rfl⟩
      · simp [results, Tryz.results126, go_sem]
      · rw [HX.out.1, HX.out.2, if_pos hx, if_pos hx]
    · rename_i hx
      refine ⟨rfl, .tuple #[.int .i64 (wrap64 (wrap64 (IntKind.u64.wrap ((b : Int) / 4294967296)) + 2147483648)), .int .i64 ((b : Int) % 4294967296)], ?_, ?_, rfl⟩
      · simp [results, Tryz.results126, go_sem]
      · rw [HX.out.1, HX.out.2, if_neg (Int.not_le.2 hx), if_neg (Int.not_le.2 hx)]
set_option maxRecDepth 100000 in
theorem rcmp_same {a b : Nat} (h : FEq a b) (w : World) : Calls Tryz.prog 95 #[.float .f64 a, .float .f64 b] w fun e w' => e = .returned (.int .i64 0) ∧ w = w' := by
  have hk := kX_congr h
  have ha := fun W => key_any a W
  have hb := fun W => key_any b W
  obtain ⟨x, hx⟩ : ∃ x, kX a = x := ⟨_, rfl⟩
  obtain ⟨y, hy⟩ : ∃ y, kY a = y := ⟨_, rfl⟩
  rw [hx, hy] at ha
  rw [← hk.1, ← hk.2, hx, hy] at hb
  have HA := Lib.hid ha
  have HB := Lib.hid hb
  clear ha hb hx hy hk h
  have t1 : (x == x) = true := by simp
  go_enter Tryz.func95, Tryz.ntmps95
  go_wp2_with (go_at_call 126; (first | with_reducible refine (HA.out _).mono ?_ | with_reducible refine (HB.out _).mono ?_); rintro _ _ ⟨rfl, rfl⟩; simp only [])
  go_ret
  exact ⟨rfl, rfl⟩
theorem rsame_any {a b : Nat} (h : FEq a b) (w : World) : Calls Tryz.prog 28 #[.float .f64 a, .float .f64 b] w fun e w' => e = .returned (.bool true) ∧ w = w' := by
  go_enter Tryz.func28, Tryz.ntmps28
  go_wp2_with (go_at_call 95; refine (rcmp_same h _).mono ?_; rintro _ _ ⟨rfl, rfl⟩; simp only [])
  go_ret
  exact ⟨rfl, rfl⟩
end Go.Proofs.YtnfpnmfgppamgaaGreat
