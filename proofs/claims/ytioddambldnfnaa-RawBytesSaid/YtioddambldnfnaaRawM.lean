/-
  The walk of the chapter's first call (alive): it answers true.
-/
import Derived.Test.YtioddambldnfnaaRawB
import Derived.Test.YtioddambldnfnaaRawG
import Derived.Test.YtioddambldnfnaaRawH
import Derived.Test.YtioddambldnfnaaRawK
namespace Go.Proofs.Ytioddambldnfnaa
open Go.RowKit

theorem alive_put (w : World) : Calls Try.prog 14 #[.int .i64 258, .int .i64 2] w fun e w' => e = .returned (.tuple #[.string ⟨#[1, 2]⟩, .int .i64 0]) ∧ Below w.heap.size w w' :=
  (put_any 258 2 w).mono fun e w' ⟨h1, h2⟩ => ⟨h1.trans (congrArg Ending.returned (by kernel_rfl)), h2⟩
theorem alive_get (w : World) : Calls Try.prog 16 #[.string ⟨#[172, 2, 120]⟩] w fun e w' => e = .returned (.tuple #[.int .i64 300, .int .i64 2, .int .i64 0]) ∧ Below w.heap.size w w' :=
  (getvar_any ⟨#[172, 2, 120]⟩ w (by decide)).mono fun e w' ⟨h1, h2⟩ => ⟨h1.trans (congrArg Ending.returned (by kernel_rfl)), h2⟩
theorem alive_sum (w : World) : Calls Try.prog 12 #[.string ⟨#[49, 50, 51, 52, 53, 54, 55, 56, 57]⟩] w fun e w' => e = .returned (.int .i64 3808858755) ∧ w = w' :=
  (sum_any ⟨#[49, 50, 51, 52, 53, 54, 55, 56, 57]⟩ w (by decide)).mono fun e w' ⟨h1, h2⟩ => ⟨h1.trans (congrArg Ending.returned (by kernel_rfl)), h2⟩
theorem alive_dig (w : World) : Calls Try.prog 23 #[.int .i64 (-50)] w fun e w' => e = .returned (.string ⟨#[45, 53, 48]⟩) ∧ Below w.heap.size w w' :=
  (digits_any (-50) w (by omega) (by omega)).mono fun e w' ⟨h1, h2⟩ => ⟨h1.trans (congrArg Ending.returned (by kernel_rfl)), h2⟩

set_option maxRecDepth 100000 in
theorem alive_any (w : World) : Calls Try.prog 11 #[] w fun e w' => e = .returned (.bool true) ∧ Below w.heap.size w w' := by
  go_enter Try.func11, Try.ntmps11
  go_wp2_with fail
  refine (alive_put w).mono ?_
  rintro e w1 ⟨rfl, b1⟩
  go_wp2_with fail
  refine (alive_get w1).mono ?_
  rintro e w2 ⟨rfl, b2⟩
  go_wp2_with fail
  refine (alive_sum w2).mono ?_
  rintro e w' ⟨rfl, rfl⟩
  go_wp2_with fail
  refine (alive_dig w2).mono ?_
  rintro e w3 ⟨rfl, b3⟩
  go_wp2
  go_ret
  exact ⟨rfl, (b1.trans (b2.mono b1.size)).trans (b3.mono (Nat.le_trans b1.size b2.size))⟩
end Go.Proofs.Ytioddambldnfnaa
