/-
  alive answers true.
-/
import Derived.Test.YtanekdcmealoeaaNetO
namespace Go.Proofs.Ytanekdcmealoeaa
open Go.RowKit Go.Maps

def al1 : St := (St.new 2).send 0 1 ⟨#[97]⟩
def al2 : St := al1.send 0 1 ⟨#[98]⟩
def al3 : St := al2.twice 0
def al4 : St := al3.deliver 1
theorem al_e1 : (St.new 2).sendE 0 1 ⟨#[97]⟩ = 0 := by decide
theorem al_e2 : al1.sendE 0 1 ⟨#[98]⟩ = 0 := by decide
theorem al_e3 : al2.twiceE 0 = 0 := by decide
theorem al_e4 : al3.askE 1 = 0 := by decide
theorem al_m : al3.msg 1 = ⟨0, 1, ⟨#[98]⟩⟩ := by rfl
theorem al_l : (al4.l.length : Int) = 2 := by decide

set_option maxRecDepth 100000 in
theorem alive_any (w : World) : Calls Try.prog 8 #[] w fun e w' => e = .returned (.bool true) ∧ Below w.heap.size w w' := by
  go_enter Try.func8, Try.ntmps8
  go_wp2_with fail
  refine (new_at w 2 (by omega) (by omega)).mono ?_
  rintro _ w0 ⟨nb, rfl, hn0, hb0⟩
  simp only []
  go_wp2_with fail
  refine (send_at hn0 0 1 ⟨#[97]⟩).mono ?_
  rintro _ w1 ⟨rfl, hn1, hb1⟩
  simp only [al_e1]
  go_wp2_with fail
  refine (send_at (s := al1) hn1 0 1 ⟨#[98]⟩).mono ?_
  rintro _ w2 ⟨rfl, hn2, hb2⟩
  simp only [al_e2]
  go_wp2_with fail
  refine (twice_at (s := al2) hn2 0).mono ?_
  rintro _ w3 ⟨rfl, hn3, hb3⟩
  simp only [al_e3]
  go_wp2_with fail
  refine (deliver_at (s := al3) hn3 1).mono ?_
  rintro _ w4 ⟨rfl, hn4, hb4⟩
  simp only [al_e4, al_m]
  go_wp2_with fail
  refine (len_at (s := al4) hn4).mono ?_
  rintro _ _ ⟨rfl, rfl⟩
  simp only [al_l]
  have HB := Lib.hid (((((hb0.trans hb1).trans hb2).trans hb3).trans hb4))
  clear hn0 hn1 hn2 hn3 hn4 hb0 hb1 hb2 hb3 hb4
  go_wp2
  go_ret
  exact ⟨rfl, HB.out⟩
end Go.Proofs.Ytanekdcmealoeaa
