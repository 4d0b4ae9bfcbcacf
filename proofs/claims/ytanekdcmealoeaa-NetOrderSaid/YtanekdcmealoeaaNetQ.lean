/-
  NetCuts answers true.
-/
import Derived.Test.YtanekdcmealoeaaNetP
namespace Go.Proofs.Ytanekdcmealoeaa
open Go.RowKit Go.Maps

def c0 : Int → Int → Bool := fun _ _ => false
def c1 : Int → Int → Bool := fun c d => if c = 0 ∧ d = 1 then true else c0 c d
def c2 : Int → Int → Bool := fun c d => if c = 0 ∧ d = 1 then false else c1 c d
theorem w01 (l : List Msg) (cut : Int → Int → Bool) (x : Int) : (⟨2, l, cut, x⟩ : St).way 0 1 = true := by simp [St.way]
theorem w10 (l : List Msg) (cut : Int → Int → Bool) (x : Int) : (⟨2, l, cut, x⟩ : St).way 1 0 = true := by simp [St.way]

theorem ct_1 (a : ByteArray) (ha : a.size ≤ 3000) : (St.new 2).sendE 0 1 a = 0 ∧ (St.new 2).send 0 1 a = ⟨2, [⟨0, 1, a⟩], c0, 0⟩ := by
  have hw : (St.new 2).way 0 1 = true := w01 _ _ _
  constructor
  · rw [St.sendE, if_neg (by rw [hw]; decide), if_neg (by omega)]
  · rw [St.send, if_neg (by rw [hw]; decide), if_neg (by omega), if_neg (by simp [St.new])]; rfl
theorem ct_2 (a : ByteArray) : (⟨2, [⟨0, 1, a⟩], c0, 0⟩ : St).cutE 0 1 = 0 ∧ (⟨2, [⟨0, 1, a⟩], c0, 0⟩ : St).cuts 0 1 true = ⟨2, [⟨0, 1, a⟩], c1, 0⟩ := by
  constructor
  · rw [St.cutE, if_pos (w01 _ _ _)]
  · rw [St.cuts, if_pos (w01 _ _ _)]; rfl
theorem ct_3 (a b : ByteArray) (hb : b.size ≤ 3000) : (⟨2, [⟨0, 1, a⟩], c1, 0⟩ : St).sendE 0 1 b = 0 ∧ (⟨2, [⟨0, 1, a⟩], c1, 0⟩ : St).send 0 1 b = ⟨2, [⟨0, 1, a⟩], c1, 1⟩ := by
  constructor
  · rw [St.sendE, if_neg (by rw [w01]; decide), if_neg (by omega)]
  · rw [St.send, if_neg (by rw [w01]; decide), if_neg (by omega), if_pos (Or.inl (show c1 0 1 = true from rfl))]; rfl
theorem ct_4 (a b : ByteArray) (hb : b.size ≤ 3000) : (⟨2, [⟨0, 1, a⟩], c1, 1⟩ : St).sendE 1 0 b = 0 ∧ (⟨2, [⟨0, 1, a⟩], c1, 1⟩ : St).send 1 0 b = ⟨2, [⟨0, 1, a⟩, ⟨1, 0, b⟩], c1, 1⟩ := by
  constructor
  · rw [St.sendE, if_neg (by rw [w10]; decide), if_neg (by omega)]
  · rw [St.send, if_neg (by rw [w10]; decide), if_neg (by omega), if_neg (by simp [c1, c0])]; rfl
theorem ct_5 (a b : ByteArray) : (⟨2, [⟨0, 1, a⟩, ⟨1, 0, b⟩], c1, 1⟩ : St).cutE 0 1 = 0 ∧ (⟨2, [⟨0, 1, a⟩, ⟨1, 0, b⟩], c1, 1⟩ : St).cuts 0 1 false = ⟨2, [⟨0, 1, a⟩, ⟨1, 0, b⟩], c2, 1⟩ := by
  constructor
  · rw [St.cutE, if_pos (w01 _ _ _)]
  · rw [St.cuts, if_pos (w01 _ _ _)]; rfl
theorem ct_6 (a b c : ByteArray) (hc : c.size ≤ 3000) : (⟨2, [⟨0, 1, a⟩, ⟨1, 0, b⟩], c2, 1⟩ : St).sendE 0 1 c = 0 ∧ (⟨2, [⟨0, 1, a⟩, ⟨1, 0, b⟩], c2, 1⟩ : St).send 0 1 c = ⟨2, [⟨0, 1, a⟩, ⟨1, 0, b⟩, ⟨0, 1, c⟩], c2, 1⟩ := by
  constructor
  · rw [St.sendE, if_neg (by rw [w01]; decide), if_neg (by omega)]
  · rw [St.send, if_neg (by rw [w01]; decide), if_neg (by omega), if_neg (by simp [c2])]; rfl
theorem ct_7 (m : Msg) (l : List Msg) (k : Int → Int → Bool) (x : Int) : (⟨2, m :: l, k, x⟩ : St).askE 0 = 0 ∧ (⟨2, m :: l, k, x⟩ : St).msg 0 = m ∧ (⟨2, m :: l, k, x⟩ : St).deliver 0 = ⟨2, l, k, x⟩ := by
  have h : (⟨2, m :: l, k, x⟩ : St).has 0 = true := by simp [St.has]
  refine ⟨by rw [St.askE, if_pos h], by rw [St.msg, if_pos h]; rfl, by rw [St.deliver, if_pos h]; rfl⟩

set_option maxRecDepth 100000 in
set_option maxHeartbeats 1000000 in
theorem cuts_main (a b c : ByteArray) (hs : a.size + b.size + c.size ≤ 3000) (w : World) :
    Calls Try.prog 4 #[.string a, .string b, .string c] w fun e w' => e = .returned (.bool true) ∧ Below w.heap.size w w' := by
  have ha : a.size ≤ 3000 := by omega
  have hb : b.size ≤ 3000 := by omega
  have hc : c.size ≤ 3000 := by omega
  have t0 : decide ((3000 : Int) < (a.size : Int) + (b.size : Int) + (c.size : Int)) = false := by simp; omega
  have e1 : IntKind.i64.wrap ((a.size : Int) + (b.size : Int)) = (a.size : Int) + (b.size : Int) := by rw [IntKind.wrap_i64]; omega
  have e2 : IntKind.i64.wrap ((a.size : Int) + (b.size : Int) + (c.size : Int)) = (a.size : Int) + (b.size : Int) + (c.size : Int) := by rw [IntKind.wrap_i64]; omega
  have HS := Lib.hid (And.intro ha (And.intro hb hc))
  clear ha hb hc hs
  go_enter Try.func4, Try.ntmps4
  go_wp2_with fail
  refine (new_at w 2 (by omega) (by omega)).mono ?_
  rintro _ w0 ⟨nb, rfl, hn0, hb0⟩
  simp only []
  go_wp2_with fail
  refine (send_at hn0 0 1 a).mono ?_
  rintro _ w1 ⟨rfl, hn1, hb1⟩
  rw [(ct_1 a HS.out.1).2] at hn1
  simp only [(ct_1 a HS.out.1).1]
  go_wp2_with fail
  refine (cut_at hn1 0 1 true (by omega)).mono ?_
  rintro _ w2 ⟨rfl, hn2, hb2⟩
  rw [(ct_2 a).2] at hn2
  simp only [(ct_2 a).1]
  go_wp2_with fail
  refine (send_at hn2 0 1 b).mono ?_
  rintro _ w3 ⟨rfl, hn3, hb3⟩
  rw [(ct_3 a b HS.out.2.1).2] at hn3
  simp only [(ct_3 a b HS.out.2.1).1]
  go_wp2_with fail
  refine (send_at hn3 1 0 b).mono ?_
  rintro _ w4 ⟨rfl, hn4, hb4⟩
  rw [(ct_4 a b HS.out.2.1).2] at hn4
  simp only [(ct_4 a b HS.out.2.1).1]
  go_wp2_with fail
  refine (iscut_at hn4 0 1 (by decide) (by decide)).mono ?_
  rintro _ w5 ⟨rfl, hn5, hb5⟩
  rw [show (⟨2, [⟨0, 1, a⟩, ⟨1, 0, b⟩], c1, 1⟩ : St).cut 0 1 = true from rfl]
  simp only []
  go_wp2_with fail
  refine (iscut_at hn5 1 0 (by decide) (by decide)).mono ?_
  rintro _ w6 ⟨rfl, hn6, hb6⟩
  rw [show (⟨2, [⟨0, 1, a⟩, ⟨1, 0, b⟩], c1, 1⟩ : St).cut 1 0 = false from rfl]
  simp only []
  have HB1 := Lib.hid (((((((hb0.trans hb1).trans hb2).trans hb3).trans hb4).trans hb5).trans hb6))
  clear hn0 hn1 hn2 hn3 hn4 hn5 hb0 hb1 hb2 hb3 hb4 hb5 hb6
  go_wp2_with fail
  refine (len_at hn6).mono ?_
  rintro _ _ ⟨rfl, rfl⟩
  simp only [List.length_cons, List.length_nil]
  go_wp2_with fail
  refine (lost_at hn6).mono ?_
  rintro _ _ ⟨rfl, rfl⟩
  simp only []
  go_wp2_with fail
  refine (cut_at hn6 0 1 false (by omega)).mono ?_
  rintro _ w7 ⟨rfl, hn7, hb7⟩
  rw [(ct_5 a b).2] at hn7
  simp only [(ct_5 a b).1]
  go_wp2_with fail
  refine (send_at hn7 0 1 c).mono ?_
  rintro _ w8 ⟨rfl, hn8, hb8⟩
  rw [(ct_6 a b c HS.out.2.2).2] at hn8
  simp only [(ct_6 a b c HS.out.2.2).1]
  go_wp2_with fail
  refine (deliver_at hn8 0).mono ?_
  rintro _ w9 ⟨rfl, hn9, hb9⟩
  rw [(ct_7 _ _ _ _).2.2] at hn9
  simp only [(ct_7 _ _ _ _).2.1, (ct_7 _ _ _ _).1]
  go_wp2_with fail
  refine (deliver_at hn9 0).mono ?_
  rintro _ w10 ⟨rfl, hn10, hb10⟩
  rw [(ct_7 _ _ _ _).2.2] at hn10
  simp only [(ct_7 _ _ _ _).2.1, (ct_7 _ _ _ _).1]
  go_wp2_with fail
  refine (deliver_at hn10 0).mono ?_
  rintro _ w11 ⟨rfl, hn11, hb11⟩
  rw [(ct_7 _ _ _ _).2.2] at hn11
  simp only [(ct_7 _ _ _ _).2.1, (ct_7 _ _ _ _).1]
  go_wp2_with fail
  refine (alive_any w11).mono ?_
  rintro _ w12 ⟨rfl, hb12⟩
  have hn12 := hn11.same hb12
  simp only []
  have HB2 := Lib.hid (((((HB1.out.trans hb7).trans hb8).trans hb9).trans hb10).trans hb11)
  have HB3 := Lib.hid (HB2.out.trans (hb12.mono HB2.out.size))
  clear hn6 hn7 hn8 hn9 hn10 hn11 hb7 hb8 hb9 hb10 hb11 hb12
  go_wp2_with fail
  refine (len_at hn12).mono ?_
  rintro _ _ ⟨rfl, rfl⟩
  simp only [List.length_nil]
  go_wp2
  go_ret
  exact ⟨rfl, HB3.out⟩

set_option maxRecDepth 100000 in
theorem cuts_alive (a b c : ByteArray) (ha : a.size ≤ 140737488351232) (hb : b.size ≤ 140737488351232) (hc : c.size ≤ 140737488351232) (hs : 3000 < a.size + b.size + c.size) (w : World) :
    Calls Try.prog 4 #[.string a, .string b, .string c] w fun e w' => e = .returned (.bool true) ∧ Below w.heap.size w w' := by
  have t0 : decide ((3000 : Int) < (a.size : Int) + (b.size : Int) + (c.size : Int)) = true := by simp; omega
  have e1 : IntKind.i64.wrap ((a.size : Int) + (b.size : Int)) = (a.size : Int) + (b.size : Int) := by rw [IntKind.wrap_i64]; omega
  have e2 : IntKind.i64.wrap ((a.size : Int) + (b.size : Int) + (c.size : Int)) = (a.size : Int) + (b.size : Int) + (c.size : Int) := by rw [IntKind.wrap_i64]; omega
  go_enter Try.func4, Try.ntmps4
  go_wp2_with (go_at_call 8; refine (alive_any w).mono ?_; rintro _ w1 ⟨rfl, hb1⟩; simp only [])
  go_ret
  exact ⟨rfl, hb1⟩

theorem cuts_any (a b c : ByteArray) (ha : a.size ≤ 140737488351232) (hb : b.size ≤ 140737488351232) (hc : c.size ≤ 140737488351232) (w : World) :
    Calls Try.prog 4 #[.string a, .string b, .string c] w fun e w' => e = .returned (.bool true) ∧ Below w.heap.size w w' := by
  by_cases hs : a.size + b.size + c.size ≤ 3000
  · exact cuts_main a b c hs w
  · exact cuts_alive a b c ha hb hc (by omega) w
end Go.Proofs.Ytanekdcmealoeaa
