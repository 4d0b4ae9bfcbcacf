/-
  Disk: the laws' first call.
-/
import Derived.Test.YtjhajlfkiafhgaaDoorDkR
namespace Go.Proofs.YtjhajlfkiafhgaaDoor
open Go.RowKit
variable {F G : Nat → Prop} {w w' : World} {db mb : Nat} {D D' : Dk} {m m' : Fm} {q : Int} {k : Nat} {s t : ByteArray}

/-- A disk that was made behind the world w0. -/
structure DkB (F : Nat → Prop) (B : Nat) (w0 w : World) (db mb : Nat) (D : Dk) : Prop where
  d : DkAt F w db mb D
  b : Below B w0 w
  hd : B ≤ db
  hm : B ≤ mb
  hz : B ≤ w.heap.size
variable {B : Nat} {w0 : World}
theorem DkB.go (h : DkB F B w0 w db mb D) (h2 : DkAt F w' db mb D') (t : Tn (two db mb) w w') : DkB F B w0 w' db mb D' :=
  ⟨h2, h.b.trans (t.below h.hz (fun k hk => by have := h.hd; have := h.hm; rcases hk with rfl | rfl <;> omega)), h.hd, h.hm, Nat.le_trans h.hz t.size⟩
theorem DkB.stay (h : DkB F B w0 w db mb D) (t : Below w.heap.size w w') : DkB F B w0 w' db mb D :=
  ⟨h.d.below t, h.b.trans (t.mono h.hz), h.hd, h.hm, Nat.le_trans h.hz t.size⟩
theorem c_new (h : Below w0.heap.size w0 w) : Calls Tryd.prog 11 #[] w fun e w' => e = .returned (.pointer (some ⟨w.heap.size + 1, 0, none⟩)) ∧ DkB (two (w.heap.size + 1) w.heap.size) w0.heap.size w0 w' (w.heap.size + 1) w.heap.size (dkL [] (-1) 0) := by
  refine (new_any w).mono ?_
  rintro e w' ⟨he, h1, h2, h3⟩
  have := h.size
  exact ⟨he, h1, h.trans (h2.mono h.size), by omega, h.size, by omega⟩
theorem c_used (h : DkAt F w db mb D) {n : Int} (hn : (used D.m : Int) = n) : Calls Tryd.prog 16 #[.pointer (some ⟨db, 0, none⟩)] w fun e w' => e = .returned (.int .i64 n) ∧ Below w.heap.size w w' := by
  rw [← hn]; exact used_any h
theorem c_acts (h : DkAt F w db mb D) {n : Int} (hn : (D.acts : Int) = n) : Calls Tryd.prog 27 #[.pointer (some ⟨db, 0, none⟩)] w fun e w' => e = .returned (.int .i64 n) ∧ w' = w := by
  rw [← hn]; exact acts_any h
theorem c_list (h : DkAt F w db mb D) (hon : D.on = true) (p : ByteArray) {n : Nat} (hn : (D.list p).length = n) : Calls Tryd.prog 23 #[.pointer (some ⟨db, 0, none⟩), .string p] w fun e w' => ∃ a c, e = .returned (.slice a n c) ∧ Below w.heap.size w w' := by
  refine (list_any h hon p).mono ?_
  rintro e w' ⟨⟨v, rfl, ho⟩, hb⟩
  obtain ⟨a, c, rfl, _⟩ := row_form ho
  rw [hn]
  exact ⟨a, c, rfl, hb⟩

abbrev tX : ByteArray := ⟨#[120]⟩
abbrev tXY : ByteArray := ⟨#[120, 121]⟩
theorem al_list : ((dkL [(nA, (⟨tXY, 0⟩ : Fl))] (-1) 2).list ByteArray.empty).length = 1 := by kernel_rfl
theorem al_set : setL [(nA, (⟨ByteArray.empty, 0⟩ : Fl))] nA ⟨ByteArray.empty ++ tXY, 0⟩ = [(nA, (⟨tXY, 0⟩ : Fl))] := by kernel_rfl
set_option maxRecDepth 100000 in
set_option maxHeartbeats 2000000 in
theorem alive_any (w : World) : Calls Tryd.prog 10 #[] w fun e w' => e = .returned (.bool true) ∧ Below w.heap.size w w' := by
  go_enter Tryd.func10, Tryd.ntmps10
  go_wp2_with (first
    | (go_at_call 26; refine (on_any H7.out.d.c1).mono ?_; rintro e w8 ⟨rfl, rfl⟩)
    | (go_at_call 16; refine (c_used H6.out.d (n := 2) rfl).mono ?_; rintro e w7 ⟨rfl, b2⟩; have H7 := Lib.hid (H6.out.stay b2); clear b2)
    | (go_at_call 27; refine (c_acts H6.out.d (n := 2) rfl).mono ?_; rintro e w7 ⟨rfl, rfl⟩)
    | (go_at_call 23; refine (c_list H5.out.d rfl ByteArray.empty (n := 1) al_list).mono ?_; rintro e w6 ⟨a6, n6, rfl, b2⟩; have H6 := Lib.hid (H5.out.stay b2); clear b2)
    | (go_at_call 15; refine (c_read H4.out.d rfl (s := nA) rfl rfl).mono ?_; rintro e w5 ⟨rfl, b2⟩; have H5 := Lib.hid (H4.out.stay b2); clear b2)
    | (go_at_call 14; refine (c_append H3.out.d (s := nA) (data := tXY) rfl (by decide) (by decide) rfl (by decide) (by decide) al_set).mono ?_; rintro e w4 ⟨rfl, h2, t2⟩; have H4 := Lib.hid (H3.out.go h2 t2); clear h2 t2)
    | (go_at_call 12; refine (c_create H2.out.d (s := nA) rfl (by decide) (by decide) rfl rfl).mono ?_; rintro e w3 ⟨rfl, h2, t2⟩; have H3 := Lib.hid (H2.out.go h2 t2); clear h2 t2)
    | (go_at_call 14; refine (c_append_none H1.out.d (s := nA) (data := tX) rfl (by decide) (by decide) rfl).mono ?_; rintro e w2 ⟨rfl, h2, t2⟩; have H2 := Lib.hid (H1.out.go h2 t2); clear h2 t2)
    | (go_at_call 11; refine (c_new (w0 := w) (Below.refl _ _)).mono ?_; rintro e w1 ⟨rfl, h1⟩; have H1 := Lib.hid h1; clear h1))
  go_ret
  exact ⟨rfl, H7.out.b⟩
end Go.Proofs.YtjhajlfkiafhgaaDoor
