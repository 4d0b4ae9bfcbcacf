import Derived.Test.YtjebpppjhkkebaaGreatDoorM11
import Derived.Test.YtjebpppjhkkebaaGreatDoorM27
import Derived.Test.YtjebpppjhkkebaaGreatDoorM3
import Derived.ProofKit
import Derived.OpenShut
import Derived.Deep.Slices
import Derived.ChangeSame
import Derived.SizedLaws
/-
  Manifest: what a law holds: a manifest, on its log, on its disk.
-/
set_option linter.unusedSimpArgs false
set_option linter.unusedVariables false
namespace Go.Proofs.YtjebpppjhkkebaaGreatDoor
open Go.RowKit

section
variable {α : Type} {cell : α → List Value} {k : Nat} {w w' : World} {x : Value} {l : List α} {F F' H : Nat → Prop}
/-- A list that can be read, in a block that F has not. -/
def RdAX (F : Nat → Prop) (cell : α → List Value) (k : Nat) (w : World) (x : Value) (l : List α) : Prop :=
  ∃ a c, x = .slice a l.length c ∧ l.length ≤ c ∧ c ≤ 9223372036854775807 ∧ (a = none → c = 0) ∧
    (l = [] ∨ ∃ b off, a = some ⟨b, off, none⟩ ∧ ¬ F b ∧ b < w.heap.size ∧ ∀ i (hi : i < l.length) j u, (cell l[i])[j]? = some u → w.cell? ⟨b, off + i * k + j, none⟩ = some u)
theorem RdAX.rd (h : RdAX F cell k w x l) : RdA cell k w x l := by
  obtain ⟨a, c, h1, h2, h3, h4, h5⟩ := h
  exact ⟨a, c, h1, h2, h3, h4, h5.imp id (fun ⟨b, off, q1, _, q2, q3⟩ => ⟨b, off, q1, q2, q3⟩)⟩
theorem RdAX.step (h : RdAX F cell k w x l) (ht : Tn H w w') (hH : ∀ q, q < w.heap.size → H q → F q) (hF : ∀ q, F' q → F q ∨ w.heap.size ≤ q) : RdAX F' cell k w' x l := by
  obtain ⟨a, c, h1, h2, h3, h4, h5⟩ := h
  exact ⟨a, c, h1, h2, h3, h4, h5.imp id (fun ⟨b, off, q1, q2, q3, q4⟩ => ⟨b, off, q1, fun e => (hF b e).elim q2 (fun e => by omega), Nat.lt_of_lt_of_le q3 ht.size, fun i hi j u hu => ht.cell (q4 i hi j u hu) (fun e => q2 (hH b q3 e))⟩)⟩
variable {P : Program} {T E : TypeId} {by_ B : Nat} {e : Elm P T E k by_ cell}
theorem rdax_own (h : Own e w B x l) (hF : ∀ q, F q → q < B) : RdAX F cell k w x l := by
  obtain ⟨a, c, h1, h2, h3, h4, h5⟩ := h.rda
  refine ⟨a, c, h1, h2, h3, h4, h5.imp id (fun ⟨b, off, q1, q2, q3⟩ => ⟨b, off, q1, fun e => ?_, q2, q3⟩)⟩
  subst h1 q1
  obtain ⟨_, h⟩ := h
  rcases h with ⟨h, _⟩ | ⟨g, cap, cur, h, hg, _⟩
  · cases h
  · injection h with h
    injection h with h
    injection h with h
    have := hF b e
    omega
end
variable {w w' w0 : World} {F F' G G' H : Nat → Prop} {B db mb lb mp mm : Nat} {D D' : Dk} {L L' : Lg} {dir : ByteArray} {s t : PS} {seq : Int} {stuck : Bool} {v : Value}
def StX (F : Nat → Prop) (w : World) (v : Value) (s : PS) : Prop := ∃ fv lv nv, v = .agg #[fv, .int .i64 s.next, .int .i64 s.log, lv, nv] ∧ RdAX F Fi.cells 6 w fv s.fs ∧ RdAX F cI1 1 w lv s.fl ∧ RdAX F cNt 2 w nv s.ns
theorem StX.st (h : StX F w v s) : StV w v s := by
  obtain ⟨fv, lv, nv, rfl, h1, h2, h3⟩ := h
  exact ⟨fv, lv, nv, rfl, h1.rd, h2.rd, h3.rd⟩
theorem StX.step (h : StX F w v s) (ht : Tn H w w') (hH : ∀ q, q < w.heap.size → H q → F q) (hF : ∀ q, F' q → F q ∨ w.heap.size ≤ q) : StX F' w' v s := by
  obtain ⟨fv, lv, nv, rfl, h1, h2, h3⟩ := h
  exact ⟨fv, lv, nv, rfl, h1.step ht hH hF, h2.step ht hH hF, h3.step ht hH hF⟩
theorem OwnSt.stx (h : OwnSt w B v s) (hF : ∀ q, F q → q < B) : StX F w v s := by
  obtain ⟨fv, lv, nv, rfl, h1, h2, h3⟩ := h
  exact ⟨fv, lv, nv, rfl, rdax_own h1 hF, rdax_own h2 hF, rdax_own h3 hF⟩
/-- A law's manifest: its block is mm. -/
structure MS (B : Nat) (w0 w : World) (F G : Nat → Prop) (db mb lb mp mm : Nat) (D : Dk) (L : Lg) (dir : ByteArray) (s : PS) (seq : Int) (stuck : Bool) : Prop where
  ws : WS B w0 w F G db mb lb mp D L
  c0 : w.cell? ⟨mm, 0, none⟩ = some (.pointer (some ⟨db, 0, none⟩))
  c1 : w.cell? ⟨mm, 1, none⟩ = some (.string dir)
  c2 : w.cell? ⟨mm, 2, none⟩ = some (.pointer (some ⟨lb, 0, none⟩))
  st : ∃ fv lv nv, w.cell? ⟨mm, 3, none⟩ = some fv ∧ w.cell? ⟨mm, 4, none⟩ = some (.int .i64 s.next) ∧ w.cell? ⟨mm, 5, none⟩ = some (.int .i64 s.log) ∧ w.cell? ⟨mm, 6, none⟩ = some lv ∧ w.cell? ⟨mm, 7, none⟩ = some nv ∧ StX (fun q => F q ∨ q = mm) w (.agg #[fv, .int .i64 s.next, .int .i64 s.log, lv, nv]) s
  c8 : w.cell? ⟨mm, 8, none⟩ = some (.int .i64 seq)
  c9 : w.cell? ⟨mm, 9, none⟩ = some (.bool stuck)
  fz : ∀ j, w.frozen? ⟨mm, j, none⟩ = false
  nf : ¬ F mm
  new : B ≤ mm
theorem MS.lt (h : MS B w0 w F G db mb lb mp mm D L dir s seq stuck) : mm < w.heap.size := World.block_lt_of_cell? _ _ h.c0
theorem MS.go (h : MS B w0 w F G db mb lb mp mm D L dir s seq stuck) (hw : WS B w0 w' F' G' db mb lb mp D' L') (a : Step F F' w w') : MS B w0 w' F' G' db mb lb mp mm D' L' dir s seq stuck := by
  have hl := h.lt
  obtain ⟨fv, lv, nv, h3, h4, h5, h6, h7, hs⟩ := h.st
  refine ⟨hw, a.t.cell h.c0 h.nf, a.t.cell h.c1 h.nf, a.t.cell h.c2 h.nf, ⟨fv, lv, nv, a.t.cell h3 h.nf, a.t.cell h4 h.nf, a.t.cell h5 h.nf, a.t.cell h6 h.nf, a.t.cell h7 h.nf, ?_⟩, a.t.cell h.c8 h.nf, a.t.cell h.c9 h.nf, fun j => (a.t.frozen (p := ⟨mm, j, none⟩) hl h.nf).trans (h.fz j), fun e => (a.n mm e).elim h.nf (fun e => by omega), h.new⟩
  refine hs.step a.t (fun q _ e => .inl e) (fun q e => ?_)
  rcases e with e | e
  · exact (a.n q e).imp .inl id
  · exact .inl (.inr e)
theorem MS.stay (h : MS B w0 w F G db mb lb mp mm D L dir s seq stuck) (hb : Below w.heap.size w w') : MS B w0 w' F G db mb lb mp mm D L dir s seq stuck := h.go (h.ws.stay hb) (.below hb)
/-- What others turn, of a disk without a fuse. -/
theorem DkAt.apart (h : DkAt F w db mb D) (hz : D.fuse = none) (ht : Tn H w w') (hH : ∀ q, H q → ¬ F q) : DkAt F w' db mb D := by
  have hd : ¬ H db := fun e => hH db e h.fd
  have hm : ¬ H mb := fun e => hH mb e h.fm
  obtain ⟨p, hp, hf⟩ := h.c3
  rw [hz] at hf
  exact ⟨ht.cell h.c0 hd, ht.cell h.c1 hd, ht.cell h.c2 hd, ⟨p, ht.cell hp hd, by rw [hz]; exact hf⟩, ht.cell h.c4 hd, h.m.tn ht hm, fun j => (ht.frozen (p := ⟨db, j, none⟩) h.ltd hd).trans (h.fz j), h.ok, h.ne, h.fd, h.fm, fun q hq => Nat.lt_of_lt_of_le (h.lt q hq) ht.size⟩
theorem WS.apart (h : WS B w0 w F G db mb lb mp D L) (hz : D.fuse = none) (ht : Tn H w w') (hH : ∀ q, H q → ¬ F q) (hB : ∀ q, H q → B ≤ q) : WS B w0 w' F G db mb lb mp D L :=
  ⟨⟨h.d.d.apart hz ht hH, h.d.new, h.d.b.trans (ht.below h.d.hz hB), Nat.le_trans h.d.hz ht.size⟩, h.l.tn ht (fun q e k => hH q k (h.sub q e).1), h.sub⟩
theorem MS.wsm (h : MS B w0 w F G db mb lb mp mm D L dir s seq stuck) (hz : D.fuse = none) (t : Tn (fun q => q = mm) w w') : WS B w0 w' F G db mb lb mp D L :=
  h.ws.apart hz t (fun q e k => h.nf (e ▸ k)) (fun q e => by rw [e]; exact h.new)
theorem MS.set9 (h : MS B w0 w F G db mb lb mp mm D L dir s seq stuck) (hz : D.fuse = none) (b : Bool) : MS B w0 (w.setCell ⟨mm, 9, none⟩ (.bool b)) F G db mb lb mp mm D L dir s seq b := by
  have t : Tn (fun q => q = mm) w (w.setCell ⟨mm, 9, none⟩ (.bool b)) := tn_setS
  obtain ⟨fv, lv, nv, h3, h4, h5, h6, h7, hs⟩ := h.st
  exact ⟨h.wsm hz t, cell_keep h.c0 (by decide), cell_keep h.c1 (by decide), cell_keep h.c2 (by decide), ⟨fv, lv, nv, cell_keep h3 (by decide), cell_keep h4 (by decide), cell_keep h5 (by decide), cell_keep h6 (by decide), cell_keep h7 (by decide), hs.step t (fun q _ e => .inr e) (fun q e => .inl e)⟩, cell_keep h.c8 (by decide), World.cell?_setCell_same _ _ _ h.c9, fun j => by rw [World.frozen?_setCell]; exact h.fz j, h.nf, h.new⟩
theorem MS.set8 (h : MS B w0 w F G db mb lb mp mm D L dir s seq stuck) (hz : D.fuse = none) (n : Int) : MS B w0 (w.setCell ⟨mm, 8, none⟩ (.int .i64 n)) F G db mb lb mp mm D L dir s n stuck := by
  have t : Tn (fun q => q = mm) w (w.setCell ⟨mm, 8, none⟩ (.int .i64 n)) := tn_setS
  obtain ⟨fv, lv, nv, h3, h4, h5, h6, h7, hs⟩ := h.st
  exact ⟨h.wsm hz t, cell_keep h.c0 (by decide), cell_keep h.c1 (by decide), cell_keep h.c2 (by decide), ⟨fv, lv, nv, cell_keep h3 (by decide), cell_keep h4 (by decide), cell_keep h5 (by decide), cell_keep h6 (by decide), cell_keep h7 (by decide), hs.step t (fun q _ e => .inr e) (fun q e => .inl e)⟩, World.cell?_setCell_same _ _ _ h.c8, cell_keep h.c9 (by decide), fun j => by rw [World.frozen?_setCell]; exact h.fz j, h.nf, h.new⟩
/-- Another state. -/
theorem MS.setS (h : MS B w0 w F G db mb lb mp mm D L dir s seq stuck) (hz : D.fuse = none) {fv lv nv : Value} (hx : StX (fun q => F q ∨ q = mm) w (.agg #[fv, .int .i64 t.next, .int .i64 t.log, lv, nv]) t) :
    MS B w0 (((((w.setCell ⟨mm, 3, none⟩ fv).setCell ⟨mm, 4, none⟩ (.int .i64 t.next)).setCell ⟨mm, 5, none⟩ (.int .i64 t.log)).setCell ⟨mm, 6, none⟩ lv).setCell ⟨mm, 7, none⟩ nv) F G db mb lb mp mm D L dir t seq stuck := by
  have tt : Tn (fun q => q = mm) w (((((w.setCell ⟨mm, 3, none⟩ fv).setCell ⟨mm, 4, none⟩ (.int .i64 t.next)).setCell ⟨mm, 5, none⟩ (.int .i64 t.log)).setCell ⟨mm, 6, none⟩ lv).setCell ⟨mm, 7, none⟩ nv) := (((tn_setS.trans tn_setS).trans tn_setS).trans tn_setS).trans tn_setS
  obtain ⟨fv0, lv0, nv0, h3, h4, h5, h6, h7, _⟩ := h.st
  have keep : ∀ {j : Nat} {u : Value}, w.cell? ⟨mm, j, none⟩ = some u → j ≠ 3 → j ≠ 4 → j ≠ 5 → j ≠ 6 → j ≠ 7 → (((((w.setCell ⟨mm, 3, none⟩ fv).setCell ⟨mm, 4, none⟩ (.int .i64 t.next)).setCell ⟨mm, 5, none⟩ (.int .i64 t.log)).setCell ⟨mm, 6, none⟩ lv).setCell ⟨mm, 7, none⟩ nv).cell? ⟨mm, j, none⟩ = some u :=
    fun hc n3 n4 n5 n6 n7 => cell_keep (cell_keep (cell_keep (cell_keep (cell_keep hc (Ne.symm n3)) (Ne.symm n4)) (Ne.symm n5)) (Ne.symm n6)) (Ne.symm n7)
  refine ⟨h.wsm hz tt, keep h.c0 (by decide) (by decide) (by decide) (by decide) (by decide), keep h.c1 (by decide) (by decide) (by decide) (by decide) (by decide), keep h.c2 (by decide) (by decide) (by decide) (by decide) (by decide), ⟨fv, lv, nv, ?_, ?_, ?_, ?_, ?_, hx.step tt (fun q _ e => .inr e) (fun q e => .inl e)⟩, keep h.c8 (by decide) (by decide) (by decide) (by decide) (by decide), keep h.c9 (by decide) (by decide) (by decide) (by decide) (by decide), fun j => by simp only [World.frozen?_setCell]; exact h.fz j, h.nf, h.new⟩
  · exact (cell_keep (cell_keep (cell_keep (cell_keep (World.cell?_setCell_same _ _ _ h3) (by decide)) (by decide)) (by decide)) (by decide))
  · exact (cell_keep (cell_keep (cell_keep (World.cell?_setCell_same _ _ _ (cell_keep h4 (by decide))) (by decide)) (by decide)) (by decide))
  · exact (cell_keep (cell_keep (World.cell?_setCell_same _ _ _ (cell_keep (cell_keep h5 (by decide)) (by decide))) (by decide)) (by decide))
  · exact (cell_keep (World.cell?_setCell_same _ _ _ (cell_keep (cell_keep (cell_keep h6 (by decide)) (by decide)) (by decide))) (by decide))
  · exact (World.cell?_setCell_same _ _ _ (cell_keep (cell_keep (cell_keep (cell_keep h7 (by decide)) (by decide)) (by decide)) (by decide)))
end Go.Proofs.YtjebpppjhkkebaaGreatDoor
/-
  Manifest: none, Stuck, done, State.
-/
set_option linter.unusedSimpArgs false
set_option linter.unusedVariables false
namespace Go.Proofs.YtjebpppjhkkebaaGreatDoor
open Go.RowKit
variable {w w' w0 : World} {F F' G G' H : Nat → Prop} {B db mb lb mp mm : Nat} {D D' : Dk} {L L' : Lg} {dir : ByteArray} {s t : PS} {seq : Int} {stuck : Bool} {v : Value}

theorem mnone_at (h : w.cell? ⟨mm, 0, none⟩ = some (.pointer (some ⟨db, 0, none⟩))) : Calls Tryz.prog 23 #[.pointer (some ⟨mm, 0, none⟩)] w fun e w' => e = .returned (.bool false) ∧ w = w' := by
  go_enter Tryz.func23, Tryz.ntmps23
  go_wp2
  go_ret
  exact ⟨rfl, rfl⟩
/-- There is no manifest: a nil one, or a zero one. -/
def MNone (w : World) (p : Value) : Prop := p = .pointer none ∨ ∃ z, p = .pointer (some ⟨z, 0, none⟩) ∧ w.cell? ⟨z, 0, none⟩ = some (.pointer none)
theorem MNone.below {p : Value} (h : MNone w p) (hb : Below w.heap.size w w') : MNone w' p := by
  rcases h with rfl | ⟨z, rfl, h⟩
  · exact .inl rfl
  · exact .inr ⟨z, rfl, (hb.cell (p := ⟨z, 0, none⟩) (World.block_lt_of_cell? _ _ h)).trans h⟩
theorem mnone_no {p : Value} (h : MNone w p) : Calls Tryz.prog 23 #[p] w fun e w' => e = .returned (.bool true) ∧ w = w' := by
  rcases h with rfl | ⟨z, rfl, h⟩
  · go_enter Tryz.func23, Tryz.ntmps23
    go_wp2
    go_ret
    exact ⟨rfl, rfl⟩
  · go_enter Tryz.func23, Tryz.ntmps23
    go_wp2
    go_ret
    exact ⟨rfl, rfl⟩
theorem mstuck_no {p : Value} (h : MNone w p) : Calls Tryz.prog 11 #[p] w fun e w' => e = .returned (.bool false) ∧ w = w' := by
  have hn := mnone_no h
  have HN := Lib.hid hn
  clear hn h
  go_enter Tryz.func11, Tryz.ntmps11
  go_wp2_with (go_at_call 23; go_loud (refine HN.out.mono ?_); rintro e w2 ⟨rfl, rfl⟩)
  go_ret
  exact ⟨rfl, rfl⟩
theorem mdone_at (h : MS B w0 w F G db mb lb mp mm D L dir s seq stuck) (hz : D.fuse = none) (c : Int) : Calls Tryz.prog 30 #[.pointer (some ⟨mm, 0, none⟩), .int .i64 c] w fun e w' => e = .returned (.int .i64 c) ∧ MS B w0 w' F G db mb lb mp mm D L dir s seq (decide (c = 20)) ∧ w' = w.setCell ⟨mm, 9, none⟩ (.bool (decide (c = 20))) := by
  have h9 := h.set9 hz (decide (c = 20))
  have H9 := Lib.hid h9
  have c9 := h.c9
  have f9 := h.fz 9
  clear h9 h
  by_cases hc : c = 20
  · subst hc
    go_enter Tryz.func30, Tryz.ntmps30
    go_wp2
    go_ret
    exact ⟨rfl, H9.out, rfl⟩
  · have t0 : (c == 20) = false := beq_eq_false_iff_ne.2 hc
    have t1 : decide (c = 20) = false := decide_eq_false hc
    rw [t1] at H9 ⊢
    go_enter Tryz.func30, Tryz.ntmps30
    go_wp2
    go_ret
    exact ⟨rfl, H9.out, rfl⟩
end Go.Proofs.YtjebpppjhkkebaaGreatDoor
/-
  Manifest: State.
-/
set_option linter.unusedSimpArgs false
set_option linter.unusedVariables false
namespace Go.Proofs.YtjebpppjhkkebaaGreatDoor
open Go.RowKit
variable {w w' w0 : World} {F F' G G' H : Nat → Prop} {B db mb lb mp mm : Nat} {D D' : Dk} {L L' : Lg} {dir : ByteArray} {s t : PS} {seq : Int} {stuck : Bool} {v : Value}

theorem edV00 (w : World) : EdV w (.agg #[.slice none 0 0, .slice none 0 0, .int .i64 0, .slice none 0 0, .slice none 0 0]) e00 := ⟨_, _, _, _, rfl, RdA.nil w, RdA.nil w, RdA.nil w, RdA.nil w⟩
/-- A value written into a state's block. -/
theorem cells5 {b : Nat} {x0 x1 x2 x3 x4 y0 y1 y2 y3 y4 : Value} (h : ObS w b x0 x1 x2 x3 x4) : ObS (((((w.setCell ⟨b, 0, none⟩ y0).setCell ⟨b, 1, none⟩ y1).setCell ⟨b, 2, none⟩ y2).setCell ⟨b, 3, none⟩ y3).setCell ⟨b, 4, none⟩ y4) b y0 y1 y2 y3 y4 :=
  ⟨(cell_keep (cell_keep (cell_keep (cell_keep (World.cell?_setCell_same _ _ _ h.z0) (by decide)) (by decide)) (by decide)) (by decide)),
   (cell_keep (cell_keep (cell_keep (World.cell?_setCell_same _ _ _ (cell_keep h.z1 (by decide))) (by decide)) (by decide)) (by decide)),
   (cell_keep (cell_keep (World.cell?_setCell_same _ _ _ (cell_keep (cell_keep h.z2 (by decide)) (by decide))) (by decide)) (by decide)),
   (cell_keep (World.cell?_setCell_same _ _ _ (cell_keep (cell_keep (cell_keep h.z3 (by decide)) (by decide)) (by decide))) (by decide)),
   (World.cell?_setCell_same _ _ _ (cell_keep (cell_keep (cell_keep (cell_keep h.z4 (by decide)) (by decide)) (by decide)) (by decide))),
   fun j => by simp only [World.frozen?_setCell]; exact h.zf j⟩
theorem tn5 {b : Nat} {y0 y1 y2 y3 y4 : Value} : Tn (fun q => q = b) w (((((w.setCell ⟨b, 0, none⟩ y0).setCell ⟨b, 1, none⟩ y1).setCell ⟨b, 2, none⟩ y2).setCell ⟨b, 3, none⟩ y3).setCell ⟨b, 4, none⟩ y4) := (((tn_setS.trans tn_setS).trans tn_setS).trans tn_setS).trans tn_setS
theorem obZS {b : Nat} (h : ObZ w b) : ObS w b (.slice none 0 0) (.int .i64 0) (.int .i64 0) (.slice none 0 0) (.slice none 0 0) := ⟨h.z0, h.z1, h.z2, h.z3, h.z4, h.zf⟩
theorem ObS.tn {b c : Nat} {x0 x1 x2 x3 x4 : Value} (h : ObS w b x0 x1 x2 x3 x4) (t : Tn (fun q => q = c) w w') (hbc : ¬ b = c) : ObS w' b x0 x1 x2 x3 x4 :=
  ⟨t.cell h.z0 hbc, t.cell h.z1 hbc, t.cell h.z2 hbc, t.cell h.z3 hbc, t.cell h.z4 hbc, fun j => (t.frozen (p := ⟨b, j, none⟩) h.lt hbc).trans (h.zf j)⟩
/-- A manifest says its state. -/
def StAns (s : PS) (w : World) (r : Ending) (w' : World) : Prop := ∃ v, r = .returned v ∧ OwnSt w' w.heap.size v s ∧ Below w.heap.size w w'
set_option maxRecDepth 100000 in
set_option maxHeartbeats 4000000 in
theorem mstate_at (h : MS B w0 w F G db mb lb mp mm D L dir s seq stuck) (hg : GoodS s) (h1 : 1 ≤ s.next) : Calls Tryz.prog 13 #[.pointer (some ⟨mm, 0, none⟩)] w (StAns s w) := by
  obtain ⟨w1, hw1⟩ : ∃ w1, w.alloc (.cells #[.slice none 0 0, .int .i64 0, .int .i64 0, .slice none 0 0, .slice none 0 0] 30) = w1 := ⟨_, rfl⟩
  have hb1 : Below w.heap.size w w1 := by rw [← hw1]; exact (Below.refl _ _).alloc (Nat.le_refl _) _
  have hz1 : w1.heap.size = w.heap.size + 1 := by rw [← hw1]; simp
  have ho1 : ObZ w1 w.heap.size := by rw [← hw1]; exact ObZ.made w
  have h' := h.stay hb1
  have hn := mnone_at h'.c0
  obtain ⟨fv, lv, nv, h3, h4, h5, h6, h7, hs⟩ := h'.st
  have hap := apply_any hs.st (edV00 w1) hg (by simp [e00]) (by simp [e00]) (by simp [e00]) (by simp [e00])
  have HAP := Lib.hid hap
  have HN := Lib.hid hn
  have HO := Lib.hid (And.intro hb1 (And.intro hz1 ho1))
  have hne := applyF_none hg h1
  have HNE := Lib.hid hne
  clear hap hn hne hb1 hz1 ho1 h' h hs hg
  go_enter Tryz.func13, Tryz.ntmps13
  go_wp2_with (first
    | (go_at_call 15; refine HAP.out.mono ?_; rintro r w2 ⟨hb2, v, rfl, ho2⟩; rw [HNE.out] at ho2 ⊢; obtain ⟨gv, kv, ov, rfl, o1, o2, o3⟩ := ho2; obtain ⟨ga, gc, rfl, _, _⟩ := row_form o1; obtain ⟨ka, kc', rfl, _, _⟩ := row_form o2; obtain ⟨oa, oc, rfl, _, _⟩ := row_form o3; have H2 := Lib.hid (And.intro hb2 (And.intro o1 (And.intro o2 o3))); obtain ⟨w3, hw3⟩ : ∃ w3, w2.alloc (.cells #[.slice none 0 0, .int .i64 0, .int .i64 0, .slice none 0 0, .slice none 0 0] 30) = w3 := ⟨_, rfl⟩; have hb3 : Below w2.heap.size w2 w3 := (by rw [← hw3]; exact (Below.refl _ _).alloc (Nat.le_refl _) _); have HZ3 := Lib.hid (obZS ((HO.out.2.2.below hb2).below hb3)); have HY3 := Lib.hid (obZS (by rw [← hw3]; exact ObZ.made w2 : ObZ w3 w2.heap.size)); have HB3 := Lib.hid hb3; have k0 := HY3.out.z0; have k1 := HY3.out.z1; have k2 := HY3.out.z2; have k3 := HY3.out.z3; have k4 := HY3.out.z4; have f0 := HY3.out.zf 0; have f1 := HY3.out.zf 1; have f2 := HY3.out.zf 2; have f3 := HY3.out.zf 3; have f4 := HY3.out.zf 4; have q0 := HZ3.out.z0; have q1 := HZ3.out.z1; have q2 := HZ3.out.z2; have q3 := HZ3.out.z3; have q4 := HZ3.out.z4; have g0 := HZ3.out.zf 0; have g1 := HZ3.out.zf 1; have g2 := HZ3.out.zf 2; have g3 := HZ3.out.zf 3; have g4 := HZ3.out.zf 4; have hne : ¬ w2.heap.size = w.heap.size := (by have := hb2.size; have := HO.out.2.1; omega); have hne2 : ¬ w.heap.size = w2.heap.size := (by have := hb2.size; have := HO.out.2.1; omega); clear hb2 hb3 o1 o2 o3)
    | (go_at_call 23; go_loud (refine HN.out.mono ?_); rintro e w2 ⟨rfl, rfl⟩))
  have h5 := cells5 HY3.out (y0 := .slice ga s.fs.length gc) (y1 := .int .i64 s.next) (y2 := .int .i64 s.log) (y3 := .slice ka s.fl.length kc') (y4 := .slice oa s.ns.length oc)
  have t5 := tn5 (w := w3) (b := w2.heap.size) (y0 := .slice ga s.fs.length gc) (y1 := .int .i64 s.next) (y2 := .int .i64 s.log) (y3 := .slice ka s.fl.length kc') (y4 := .slice oa s.ns.length oc)
  have hl1 := HO.out.2.1
  have hs2 := H2.out.1.size
  have hs3 := HB3.out.size
  have hx := (HZ3.out.tn t5 hne2)
  have h6 := cells5 hx (y0 := .slice ga s.fs.length gc) (y1 := .int .i64 s.next) (y2 := .int .i64 s.log) (y3 := .slice ka s.fl.length kc') (y4 := .slice oa s.ns.length oc)
  have own : ∀ {α : Type} {c : α → List Value} {k : Nat} {T E : TypeId} {y : Nat} {e : Elm Tryz.prog T E k y c} {x : Value} {l : List α} {w4 w6 : World}, Tn (fun q => q = w2.heap.size) w3 w4 → Tn (fun q => q = w.heap.size) w4 w6 → Own e w2 w1.heap.size x l → Own e w6 w.heap.size x l := fun t4 t6 ho =>
    row_mono (t6.row (t4.row (row_below ho HB3.out) (fun q hq => by have := (ho.lt q hq).2; omega)) (fun q hq => by have := (ho.lt q hq).1; omega)) (by omega)
  (try simp only [Exit.inBlock, Exit.then])
  refine bodyPost_ret (results_cell1 rfl rfl (load_st h6.z0 h6.z1 h6.z2 h6.z3 h6.z4)) rfl ⟨_, rfl, ⟨_, _, _, rfl, own t5 tn5 H2.out.2.1, own t5 tn5 H2.out.2.2.1, own t5 tn5 H2.out.2.2.2⟩, ?_⟩
  refine ((HO.out.1.trans (H2.out.1.mono (by omega))).trans (HB3.out.mono (by omega))).trans ((t5.below (by omega) (fun q hq => by omega)).trans (tn5.below ?_ (fun q hq => by omega)))
  exact Nat.le_trans (by omega) t5.size
end Go.Proofs.YtjebpppjhkkebaaGreatDoor
/-
  Manifest: edits, and a pair, that came in.
-/
set_option linter.unusedSimpArgs false
set_option linter.unusedVariables false
namespace Go.Proofs.YtjebpppjhkkebaaGreatDoor
open Go.RowKit Go.ChangeShapes Go.WideShapes Go.ChangeAt Go.Deep

theorem mn_list_of {α : Type} (p : Nat → α → Prop) : ∀ n, (∀ i, i < n → ∃ x, p i x) → ∃ l : List α, l.length = n ∧ ∀ i (hi : i < l.length), p i l[i]
  | 0, _ => ⟨[], rfl, fun i hi => by simp at hi⟩
  | n + 1, h => by
    obtain ⟨l, hl, hp⟩ := mn_list_of p n (fun i hi => h i (by omega))
    obtain ⟨x, hx⟩ := h n (by omega)
    refine ⟨l ++ [x], by simp [hl], fun i hi => ?_⟩
    rcases Nat.lt_or_ge i l.length with h1 | h1
    · rw [List.getElem_append_left h1]; exact hp i h1
    · have h2 : i = n := by simp at hi; omega
      subst h2
      rw [List.getElem_append_right (by omega)]
      simp [hl, hx]
theorem mn_take_one {cs : List Value} {k : Nat} {v : Value} (h : (cs.drop k).take 1 = [v]) : cs[k]? = some v := by
  have := congrArg (fun l => l[0]?) h
  simpa using this
theorem mn_add (g o j : Nat) : (⟨g, o, none⟩ : Addr).add j = ⟨g, o + j, none⟩ := by unfold Addr.add; split <;> simp_all
/-- What is read fits into a machine. -/
def LW {H : Type} (P : Program) (t : TypeId) (d : DataW H) : Prop := ∀ n ∈ d.weights P t, n ≤ reachBytes
theorem sized_of {H : Type} {P : Program} {ts : List TypeId} {ds : List (DataW H)} (h : (DataW.weightsEach P ts ds).all (· ≤ reachBytes) = true) {j : Nat} {t : TypeId} {d : DataW H} (ht : ts[j]? = some t) (hd : ds[j]? = some d) : LW P t d :=
  fun n hn => of_decide_eq_true (List.all_eq_true.1 h n (DataW.weights_mem_each ht hd n hn))
theorem weights_all {H : Type} {P : Program} {e : TypeId} {l : List (DataW H)} {d : DataW H} (hd : d ∈ l) {n : Nat} (hn : n ∈ d.weights P e) : n ∈ DataW.weightsAll P e l := by
  induction l with
  | nil => simp at hd
  | cons x l ih =>
    unfold DataW.weightsAll
    rcases List.mem_cons.1 hd with rfl | hd
    · exact List.mem_append_left _ hn
    · exact List.mem_append_right _ (ih hd)
theorem LW.slice {H : Type} {P : Program} {T E : TypeId} {a b : List (DataW H)} (h : LW P T (.slice a b)) (hT : P.underlying T = some (.slice E)) : a.length * P.bytesOf E ≤ reachBytes ∧ ∀ d ∈ a, LW P E d := by
  unfold LW DataW.weights at h
  rw [hT] at h
  refine ⟨?_, fun d hd n hn => h n (List.mem_cons_of_mem _ (List.mem_append_left _ (weights_all hd hn)))⟩
  have := h _ (List.mem_cons_self ..)
  rw [Nat.add_mul] at this
  omega
theorem LW.field {H : Type} {P : Program} {T : TypeId} {fs : Array Field} {parts : List (DataW H)} (h : LW P T (.agg parts)) (hT : P.underlying T = some (.struct fs)) {j : Nat} {t : TypeId} {d : DataW H} (ht : (fs.toList.map (·.type))[j]? = some t) (hd : parts[j]? = some d) : LW P t d := by
  unfold LW DataW.weights at h
  rw [hT] at h
  exact fun n hn => h n (DataW.weights_mem_each ht hd n hn)
theorem LW.str {H : Type} {P : Program} {T : TypeId} {l : List UInt8} (h : LW (H := H) P T (.lit (.string l))) : l.length ≤ 140737488351232 := by
  have := h l.length (by unfold DataW.weights; simp)
  exact this
def Fi.szs (x : Fi) : Prop := x.f.size ≤ 140737488351232 ∧ x.l.size ≤ 140737488351232
def szN (p : KV) : Prop := p.1.size ≤ 140737488351232 ∧ p.2.size ≤ 140737488351232
def PE.wf (e : PE) : Prop := (e.add.length ≤ 140737488351232 ∧ ∀ f ∈ e.add, f.szs) ∧ e.rem.length ≤ 140737488351232 ∧ e.fl.length ≤ 140737488351232 ∧ e.ns.length ≤ 140737488351232 ∧ ∀ p ∈ e.ns, szN p
/-- An edit as it stands in cells. -/
structure EdR where
  av : Value
  rv : Value
  lg : Int
  lv : Value
  nv : Value
def EdR.cells (o : EdR) : List Value := [o.av, o.rv, .int .i64 o.lg, o.lv, o.nv]
def EdR.val (o : EdR) : Value := .agg #[o.av, o.rv, .int .i64 o.lg, o.lv, o.nv]
def EdOk (w : World) (o : EdR) : Prop := ∃ e, EdV w o.val e ∧ e.wf
/-- Edits that came in. -/
def EdsIn (w : World) (a : Option Addr) (len cap : Nat) (l : List EdR) : Prop := l.length = len ∧ RdA EdR.cells 5 w (.slice a len cap) l ∧ ∀ o ∈ l, EdOk w o
section
variable {H : Type} {enc : TypeId × Value → H} {w : World} {base : Nat} {spare : Nat → Bool} {held : Bool}
theorem open_rda {α : Type} {cell : α → List Value} {k : Nat} {T E : TypeId} {n : Nat} {cs : List Value} {x : DataW H × List MemPlace} (hT : Tryz.prog.underlying T = some (.slice E)) (hC : Tryz.prog.cellsOf E = k) (hB : 1 ≤ Tryz.prog.bytesOf E) (hw : LW Tryz.prog T x.1) (hk : 0 < k) (hlen : ∀ o, (cell o).length = k) {Q : α → Prop}
    (op : ∀ m cs y, cs.length = k → LW Tryz.prog E y.1 → DataW.trod enc Tryz.prog w base spare held m E cs = some y → ∃ o, cs = cell o ∧ Q o) (h : DataW.trod enc Tryz.prog w base spare held n T cs = some x) :
    ∃ l v, cs = [v] ∧ RdA cell k w v l ∧ l.length ≤ 140737488351232 ∧ ∀ o ∈ l, Q o := by
  rcases open_slice hT h with ⟨hcs, _⟩ | ⟨ad, len, cap, m, n, D, Pl, hcs, _, hl, hm, hmm, hx, hi⟩
  · exact ⟨[], _, hcs, RdA.nil w, Nat.zero_le _, fun o ho => by simp at ho⟩
  · have hlm : len ≤ m := by rw [hmm]; split <;> omega
    rw [hC] at hi
    rw [hx] at hw
    obtain ⟨hw1, hw2⟩ := hw.slice hT
    rw [List.length_map, List.length_range] at hw1
    have hlr : len ≤ 140737488351232 := Nat.le_trans (Nat.le_mul_of_pos_right len hB) hw1
    have each : ∀ i, i < len → ∃ o : α, Q o ∧ ∀ j u, (cell o)[j]? = some u → w.cell? ((ad.add (i * k)).add j) = some u := by
      intro i hil
      obtain ⟨cs', hc, ht⟩ := hi i (by omega)
      obtain ⟨_, hl', hat⟩ := World.cells?_some hc
      obtain ⟨o, rfl, hq⟩ := op _ _ _ (by omega) (hw2 (D i) (List.mem_map.2 ⟨i, List.mem_range.2 hil, rfl⟩)) ht
      refine ⟨o, hq, fun j u hu => ?_⟩
      have hj : j < k := by rw [← hlen o]; exact (List.getElem?_eq_some_iff.1 hu).1
      exact (hat j hj).trans hu
    obtain ⟨l, hll, hp⟩ := mn_list_of _ len each
    refine ⟨l, _, hcs, ⟨some ad, cap, by rw [hll], by omega, by unfold maxLen at hm; omega, (fun e => by cases e), ?_⟩, by omega, fun o ho => ?_⟩
    · by_cases h0 : len = 0
      · exact .inl (List.eq_nil_of_length_eq_zero (hll.trans h0))
      · right
        have h1 : 0 < l.length := by omega
        obtain ⟨b, off, spot⟩ := ad
        have hu : ∃ u, (cell l[0])[0]? = some u := ⟨_, List.getElem?_eq_getElem (by rw [hlen]; exact hk)⟩
        obtain ⟨u, hu⟩ := hu
        have hc := (hp 0 h1).2 0 u hu
        have hspot : spot = none := by simpa [Addr.add] using World.cell?_spot hc
        subst hspot
        rw [mn_add, mn_add] at hc
        refine ⟨b, off, rfl, World.block_lt_of_cell? _ _ hc, fun i hil j u hu => ?_⟩
        have := (hp i hil).2 j u hu
        rwa [mn_add, mn_add] at this
    · obtain ⟨i, hil, rfl⟩ := List.mem_iff_getElem.1 ho
      exact (hp i hil).1
theorem open_z {n : Nat} {cs : List Value} {x : DataW H × List MemPlace} {T : TypeId} (hT : Tryz.prog.underlying T = some (.slice 3)) (hw : LW Tryz.prog T x.1) (h : DataW.trod enc Tryz.prog w base spare held n T cs = some x) : ∃ l v, cs = [v] ∧ RdZ w v l ∧ l.length ≤ 140737488351232 := by
  obtain ⟨l, v, h1, h2, h3, _⟩ := open_rda (k := 1) (cell := cI1) (Q := fun _ => True) hT (by kernel_rfl) (of_decide_eq_true (by kernel_rfl)) hw (by decide) (fun o => rfl) (fun m cs y _ _ ht => by
    obtain ⟨z, e, _⟩ := DataW.trod_int Tryz.underlying3 ht
    exact ⟨z, e, trivial⟩) h
  exact ⟨l, v, h1, h2, h3⟩
set_option maxRecDepth 100000 in
theorem open_fi {n : Nat} {cs : List Value} {x : DataW H × List MemPlace} (hw : LW Tryz.prog 54 x.1) (h : DataW.trod enc Tryz.prog w base spare held n 54 cs = some x) : ∃ o : Fi, cs = o.cells ∧ o.szs := by
  obtain ⟨xs, n', _, hx, hl, hlen, hf⟩ := DataW.trod_struct Tryz.underlying54 h
  rw [hx] at hw
  have hl6 : xs.length = 6 := hlen
  obtain ⟨k, e0, _, w0⟩ := DataW.trod_int Tryz.underlying3 ((hf 0 _ rfl).trans (List.getElem?_eq_getElem (by omega)))
  obtain ⟨a, e1, _, w1⟩ := DataW.trod_int Tryz.underlying3 ((hf 1 _ rfl).trans (List.getElem?_eq_getElem (by omega)))
  obtain ⟨b, e2, _, w2⟩ := DataW.trod_int Tryz.underlying3 ((hf 2 _ rfl).trans (List.getElem?_eq_getElem (by omega)))
  obtain ⟨c, e3, _, w3⟩ := DataW.trod_int Tryz.underlying3 ((hf 3 _ rfl).trans (List.getElem?_eq_getElem (by omega)))
  have hpart : ∀ j (hj : j < xs.length), (xs.map (·.1))[j]? = some xs[j].1 := fun j hj => by rw [List.getElem?_map, List.getElem?_eq_getElem hj]; rfl
  obtain ⟨d, e4, x4, _⟩ := DataW.trod_string Tryz.underlying9 ((hf 4 _ rfl).trans (List.getElem?_eq_getElem (by omega)))
  obtain ⟨e, e5, x5, _⟩ := DataW.trod_string Tryz.underlying9 ((hf 5 _ rfl).trans (List.getElem?_eq_getElem (by omega)))
  have w4 : d.size ≤ 140737488351232 := by
    have := hw.field Tryz.underlying54 (j := 4) (t := 9) rfl (hpart 4 (by omega))
    rw [x4] at this
    exact this.str
  have w5 : e.size ≤ 140737488351232 := by
    have := hw.field Tryz.underlying54 (j := 5) (t := 9) rfl (hpart 5 (by omega))
    rw [x5] at this
    exact this.str
  have hC : Tryz.prog.cellsOf 54 = 6 := by kernel_rfl
  rw [hC] at hl
  have e0 := mn_take_one e0
  have e1 := mn_take_one e1
  have e2 := mn_take_one e2
  have e3 := mn_take_one e3
  have e4 := mn_take_one e4
  have e5 := mn_take_one e5
  match cs, hl, e0, e1, e2, e3, e4, e5 with
  | [v0, v1, v2, v3, v4, v5], _, e0, e1, e2, e3, e4, e5 =>
    simp at e0 e1 e2 e3 e4 e5
    subst e0 e1 e2 e3 e4 e5
    exact ⟨⟨k, a, b, c, d, e⟩, rfl, w4, w5⟩
set_option maxRecDepth 100000 in
theorem open_nt {n : Nat} {cs : List Value} {x : DataW H × List MemPlace} (hw : LW Tryz.prog 47 x.1) (h : DataW.trod enc Tryz.prog w base spare held n 47 cs = some x) : ∃ o : KV, cs = cNt o ∧ szN o := by
  obtain ⟨xs, n', _, hx, hl, hlen, hf⟩ := DataW.trod_struct Tryz.underlying47 h
  rw [hx] at hw
  have hl2 : xs.length = 2 := hlen
  have hpart : ∀ j (hj : j < xs.length), (xs.map (·.1))[j]? = some xs[j].1 := fun j hj => by rw [List.getElem?_map, List.getElem?_eq_getElem hj]; rfl
  obtain ⟨d, e4, x4, _⟩ := DataW.trod_string Tryz.underlying9 ((hf 0 _ rfl).trans (List.getElem?_eq_getElem (by omega)))
  obtain ⟨e, e5, x5, _⟩ := DataW.trod_string Tryz.underlying9 ((hf 1 _ rfl).trans (List.getElem?_eq_getElem (by omega)))
  have w4 : d.size ≤ 140737488351232 := by
    have := hw.field Tryz.underlying47 (j := 0) (t := 9) rfl (hpart 0 (by omega))
    rw [x4] at this
    exact this.str
  have w5 : e.size ≤ 140737488351232 := by
    have := hw.field Tryz.underlying47 (j := 1) (t := 9) rfl (hpart 1 (by omega))
    rw [x5] at this
    exact this.str
  have hC : Tryz.prog.cellsOf 47 = 2 := by kernel_rfl
  rw [hC] at hl
  have e4 := mn_take_one e4
  have e5 := mn_take_one e5
  match cs, hl, e4, e5 with
  | [v0, v1], _, e4, e5 =>
    simp at e4 e5
    subst e4 e5
    exact ⟨(d, e), rfl, w4, w5⟩
set_option maxRecDepth 100000 in
theorem open_edit {n : Nat} {cs : List Value} {x : DataW H × List MemPlace} (hw : LW Tryz.prog 40 x.1) (h : DataW.trod enc Tryz.prog w base spare held n 40 cs = some x) : ∃ o : EdR, cs = o.cells ∧ EdOk w o := by
  obtain ⟨xs, n', _, hx, hl, hlen, hf⟩ := DataW.trod_struct Tryz.underlying40 h
  rw [hx] at hw
  have hpart : ∀ j (hj : j < xs.length), (xs.map (·.1))[j]? = some xs[j].1 := fun j hj => by rw [List.getElem?_map, List.getElem?_eq_getElem hj]; rfl
  have hl5 : xs.length = 5 := hlen
  obtain ⟨la, va, e0, r0, m0, q0⟩ := open_rda (k := 6) (cell := Fi.cells) (Q := Fi.szs) Tryz.underlying25 (by kernel_rfl) (of_decide_eq_true (by kernel_rfl)) (hw.field Tryz.underlying40 (j := 0) rfl (hpart 0 (by omega))) (by decide) (fun o => rfl) (fun m cs y _ hy ht => open_fi hy ht) ((hf 0 _ rfl).trans (List.getElem?_eq_getElem (by omega)))
  obtain ⟨lr, vr, e1, r1, m1⟩ := open_z Tryz.underlying26 (hw.field Tryz.underlying40 (j := 1) rfl (hpart 1 (by omega))) ((hf 1 _ rfl).trans (List.getElem?_eq_getElem (by omega)))
  obtain ⟨lg, e2, _, w2⟩ := DataW.trod_int Tryz.underlying3 ((hf 2 _ rfl).trans (List.getElem?_eq_getElem (by omega)))
  obtain ⟨lf, vf, e3, r3, m3⟩ := open_z Tryz.underlying27 (hw.field Tryz.underlying40 (j := 3) rfl (hpart 3 (by omega))) ((hf 3 _ rfl).trans (List.getElem?_eq_getElem (by omega)))
  obtain ⟨ln, vn, e4, r4, m4, q4⟩ := open_rda (k := 2) (cell := cNt) (Q := szN) Tryz.underlying28 (by kernel_rfl) (of_decide_eq_true (by kernel_rfl)) (hw.field Tryz.underlying40 (j := 4) rfl (hpart 4 (by omega))) (by decide) (fun o => rfl) (fun m cs y _ hy ht => open_nt hy ht) ((hf 4 _ rfl).trans (List.getElem?_eq_getElem (by omega)))
  have hC : Tryz.prog.cellsOf 40 = 5 := by kernel_rfl
  rw [hC] at hl
  have e0 := mn_take_one e0
  have e1 := mn_take_one e1
  have e2 := mn_take_one e2
  have e3 := mn_take_one e3
  have e4 := mn_take_one e4
  match cs, hl, e0, e1, e2, e3, e4 with
  | [v0, v1, v2, v3, v4], _, e0, e1, e2, e3, e4 =>
    simp at e0 e1 e2 e3 e4
    subst e0 e1 e2 e3 e4
    exact ⟨⟨v0, v1, lg, v3, v4⟩, rfl, ⟨la, lr, lg, lf, ln⟩, ⟨v0, v1, v3, v4, rfl, r0, r1, r3, r4⟩, ⟨m0, q0⟩, m1, m3, m4, q4⟩
theorem open_edits {n : Nat} {a : Option Addr} {len cap : Nat} {x : DataW H × List MemPlace} (hw : LW Tryz.prog 45 x.1) (h : DataW.trod enc Tryz.prog w base spare held n 45 [.slice a len cap] = some x) : ∃ l, EdsIn w a len cap l ∧ len ≤ 140737488351232 := by
  obtain ⟨l, v, h1, h2, h3, h4⟩ := open_rda (k := 5) (cell := EdR.cells) (Q := EdOk w) Tryz.underlying45 (by kernel_rfl) (of_decide_eq_true (by kernel_rfl)) hw (by decide) (fun o => rfl) (fun m cs y _ hy ht => open_edit hy ht) h
  injection h1 with h1
  subst h1
  obtain ⟨a', c', e, _⟩ := h2.form
  injection e with e1 e2 e3
  exact ⟨l, ⟨by omega, h2, h4⟩, by omega⟩
set_option maxRecDepth 100000 in
/-- A pair by value. -/
theorem open_ntval {r : Reach} {b0 : Nat} {v : Value} {d : DataW H} {ps : List MemPlace} (hv : Value.okWide Tryz.prog w r b0 47 v) (hw : LW Tryz.prog 47 d) (h : DataW.Trod enc Tryz.prog w base spare held 47 v d ps) : ∃ p : KV, v = .agg #[.string p.1, .string p.2] ∧ szN p := by
  obtain ⟨cs, rfl, hsz⟩ := okWide_struct Tryz.underlying47 hv
  obtain ⟨fuel, hf⟩ := h
  obtain ⟨p, e, hw⟩ := open_nt hw hf
  refine ⟨p, ?_, hw⟩
  have hC : Tryz.prog.cellsOf 47 = 2 := by kernel_rfl
  rw [hC] at hsz
  obtain ⟨l⟩ := cs
  have hl : l.length = 2 := by simpa using hsz
  match l, hl, e with
  | [v0, v1], _, e =>
    simp [Value.cells, cNt] at e
    obtain ⟨rfl, rfl⟩ := e
    rfl
end
end Go.Proofs.YtjebpppjhkkebaaGreatDoor
