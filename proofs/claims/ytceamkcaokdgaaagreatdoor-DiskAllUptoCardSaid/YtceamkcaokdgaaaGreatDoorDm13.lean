import Derived.Test.YtceamkcaokdgaaaGreatDoorDm12
import Derived.Test.YtceamkcaokdgaaaGreatDoorDm5
import Derived.Test.YtceamkcaokdgaaaGreatDoorDm8
set_option linter.unusedSimpArgs false
set_option linter.unusedVariables false
/-
  DiskPlays: the program's disk, with power or without; two disks, two of the document and the book, apart (colours).
-/
namespace Go.Proofs.YtceamkcaokdgaaaGreatDoor
open Go.RowKit
variable {F G H : Nat → Prop} {w w' : World} {db mb rb : Nat} {lv : Value} {D R : Dk}

theorem FzAt.widen {F' : Nat → Prop} {z : Option Fz} {p : Value} (h : FzAt F w z p) (ht : Tn H w w') (hH : ∀ q, q < w.heap.size → H q → F q) (hF : ∀ q, F' q → F q ∨ w.heap.size ≤ q) : FzAt F' w' z p := by
  cases z with
  | none => exact h
  | some z =>
    obtain ⟨fb, v, hp, hf, hlt, c0, c1, c2, a, c, hx, hr⟩ := h
    have hg : ¬ H fb := fun hg => hf (hH fb hlt hg)
    refine ⟨fb, v, hp, fun h => (hF fb h).elim hf (fun h => by omega), Nat.lt_of_lt_of_le hlt ht.size, ht.cell c0 hg, ht.cell c1 hg, ht.cell c2 hg, a, c, hx, hr.imp id ?_⟩
    rintro ⟨b, off, ha, hfb, hbl, hc⟩
    exact ⟨b, off, ha, fun h => (hF b h).elim hfb (fun h => by omega), Nat.lt_of_lt_of_le hbl ht.size, fun i hi => ht.cell (hc i hi) (fun hg => hfb (hH b hbl hg))⟩
theorem DkAt.widen {F' : Nat → Prop} (h : DkAt F w db mb D) (ht : Tn H w w') (hH : ∀ q, q < w.heap.size → H q → F q ∧ ¬ two db mb q) (hF : ∀ q, F q → F' q) (hw : ∀ q, F' q → F q ∨ w.heap.size ≤ q) (hl : ∀ q, F' q → q < w'.heap.size) : DkAt F' w' db mb D := by
  have h1 := h.frame ht (fun q hq hh => ⟨(hH q hq hh).1, fun e => (hH q hq hh).2 (.inl e), fun e => (hH q hq hh).2 (.inr e)⟩)
  obtain ⟨p, hp, hz⟩ := h.c3
  have hd : ¬ H db := fun hh => (hH db h.ltd hh).2 (.inl rfl)
  exact ⟨h1.c0, h1.c1, h1.c2, ⟨p, ht.cell hp hd, hz.widen ht (fun q hq hh => (hH q hq hh).1) hw⟩, h1.c4, h1.m, h1.fz, h1.ok, h1.ne, hF _ h1.fd, hF _ h1.fm, hl⟩
theorem RfAt.widen {F' : Nat → Prop} (h : RfAt F w rb lv R) (ht : Tn H w w') (hH : ∀ q, q < w.heap.size → H q → F q ∧ ¬ RFoot rb lv q) (hw : ∀ q, F' q → F q ∨ w.heap.size ≤ q) : RfAt F' w' rb lv R :=
  ((h.more (F' := fun q => F q ∨ w.heap.size ≤ q) (fun _ hq => hq)).turn ht (fun q hq hh => ⟨.inl (hH q hq hh).1, (hH q hq hh).2⟩)).less hw

/-- What an act on the program's disk leaves. -/
def DStep (F : Nat → Prop) (w w' : World) (db mb : Nat) (D' : Dk) : Prop := DkAt F w' db mb D' ∧ Tn (two db mb) w w'
theorem DkAt.off (h : DkAt F w db mb D) (hon : D.on = false) : OnAt w (some ⟨db, 0, none⟩) false := .inr ⟨db, rfl, by rw [← hon]; exact h.c1⟩
theorem DStep.stay (h : DkAt F w db mb D) (hb : Below w.heap.size w w') : DStep F w w' db mb D := ⟨h.below hb, Tn.ofBelow hb⟩
theorem off_asked (hon : D.on = false) (l : List ByteArray) : D.asked l = 20 := by unfold Dk.asked; rw [hon]; rfl
theorem off_create (hon : D.on = false) (s : ByteArray) : D.create s = (20, D) := by unfold Dk.create; rw [off_asked hon]; rfl
theorem off_app (hon : D.on = false) (s t : ByteArray) : D.app s t = (20, D) := by unfold Dk.app; rw [off_asked hon]; rfl
theorem off_sync (hon : D.on = false) (s : ByteArray) : D.sync s = (20, D) := by unfold Dk.sync; rw [off_asked hon]; rfl
theorem off_remove (hon : D.on = false) (s : ByteArray) : D.remove s = (20, D) := by unfold Dk.remove; rw [off_asked hon]; rfl
theorem off_rename (hon : D.on = false) (s t : ByteArray) : D.rename s t = (20, D) := by unfold Dk.rename; rw [off_asked hon]; rfl
theorem off_read (hon : D.on = false) (s : ByteArray) : D.read s = (ByteArray.empty, 20) := by unfold Dk.read; rw [off_asked hon]; rfl
section
variable (h : DkAt F w db mb D) (hk : D.acts < 1000000)
include h hk
theorem d_create (s : ByteArray) (hs : s.size ≤ 140737488351232) : Calls Tryz.prog 15 #[.pointer (some ⟨db, 0, none⟩), .string s] w fun e w' => e = .returned (.int .i64 (D.create s).1) ∧ DStep F w w' db mb (D.create s).2 := by
  cases hon : D.on with
  | true => exact create_any h hon hk s hs
  | false => rw [off_create hon]; exact (create_off (h.off hon) s hs).mono fun _ _ ⟨he, hb⟩ => ⟨he, .stay h hb⟩
theorem d_sync (s : ByteArray) (hs : s.size ≤ 140737488351232) : Calls Tryz.prog 24 #[.pointer (some ⟨db, 0, none⟩), .string s] w fun e w' => e = .returned (.int .i64 (D.sync s).1) ∧ DStep F w w' db mb (D.sync s).2 := by
  cases hon : D.on with
  | true => exact sync_any h hon hk s hs
  | false => rw [off_sync hon]; exact (sync_off (h.off hon) s hs).mono fun _ _ ⟨he, hb⟩ => ⟨he, .stay h hb⟩
theorem d_remove (s : ByteArray) (hs : s.size ≤ 140737488351232) : Calls Tryz.prog 28 #[.pointer (some ⟨db, 0, none⟩), .string s] w fun e w' => e = .returned (.int .i64 (D.remove s).1) ∧ DStep F w w' db mb (D.remove s).2 := by
  cases hon : D.on with
  | true => exact remove_any h hon hk s hs
  | false => rw [off_remove hon]; exact (remove_off (h.off hon) s hs).mono fun _ _ ⟨he, hb⟩ => ⟨he, .stay h hb⟩
theorem d_app (s t : ByteArray) (hs : s.size ≤ 140737488351232) (ht : t.size ≤ 140737488351232) : Calls Tryz.prog 14 #[.pointer (some ⟨db, 0, none⟩), .string s, .string t] w fun e w' => e = .returned (.int .i64 (D.app s t).1) ∧ DStep F w w' db mb (D.app s t).2 := by
  cases hon : D.on with
  | true => exact append_any h hon hk s t hs ht
  | false => rw [off_app hon]; exact (append_off (h.off hon) s t hs ht).mono fun _ _ ⟨he, hb⟩ => ⟨he, .stay h hb⟩
theorem d_rename (s t : ByteArray) (hs : s.size ≤ 140737488351232) (ht : t.size ≤ 140737488351232) : Calls Tryz.prog 26 #[.pointer (some ⟨db, 0, none⟩), .string s, .string t] w fun e w' => e = .returned (.int .i64 (D.rename s t).1) ∧ DStep F w w' db mb (D.rename s t).2 := by
  cases hon : D.on with
  | true => exact rename_any h hon hk s t hs ht
  | false => rw [off_rename hon]; exact (rename_off (h.off hon) s t hs ht).mono fun _ _ ⟨he, hb⟩ => ⟨he, .stay h hb⟩
omit hk
theorem d_crash {v : Value} {cuts : List Int} (hr : RdC (two db mb) w v cuts) (hcl : cuts.length ≤ 1000000) (flip : Int) : Calls Tryz.prog 34 #[.pointer (some ⟨db, 0, none⟩), v, .int .i64 flip] w fun e w' => e = .returned (.tuple #[]) ∧ DStep F w w' db mb (D.crash cuts flip) := by
  cases hon : D.on with
  | true => exact crash_w h hon hr hcl flip
  | false =>
    have e : D.crash cuts flip = D := by unfold Dk.crash; rw [hon]; rfl
    rw [e]
    exact (crash_off (h.off hon) v flip).mono fun _ _ ⟨he, hb⟩ => ⟨he, .stay h (by rw [hb]; exact Below.refl _ _)⟩
theorem d_read (s : ByteArray) (hs : s.size ≤ 140737488351232) : Calls Tryz.prog 16 #[.pointer (some ⟨db, 0, none⟩), .string s] w fun e w' => e = .returned (.tuple #[.string (D.read s).1, .int .i64 (D.read s).2]) ∧ Below w.heap.size w w' := by
  cases hon : D.on with
  | true => exact read_any h hon s hs
  | false => rw [off_read hon]; exact read_off (h.off hon) s hs
theorem d_list (p : ByteArray) : Calls Tryz.prog 17 #[.pointer (some ⟨db, 0, none⟩), .string p] w fun e w' => ∃ s : Sl, e = .returned s.val ∧ Own kTexts w' w.heap.size s.val (D.list p) ∧ Below w.heap.size w w' := by
  cases hon : D.on with
  | true =>
    refine (list_any h hon p).mono ?_
    rintro e w' ⟨⟨v, rfl, ho⟩, hb⟩
    have ho2 : Own kTexts w' w.heap.size v (D.list p) := ho
    obtain ⟨a, c, rfl, _, _⟩ := row_form ho2
    exact ⟨⟨a, _, c⟩, rfl, ho2, hb⟩
  | false =>
    have e : D.list p = [] := by unfold Dk.list; rw [hon]; rfl
    rw [e]
    exact (list_off (h.off hon) p).mono fun _ w' ⟨he, hb⟩ => ⟨⟨none, 0, 0⟩, he, World.ownsRow_nil _ _ _ _, hb⟩
end

/-- A disk and the document's. -/
structure Pt where
  db : Nat
  mb : Nat
  rb : Nat
  lv : Value
  D : Dk
  R : Dk
/-- Blocks that are no fuse's. -/
def Fc (c : Nat → Nat) (w : World) (q : Nat) : Prop := q < w.heap.size ∧ c q ≠ 9
def recol (c : Nat → Nat) (w : World) (k : Nat) (q : Nat) : Nat := if q < w.heap.size then c q else k
variable {c c' : Nat → Nat} {a b k : Nat} {p : Pt}
theorem recol_old {q : Nat} (h : q < w.heap.size) : recol c w k q = c q := if_pos h
theorem recol_new {q : Nat} (h : w.heap.size ≤ q) : recol c w k q = k := if_neg (by omega)
theorem Fc.up (hs : w.heap.size ≤ w'.heap.size) (hc : ∀ q, q < w.heap.size → (c' q ≠ 9 ↔ c q ≠ 9)) : ∀ q, Fc c w q → Fc c' w' q := fun q hq => ⟨by have := hq.1; omega, (hc q hq.1).2 hq.2⟩
theorem Fc.dn (hc : ∀ q, q < w.heap.size → (c' q ≠ 9 ↔ c q ≠ 9)) : ∀ q, Fc c' w' q → Fc c w q ∨ w.heap.size ≤ q := fun q hq => by
  by_cases h : q < w.heap.size
  · exact .inl ⟨h, (hc q h).1 hq.2⟩
  · exact .inr (by omega)
theorem Fc.nine (hs : w.heap.size ≤ w'.heap.size) : Fc (recol c w 9) w' = Fc c w := by
  funext q
  apply propext
  unfold Fc recol
  by_cases h : q < w.heap.size
  · rw [if_pos h]
    exact ⟨fun e => ⟨h, e.2⟩, fun e => ⟨by omega, e.2⟩⟩
  · rw [if_neg h]
    exact ⟨fun e => absurd rfl e.2, fun e => absurd e.1 h⟩
/-- Turned colours: old blocks keep theirs, but for those that were kept (0) and are the book's (5) now. -/
def Keeps (c c' : Nat → Nat) (w : World) : Prop := ∀ q, q < w.heap.size → c' q = c q ∨ (c q = 0 ∧ c' q = 5)
theorem Keeps.nine (h : Keeps c c' w) : ∀ q, q < w.heap.size → (c' q ≠ 9 ↔ c q ≠ 9) := fun q hq => by
  rcases h q hq with e | ⟨e1, e2⟩
  · rw [e]
  · rw [e1, e2]; simp
theorem Keeps.one (h : Keeps c c' w) {q : Nat} (hq : q < w.heap.size) (hk : c q = k) (h0 : k ≠ 0) : c' q = k := by
  rcases h q hq with e | ⟨e1, e2⟩
  · rw [e, hk]
  · omega
theorem keeps_recol (c : Nat → Nat) (w : World) (k : Nat) : Keeps c (recol c w k) w := fun _ hq => .inl (recol_old hq)

structure PtAt (a b : Nat) (c : Nat → Nat) (w : World) (p : Pt) : Prop where
  d : DkAt (Fc c w) w p.db p.mb p.D
  r : RfAt (Fc c w) w p.rb p.lv p.R
  cd : ∀ q, two p.db p.mb q → c q = a
  cr : ∀ q, RFoot p.rb p.lv q → c q = b
theorem PtAt.dlt (h : PtAt a b c w p) : ∀ q, two p.db p.mb q → q < w.heap.size := fun q hq => (two_F h.d q hq).1
theorem PtAt.turn (h : PtAt a b c w p) (ht : Tn G w w') (hk : Keeps c c' w) (ha : a ≠ 0) (hb : b ≠ 0) (hG : ∀ q, q < w.heap.size → G q → c q ≠ 9 ∧ c q ≠ a ∧ c q ≠ b) : PtAt a b c' w' p :=
  ⟨h.d.widen ht (fun q hq hg => ⟨⟨hq, (hG q hq hg).1⟩, fun e => (hG q hq hg).2.1 (h.cd q e)⟩) (Fc.up ht.size hk.nine) (Fc.dn hk.nine) (fun _ hq => hq.1),
    h.r.widen ht (fun q hq hg => ⟨⟨hq, (hG q hq hg).1⟩, fun e => (hG q hq hg).2.2 (h.cr q e)⟩) (Fc.dn hk.nine),
    fun q hq => hk.one (h.dlt q hq) (h.cd q hq) ha, fun q hq => hk.one (h.r.lt q hq) (h.cr q hq) hb⟩
theorem PtAt.dstep (h : PtAt a b c w p) {D' : Dk} (hd : DStep (Fc c w) w w' p.db p.mb D') (ha : a ≠ 0 ∧ a ≠ 9) (hb : b ≠ 0) (hab : a ≠ b) : PtAt a b (recol c w 9) w' { p with D := D' } := by
  have hk := keeps_recol c w 9
  have ht := hd.2
  refine ⟨?_, h.r.widen ht (fun q hq hg => ⟨⟨hq, by rw [h.cd q hg]; exact ha.2⟩, fun e => hab ((h.cd q hg).symm.trans (h.cr q e))⟩) (Fc.dn hk.nine), fun q hq => hk.one (h.dlt q hq) (h.cd q hq) ha.1, fun q hq => hk.one (h.r.lt q hq) (h.cr q hq) hb⟩
  rw [Fc.nine ht.size]
  exact hd.1
theorem PtAt.rstep (h : PtAt a b c w p) {R' : Dk} {lv' : Value} (hr : RfAt (fun q => Fc c w q ∨ w.heap.size ≤ q) w' p.rb lv' R') (ht : Tn (RFoot p.rb p.lv) w w') (hn : ∀ q, lv'.ownBlock = some q → p.lv.ownBlock = some q ∨ w.heap.size ≤ q) {k : Nat} (hkb : k = b ∨ (k = 9 ∧ lv' = p.lv)) (ha : a ≠ 0) (hb : b ≠ 0 ∧ b ≠ 9) (hab : a ≠ b) : PtAt a b (recol c w k) w' { p with R := R', lv := lv' } := by
  have hk := keeps_recol c w k
  refine ⟨h.d.widen ht (fun q hq hg => ⟨⟨hq, by rw [h.cr q hg]; exact hb.2⟩, fun e => hab ((h.cd q e).symm.trans (h.cr q hg))⟩) (Fc.up ht.size hk.nine) (Fc.dn hk.nine) (fun _ hq => hq.1), hr.less (Fc.dn hk.nine), fun q hq => hk.one (h.dlt q hq) (h.cd q hq) ha, fun q hq => ?_⟩
  rcases hq with hq | hq
  · exact hk.one (h.r.lt q (.inl hq)) (h.cr q (.inl hq)) hb.1
  · rcases hkb with rfl | ⟨_, e⟩
    · rcases hn q hq with h1 | h1
      · exact hk.one (h.r.lt q (.inr h1)) (h.cr q (.inr h1)) hb.1
      · exact recol_new h1
    · subst e
      exact hk.one (h.r.lt q (.inr hq)) (h.cr q (.inr hq)) hb.1
def BFoot (bk : Nat) (v0 u0 : Value) (S0 T0 : List (Sl × List ByteArray)) (q : Nat) : Prop := q = bk ∨ footL v0 S0 q ∨ footL u0 T0 q
structure BkAt (c : Nat → Nat) (w : World) (bk : Nat) (v0 u0 : Value) (S0 T0 : List (Sl × List ByteArray)) : Prop where
  kt : Kd kTexts kTextsS w bk 0 (bk + 1) v0 u0 S0 T0
  an : ApN bk w
  cb : ∀ q, BFoot bk v0 u0 S0 T0 q → c q = 5
  n1 : S0.length ≤ 250
  l1 : ∀ i (hi : i < S0.length), S0[i].2.length ≤ 20000
variable {bk : Nat} {v0 u0 : Value} {S0 T0 : List (Sl × List ByteArray)}
theorem BkAt.lt (h : BkAt c w bk v0 u0 S0 T0) : ∀ q, BFoot bk v0 u0 S0 T0 q → q < w.heap.size := by
  rintro q (rfl | hq | hq)
  · exact World.block_lt_of_cell? w _ h.kt.c0
  · exact (h.kt.l.lt hq).2
  · exact (h.kt.lw.lt hq).2
theorem BkAt.turn (h : BkAt c w bk v0 u0 S0 T0) (ht : Tn G w w') (hk : Keeps c c' w) (hG : ∀ q, q < w.heap.size → G q → c q ≠ 5) : BkAt c' w' bk v0 u0 S0 T0 := by
  have hn : ∀ q, BFoot bk v0 u0 S0 T0 q → ¬ G q := fun q hq hg => hG q (h.lt q hq) hg (h.cb q hq)
  exact ⟨h.kt.tn ht (hn _ (.inl rfl)) (fun q hq => hn q (.inr hq)), fun o h1 h2 h3 => ht.cell (h.an o h1 h2 h3) (hn _ (.inl rfl)), fun q hq => hk.one (h.lt q hq) (h.cb q hq) (by decide), h.n1, h.l1⟩

structure PIn (w0 w : World) (c : Nat → Nat) (x y : Pt) (bk : Nat) (v0 u0 : Value) (S0 T0 : List (Sl × List ByteArray)) : Prop where
  px : PtAt 1 2 c w x
  py : PtAt 3 4 c w y
  b : BkAt c w bk v0 u0 S0 T0
  c9 : ∀ q, q < w0.heap.size → c q = 9
  bel : Below w0.heap.size w0 w
variable {w0 : World} {x y : Pt}
theorem PIn.base (h : PIn w0 w c x y bk v0 u0 S0 T0) {q : Nat} (hq : c q ≠ 9) : w0.heap.size ≤ q := Nat.le_of_not_lt (fun e => hq (h.c9 q e))
theorem PIn.c9' (h : PIn w0 w c x y bk v0 u0 S0 T0) (hk : Keeps c c' w) : ∀ q, q < w0.heap.size → c' q = 9 := fun q hq => hk.one (Nat.lt_of_lt_of_le hq h.bel.size) (h.c9 q hq) (by decide)
theorem PIn.bel' (h : PIn w0 w c x y bk v0 u0 S0 T0) (ht : Tn G w w') (hG : ∀ q, G q → c q ≠ 9) : Below w0.heap.size w0 w' := h.bel.trans (ht.below h.bel.size (fun q hq => h.base (hG q hq)))
theorem PIn.turn (h : PIn w0 w c x y bk v0 u0 S0 T0) (ht : Tn G w w') (hk : Keeps c c' w) (hG : ∀ q, G q → c q = 0) : PIn w0 w' c' x y bk v0 u0 S0 T0 :=
  ⟨h.px.turn ht hk (by decide) (by decide) (fun q _ hg => by rw [hG q hg]; decide), h.py.turn ht hk (by decide) (by decide) (fun q _ hg => by rw [hG q hg]; decide), h.b.turn ht hk (fun q _ hg => by rw [hG q hg]; decide), h.c9' hk, h.bel' ht (fun q hg => by rw [hG q hg]; decide)⟩
theorem PIn.dstep (h : PIn w0 w c x y bk v0 u0 S0 T0) {D' : Dk} (hd : DStep (Fc c w) w w' x.db x.mb D') : PIn w0 w' (recol c w 9) { x with D := D' } y bk v0 u0 S0 T0 := by
  have hk := keeps_recol c w 9
  exact ⟨h.px.dstep hd (by decide) (by decide) (by decide), h.py.turn hd.2 hk (by decide) (by decide) (fun q _ hg => by rw [h.px.cd q hg]; decide), h.b.turn hd.2 hk (fun q _ hg => by rw [h.px.cd q hg]; decide), h.c9' hk, h.bel' hd.2 (fun q hg => by rw [h.px.cd q hg]; decide)⟩
theorem PIn.rstep (h : PIn w0 w c x y bk v0 u0 S0 T0) {R' : Dk} {lv' : Value} (hr : RfAt (fun q => Fc c w q ∨ w.heap.size ≤ q) w' x.rb lv' R') (ht : Tn (RFoot x.rb x.lv) w w') (hn : ∀ q, lv'.ownBlock = some q → x.lv.ownBlock = some q ∨ w.heap.size ≤ q) : PIn w0 w' (recol c w 2) { x with R := R', lv := lv' } y bk v0 u0 S0 T0 := by
  have hk := keeps_recol c w 2
  exact ⟨h.px.rstep hr ht hn (.inl rfl) (by decide) (by decide) (by decide), h.py.turn ht hk (by decide) (by decide) (fun q _ hg => by rw [h.px.cr q hg]; decide), h.b.turn ht hk (fun q _ hg => by rw [h.px.cr q hg]; decide), h.c9' hk, h.bel' ht (fun q hg => by rw [h.px.cr q hg]; decide)⟩
end Go.Proofs.YtceamkcaokdgaaaGreatDoor
/-
  DiskPlays: the state of a play, and each call in it.
-/
namespace Go.Proofs.YtceamkcaokdgaaaGreatDoor
open Go.RowKit
variable {F G H K K' : Nat → Prop} {w w' w0 : World} {c c' : Nat → Nat} {bk : Nat} {v0 u0 : Value} {S0 T0 : List (Sl × List ByteArray)}

/-- What is told of a disk and the document's. -/
structure PV where
  db : Nat
  rb : Nat
  D : Dk
  R : Dk
def Pt.v (p : Pt) : PV := ⟨p.db, p.rb, p.D, p.R⟩
theorem PtAt.rstep9 {a b : Nat} {p : Pt} (h : PtAt a b c w p) {R' : Dk} (hr : RfAt (Fc c w) w' p.rb p.lv R') (ht : Tn (RFoot p.rb p.lv) w w') (ha : a ≠ 0) (hb : b ≠ 0 ∧ b ≠ 9) (hab : a ≠ b) : PtAt a b (recol c w 9) w' { p with R := R' } := by
  have hk := keeps_recol c w 9
  refine ⟨h.d.widen ht (fun q hq hg => ⟨⟨hq, by rw [h.cr q hg]; exact hb.2⟩, fun e => hab ((h.cd q e).symm.trans (h.cr q hg))⟩) (Fc.up ht.size hk.nine) (Fc.dn hk.nine) (fun _ hq => hq.1), ?_, fun q hq => hk.one (h.dlt q hq) (h.cd q hq) ha, fun q hq => hk.one (h.r.lt q hq) (h.cr q hq) hb.1⟩
  rw [Fc.nine ht.size]
  exact hr
theorem PIn.rstep9 {x y : Pt} (h : PIn w0 w c x y bk v0 u0 S0 T0) {R' : Dk} (hr : RfAt (Fc c w) w' x.rb x.lv R') (ht : Tn (RFoot x.rb x.lv) w w') : PIn w0 w' (recol c w 9) { x with R := R' } y bk v0 u0 S0 T0 := by
  have hk := keeps_recol c w 9
  exact ⟨h.px.rstep9 hr ht (by decide) (by decide) (by decide), h.py.turn ht hk (by decide) (by decide) (fun q _ hg => by rw [h.px.cr q hg]; decide), h.b.turn ht hk (fun q _ hg => by rw [h.px.cr q hg]; decide), h.c9' hk, h.bel' ht (fun q hg => by rw [h.px.cr q hg]; decide)⟩
/-- The two change places. -/
def swpN (k : Nat) : Nat := if k = 1 then 3 else if k = 3 then 1 else if k = 2 then 4 else if k = 4 then 2 else k
theorem swp_nine (k : Nat) : swpN k ≠ 9 ↔ k ≠ 9 := by
  unfold swpN
  repeat' split
  all_goals omega
theorem swp_zero (k : Nat) : swpN k = 0 ↔ k = 0 := by
  unfold swpN
  repeat' split
  all_goals omega
theorem Fc.swp : Fc (fun q => swpN (c q)) w = Fc c w := by
  funext q
  apply propext
  unfold Fc
  rw [swp_nine]
theorem PtAt.swp {a b : Nat} {p : Pt} (h : PtAt a b c w p) : PtAt (swpN a) (swpN b) (fun q => swpN (c q)) w p :=
  ⟨by rw [Fc.swp]; exact h.d, by rw [Fc.swp]; exact h.r, fun q hq => by rw [h.cd q hq], fun q hq => by rw [h.cr q hq]⟩
theorem PIn.swp {x y : Pt} (h : PIn w0 w c x y bk v0 u0 S0 T0) : PIn w0 w (fun q => swpN (c q)) y x bk v0 u0 S0 T0 :=
  ⟨h.py.swp, h.px.swp, ⟨h.b.kt, h.b.an, fun q hq => by show swpN (c q) = 5; rw [h.b.cb q hq]; rfl, h.b.n1, h.b.l1⟩, fun q hq => by show swpN (c q) = 9; rw [h.c9 q hq]; rfl, h.bel⟩

/-- The state: x and y, the book; the blocks of K are kept. -/
def PSt (K : Nat → Prop) (w0 w : World) (x y : PV) (bk : Nat) : Prop := ∃ c p r v0 u0 S0 T0, PIn w0 w c p r bk v0 u0 S0 T0 ∧ p.v = x ∧ r.v = y ∧ ∀ q, K q → q < w.heap.size ∧ c q = 0
variable {x y : PV}
section
variable (h : PSt K w0 w x y bk)
include h
theorem PSt.swp : PSt K w0 w y x bk := by
  obtain ⟨c, p, r, v0, u0, S0, T0, h, e1, e2, hK⟩ := h
  exact ⟨_, r, p, v0, u0, S0, T0, h.swp, e2, e1, fun q hq => ⟨(hK q hq).1, (swp_zero _).2 (hK q hq).2⟩⟩
theorem PSt.bel : Below w0.heap.size w0 w := by
  obtain ⟨c, p, r, v0, u0, S0, T0, h, e1, e2, hK⟩ := h
  exact h.bel
theorem PSt.klt : ∀ q, K q → q < w.heap.size := by
  obtain ⟨c, p, r, v0, u0, S0, T0, h, e1, e2, hK⟩ := h
  exact fun q hq => (hK q hq).1
theorem PSt.weak (hw : ∀ q, K' q → K q) : PSt K' w0 w x y bk := by
  obtain ⟨c, p, r, v0, u0, S0, T0, h, e1, e2, hK⟩ := h
  exact ⟨c, p, r, v0, u0, S0, T0, h, e1, e2, fun q hq => hK q (hw q hq)⟩
/-- New blocks are kept as well. -/
theorem PSt.more (hb : Below w.heap.size w w') : PSt (fun q => K q ∨ (w.heap.size ≤ q ∧ q < w'.heap.size)) w0 w' x y bk := by
  obtain ⟨c, p, r, v0, u0, S0, T0, h, e1, e2, hK⟩ := h
  refine ⟨recol c w 0, p, r, v0, u0, S0, T0, h.turn (G := fun _ => False) (Tn.ofBelow hb) (keeps_recol c w 0) (fun _ e => e.elim), e1, e2, fun q hq => ?_⟩
  rcases hq with hq | hq
  · exact ⟨Nat.lt_of_lt_of_le (hK q hq).1 hb.size, by rw [recol_old (hK q hq).1]; exact (hK q hq).2⟩
  · exact ⟨hq.2, recol_new hq.1⟩
theorem PSt.below (hb : Below w.heap.size w w') : PSt K w0 w' x y bk := (PSt.more h hb).weak (fun _ hq => .inl hq)
/-- What is kept turns. -/
theorem PSt.kept (ht : Tn K w w') : PSt K w0 w' x y bk := by
  obtain ⟨c, p, r, v0, u0, S0, T0, h, e1, e2, hK⟩ := h
  refine ⟨recol c w 0, p, r, v0, u0, S0, T0, h.turn ht (keeps_recol c w 0) (fun q hq => (hK q hq).2), e1, e2, fun q hq => ⟨Nat.lt_of_lt_of_le (hK q hq).1 ht.size, by rw [recol_old (hK q hq).1]; exact (hK q hq).2⟩⟩
theorem PSt.d : ∃ mb F, DkAt F w x.db mb x.D ∧ (∀ w' D', DStep F w w' x.db mb D' → PSt K w0 w' { x with D := D' } y bk ∧ Tn (fun q => ¬ K q) w w') ∧ (∀ q, K q → ¬ two x.db mb q) ∧ ∀ q, q < w0.heap.size → ¬ two x.db mb q := by
  obtain ⟨c, p, r, v0, u0, S0, T0, h, rfl, e2, hK⟩ := h
  have hn : ∀ q, K q → ¬ two p.db p.mb q := fun q hq e => by have := (hK q hq).2; rw [h.px.cd q e] at this; cases this
  refine ⟨p.mb, Fc c w, h.px.d, fun w' D' hd => ⟨⟨_, _, r, v0, u0, S0, T0, h.dstep hd, rfl, e2, fun q hq => ⟨Nat.lt_of_lt_of_le (hK q hq).1 hd.2.size, by rw [recol_old (hK q hq).1]; exact (hK q hq).2⟩⟩, hd.2.mono (fun q hq hk => hn q hk hq)⟩, hn, fun q hq e => ?_⟩
  have := h.c9 q hq
  rw [h.px.cd q e] at this
  cases this
theorem PSt.r : ∃ lv F, RfAt F w x.rb lv x.R ∧ (∀ q, RFoot x.rb lv q → F q) ∧ (∀ q, F q → q < w.heap.size) ∧ (∀ w' R', RStep (fun q => F q ∨ w.heap.size ≤ q) w w' x.rb lv R' → PSt K w0 w' { x with R := R' } y bk ∧ Tn (fun q => ¬ K q) w w') ∧ (∀ w' R', RfAt F w' x.rb lv R' → Tn (RFoot x.rb lv) w w' → PSt K w0 w' { x with R := R' } y bk ∧ Tn (fun q => ¬ K q) w w') ∧ ∀ q, q < w0.heap.size → ¬ RFoot x.rb lv q := by
  obtain ⟨c, p, r, v0, u0, S0, T0, h, rfl, e2, hK⟩ := h
  have hn : ∀ q, K q → ¬ RFoot p.rb p.lv q := fun q hq e => by have := (hK q hq).2; rw [h.px.cr q e] at this; cases this
  refine ⟨p.lv, Fc c w, h.px.r, fun q hq => ⟨h.px.r.lt q hq, by rw [h.px.cr q hq]; decide⟩, fun q hq => hq.1, ?_, ?_, fun q hq e => ?_⟩
  · rintro w' R' ⟨lv', hr, ht, hf⟩
    exact ⟨⟨_, _, r, v0, u0, S0, T0, h.rstep hr ht hf, rfl, e2, fun q hq => ⟨Nat.lt_of_lt_of_le (hK q hq).1 ht.size, by rw [recol_old (hK q hq).1]; exact (hK q hq).2⟩⟩, ht.mono (fun q hq hk => hn q hk hq)⟩
  · rintro w' R' hr ht
    exact ⟨⟨_, _, r, v0, u0, S0, T0, h.rstep9 hr ht, rfl, e2, fun q hq => ⟨Nat.lt_of_lt_of_le (hK q hq).1 ht.size, by rw [recol_old (hK q hq).1]; exact (hK q hq).2⟩⟩, ht.mono (fun q hq hk => hn q hk hq)⟩
  · have := h.c9 q hq
    rw [h.px.cr q e] at this
    cases this
end
section
variable (h : PSt K w0 w x y bk)
include h
/-- What a call leaves. -/
def PGo (K : Nat → Prop) (w0 w w' : World) (x y : PV) (bk : Nat) : Prop := PSt K w0 w' x y bk ∧ Tn (fun q => ¬ K q) w w'
theorem PSt.go (hb : Below w.heap.size w w') : PGo K w0 w w' x y bk := ⟨h.below hb, Tn.ofBelow hb⟩
theorem pst_create (hk : x.D.acts < 1000000) (s : ByteArray) (hs : s.size ≤ 140737488351232) : Calls Tryz.prog 15 #[.pointer (some ⟨x.db, 0, none⟩), .string s] w fun e w' => e = .returned (.int .i64 (x.D.create s).1) ∧ PGo K w0 w w' { x with D := (x.D.create s).2 } y bk := by
  obtain ⟨mb, F, hd, hgo, hn, hn0⟩ := h.d
  exact (d_create hd hk s hs).mono fun _ w' ⟨he, hs⟩ => ⟨he, hgo w' _ hs⟩
theorem pst_rcreate (hk : x.R.acts < 1000000) (s : ByteArray) (hs : s.size ≤ 140737488351232) : Calls Tryz.prog 22 #[.pointer (some ⟨x.rb, 0, none⟩), .string s] w fun e w' => e = .returned (.int .i64 (x.R.create s).1) ∧ PGo K w0 w w' { x with R := (x.R.create s).2 } y bk := by
  obtain ⟨lv, F, hd, hF, hlt, hgo, hgo9, hn0⟩ := h.r
  have hd1 := hd.more (F' := fun q => F q ∨ w.heap.size ≤ q) (fun _ hq => hq)
  have hF1 : ∀ q, RFoot x.rb lv q → F q ∨ w.heap.size ≤ q := fun q hq => .inl (hF q hq)
  exact (rcreate_any hd1 hF1 hk s hs).mono fun _ w' ⟨he, hs⟩ => ⟨he, hgo w' _ hs⟩
theorem pst_sync (hk : x.D.acts < 1000000) (s : ByteArray) (hs : s.size ≤ 140737488351232) : Calls Tryz.prog 24 #[.pointer (some ⟨x.db, 0, none⟩), .string s] w fun e w' => e = .returned (.int .i64 (x.D.sync s).1) ∧ PGo K w0 w w' { x with D := (x.D.sync s).2 } y bk := by
  obtain ⟨mb, F, hd, hgo, hn, hn0⟩ := h.d
  exact (d_sync hd hk s hs).mono fun _ w' ⟨he, hs⟩ => ⟨he, hgo w' _ hs⟩
theorem pst_rsync (hk : x.R.acts < 1000000) (s : ByteArray) (hs : s.size ≤ 140737488351232) : Calls Tryz.prog 25 #[.pointer (some ⟨x.rb, 0, none⟩), .string s] w fun e w' => e = .returned (.int .i64 (x.R.sync s).1) ∧ PGo K w0 w w' { x with R := (x.R.sync s).2 } y bk := by
  obtain ⟨lv, F, hd, hF, hlt, hgo, hgo9, hn0⟩ := h.r
  have hd1 := hd.more (F' := fun q => F q ∨ w.heap.size ≤ q) (fun _ hq => hq)
  have hF1 : ∀ q, RFoot x.rb lv q → F q ∨ w.heap.size ≤ q := fun q hq => .inl (hF q hq)
  exact (rsync_any hd1 hF1 hk s hs).mono fun _ w' ⟨he, hs⟩ => ⟨he, hgo w' _ hs⟩
theorem pst_remove (hk : x.D.acts < 1000000) (s : ByteArray) (hs : s.size ≤ 140737488351232) : Calls Tryz.prog 28 #[.pointer (some ⟨x.db, 0, none⟩), .string s] w fun e w' => e = .returned (.int .i64 (x.D.remove s).1) ∧ PGo K w0 w w' { x with D := (x.D.remove s).2 } y bk := by
  obtain ⟨mb, F, hd, hgo, hn, hn0⟩ := h.d
  exact (d_remove hd hk s hs).mono fun _ w' ⟨he, hs⟩ => ⟨he, hgo w' _ hs⟩
theorem pst_rremove (hk : x.R.acts < 1000000) (s : ByteArray) (hs : s.size ≤ 140737488351232) : Calls Tryz.prog 29 #[.pointer (some ⟨x.rb, 0, none⟩), .string s] w fun e w' => e = .returned (.int .i64 (x.R.remove s).1) ∧ PGo K w0 w w' { x with R := (x.R.remove s).2 } y bk := by
  obtain ⟨lv, F, hd, hF, hlt, hgo, hgo9, hn0⟩ := h.r
  have hd1 := hd.more (F' := fun q => F q ∨ w.heap.size ≤ q) (fun _ hq => hq)
  have hF1 : ∀ q, RFoot x.rb lv q → F q ∨ w.heap.size ≤ q := fun q hq => .inl (hF q hq)
  exact (rremove_any hd1 hF1 hk s hs).mono fun _ w' ⟨he, hs⟩ => ⟨he, hgo w' _ hs⟩
theorem pst_app (hk : x.D.acts < 1000000) (s t : ByteArray) (hs : s.size ≤ 140737488351232) (ht : t.size ≤ 140737488351232) : Calls Tryz.prog 14 #[.pointer (some ⟨x.db, 0, none⟩), .string s, .string t] w fun e w' => e = .returned (.int .i64 (x.D.app s t).1) ∧ PGo K w0 w w' { x with D := (x.D.app s t).2 } y bk := by
  obtain ⟨mb, F, hd, hgo, hn, hn0⟩ := h.d
  exact (d_app hd hk s t hs ht).mono fun _ w' ⟨he, hs⟩ => ⟨he, hgo w' _ hs⟩
theorem pst_rapp (hk : x.R.acts < 1000000) (s t : ByteArray) (hs : s.size ≤ 140737488351232) (ht : t.size ≤ 140737488351232) : Calls Tryz.prog 23 #[.pointer (some ⟨x.rb, 0, none⟩), .string s, .string t] w fun e w' => e = .returned (.int .i64 (x.R.app s t).1) ∧ PGo K w0 w w' { x with R := (x.R.app s t).2 } y bk := by
  obtain ⟨lv, F, hd, hF, hlt, hgo, hgo9, hn0⟩ := h.r
  have hd1 := hd.more (F' := fun q => F q ∨ w.heap.size ≤ q) (fun _ hq => hq)
  have hF1 : ∀ q, RFoot x.rb lv q → F q ∨ w.heap.size ≤ q := fun q hq => .inl (hF q hq)
  exact (rappend_any hd1 hF1 hk s hs t ht).mono fun _ w' ⟨he, hs⟩ => ⟨he, hgo w' _ hs⟩
theorem pst_rename (hk : x.D.acts < 1000000) (s t : ByteArray) (hs : s.size ≤ 140737488351232) (ht : t.size ≤ 140737488351232) : Calls Tryz.prog 26 #[.pointer (some ⟨x.db, 0, none⟩), .string s, .string t] w fun e w' => e = .returned (.int .i64 (x.D.rename s t).1) ∧ PGo K w0 w w' { x with D := (x.D.rename s t).2 } y bk := by
  obtain ⟨mb, F, hd, hgo, hn, hn0⟩ := h.d
  exact (d_rename hd hk s t hs ht).mono fun _ w' ⟨he, hs⟩ => ⟨he, hgo w' _ hs⟩
theorem pst_rrename (hk : x.R.acts < 1000000) (s t : ByteArray) (hs : s.size ≤ 140737488351232) (ht : t.size ≤ 140737488351232) : Calls Tryz.prog 27 #[.pointer (some ⟨x.rb, 0, none⟩), .string s, .string t] w fun e w' => e = .returned (.int .i64 (x.R.renameD s t).1) ∧ PGo K w0 w w' { x with R := (x.R.renameD s t).2 } y bk := by
  obtain ⟨lv, F, hd, hF, hlt, hgo, hgo9, hn0⟩ := h.r
  have hd1 := hd.more (F' := fun q => F q ∨ w.heap.size ≤ q) (fun _ hq => hq)
  have hF1 : ∀ q, RFoot x.rb lv q → F q ∨ w.heap.size ≤ q := fun q hq => .inl (hF q hq)
  exact (rrename_any hd1 hF1 hk s t hs ht).mono fun _ w' ⟨he, hs⟩ => ⟨he, hgo w' _ hs⟩
theorem pst_crash {v : Value} {cuts : List Int} (hr : RdC (fun q => ¬ (K q ∨ q < w0.heap.size)) w v cuts) (hcl : cuts.length ≤ 1000000) (flip : Int) : Calls Tryz.prog 34 #[.pointer (some ⟨x.db, 0, none⟩), v, .int .i64 flip] w fun e w' => e = .returned (.tuple #[]) ∧ PGo K w0 w w' { x with D := x.D.crash cuts flip } y bk := by
  obtain ⟨mb, F, hd, hgo, hn, hn0⟩ := h.d
  exact (d_crash hd (hr.mono (fun q hq e => e.elim (fun e => hn q e hq) (fun e => hn0 q e hq))) hcl flip).mono fun _ w' ⟨he, hs⟩ => ⟨he, hgo w' _ hs⟩
theorem pst_rcrash {v : Value} {cuts : List Int} (hr : RdC (fun q => ¬ q < w0.heap.size) w v cuts) (hcl : cuts.length ≤ 1000000) (flip : Int) : Calls Tryz.prog 35 #[.pointer (some ⟨x.rb, 0, none⟩), v, .int .i64 flip] w fun e w' => e = .returned (.tuple #[]) ∧ PGo K w0 w w' { x with R := x.R.crash cuts flip } y bk := by
  obtain ⟨lv, F, hd, hF, hlt, hgo, hgo9, hn0⟩ := h.r
  exact (rcrash_any hd hF (hr.mono (fun q hq e => hn0 q e hq)) hcl flip).mono fun _ w' ⟨he, hs, ht⟩ => ⟨he, hgo9 w' _ hs ht⟩
theorem pst_restore : Calls Tryz.prog 36 #[.pointer (some ⟨x.db, 0, none⟩)] w fun e w' => e = .returned (.tuple #[]) ∧ PGo K w0 w w' { x with D := x.D.restore } y bk := by
  obtain ⟨mb, F, hd, hgo, hn, hn0⟩ := h.d
  exact (restore_any hd).mono fun _ w' ⟨he, hs⟩ => ⟨he, hgo w' _ hs⟩
theorem pst_rcells : w.cell? ⟨x.rb, 1, none⟩ = some (.bool (!x.R.on)) ∧ w.cell? ⟨x.rb, 6, none⟩ = some (.int .i64 (x.R.acts : Int)) ∧ w.frozen? ⟨x.rb, 1, none⟩ = false ∧ x.rb < w.heap.size := by
  obtain ⟨lv, F, hd, hF, hlt, hgo, hgo9, hn0⟩ := h.r
  exact ⟨hd.c1, hd.c6, hd.fz 1, hd.ltb⟩
theorem pst_rrestore : PGo K w0 w (w.setCell ⟨x.rb, 1, none⟩ (.bool false)) { x with R := x.R.restore } y bk := by
  obtain ⟨lv, F, hd, hF, hlt, hgo, hgo9, hn0⟩ := h.r
  exact hgo9 _ _ (hd.set1 (hF _ (.inl rfl)) true) (Tn.setCell _ _ _ (.inl rfl))
theorem pst_quota (n : Int) (hn : n ≤ 9223372036854775807) : Calls Tryz.prog 37 #[.pointer (some ⟨x.db, 0, none⟩), .int .i64 n] w fun e w' => e = .returned (.tuple #[]) ∧ PGo K w0 w w' { x with D := x.D.setQuota n } y bk := by
  obtain ⟨mb, F, hd, hgo, _, hn0⟩ := h.d
  exact (quota_any hd n hn).mono fun _ w' ⟨he, hs⟩ => ⟨he, hgo w' _ hs⟩
theorem pst_rquota (n : Int) (hn : n ≤ 9223372036854775807) : Calls Tryz.prog 38 #[.pointer (some ⟨x.rb, 0, none⟩), .int .i64 n] w fun e w' => e = .returned (.tuple #[]) ∧ PGo K w0 w w' { x with R := x.R.setQuota n } y bk := by
  obtain ⟨lv, F, hd, hF, hlt, hgo, hgo9, hn0⟩ := h.r
  exact (rquota_any hd (hF _ (.inl rfl)) n hn).mono fun _ w' ⟨he, hs, ht⟩ => ⟨he, hgo9 w' _ hs ht⟩
theorem pst_fuse (n : Int) (hn : n ≤ 9223372036854775807) {v : Value} {cuts : List Int} (hr : RdC (fun q => ¬ (K q ∨ q < w0.heap.size)) w v cuts) (hcl : cuts.length ≤ 1000000) (flip : Int) : Calls Tryz.prog 39 #[.pointer (some ⟨x.db, 0, none⟩), .int .i64 n, v, .int .i64 flip] w fun e w' => e = .returned (.tuple #[]) ∧ PGo K w0 w w' { x with D := x.D.setFuse n cuts flip } y bk := by
  obtain ⟨mb, F, hd, hgo, hn1, hn0⟩ := h.d
  exact (fuse_any hd n hn (hr.mono (fun q hq e => e.elim (fun e => hn1 q e hq) (fun e => hn0 q e hq))) hcl flip).mono fun _ w' ⟨he, hs⟩ => ⟨he, hgo w' _ hs⟩
theorem pst_rfuse (n : Int) (hn : n ≤ 9223372036854775807) {a : Option Addr} {ca : Nat} {cuts : List Int} (hsrc : Src eI w (.slice a cuts.length ca) cuts) (hcl : cuts.length ≤ 1000000) (flip : Int) : Calls Tryz.prog 40 #[.pointer (some ⟨x.rb, 0, none⟩), .int .i64 n, .slice a cuts.length ca, .int .i64 flip] w fun e w' => e = .returned (.tuple #[]) ∧ PGo K w0 w w' { x with R := x.R.setFuse n cuts flip } y bk := by
  obtain ⟨lv, F, hd, hF, hlt, hgo, hgo9, hn0⟩ := h.r
  exact (rfuse_any hd (hF _ (.inl rfl)) hlt n hn hsrc hcl flip).mono fun _ w' ⟨he, hs, ht⟩ => ⟨he, hgo9 w' _ hs ht⟩
theorem pst_read (s : ByteArray) (hs : s.size ≤ 140737488351232) : Calls Tryz.prog 16 #[.pointer (some ⟨x.db, 0, none⟩), .string s] w fun e w' => e = .returned (.tuple #[.string (x.D.read s).1, .int .i64 (x.D.read s).2]) ∧ Below w.heap.size w w' := by
  obtain ⟨mb, F, hd, hgo, _, hn0⟩ := h.d
  exact d_read hd s hs
theorem pst_rread (s : ByteArray) (hs : s.size ≤ 140737488351232) : Calls Tryz.prog 30 #[.pointer (some ⟨x.rb, 0, none⟩), .string s] w fun e w' => e = .returned (.tuple #[.string (x.R.read s).1, .int .i64 (x.R.read s).2]) ∧ w = w' := by
  obtain ⟨lv, F, hd, hF, hlt, hgo, hgo9, hn0⟩ := h.r
  exact rread_any hd s hs
theorem pst_list (p : ByteArray) : Calls Tryz.prog 17 #[.pointer (some ⟨x.db, 0, none⟩), .string p] w fun e w' => ∃ s : Sl, e = .returned s.val ∧ Own kTexts w' w.heap.size s.val (x.D.list p) ∧ Below w.heap.size w w' := by
  obtain ⟨mb, F, hd, hgo, _, hn0⟩ := h.d
  exact d_list hd p
theorem pst_rlist (p : ByteArray) : Calls Tryz.prog 33 #[.pointer (some ⟨x.rb, 0, none⟩), .string p] w fun e w' => ∃ a c, e = .returned (.slice a (x.R.list p).length c) ∧ Own kTexts w' w.heap.size (.slice a (x.R.list p).length c) (x.R.list p) ∧ Below w.heap.size w w' := by
  obtain ⟨lv, F, hd, hF, hlt, hgo, hgo9, hn0⟩ := h.r
  exact rlist_any hd p
theorem pst_used : Calls Tryz.prog 19 #[.pointer (some ⟨x.db, 0, none⟩)] w fun e w' => e = .returned (.int .i64 (used x.D.m : Int)) ∧ Below w.heap.size w w' := by
  obtain ⟨mb, F, hd, hgo, _, hn0⟩ := h.d
  exact used_any hd
theorem pst_rused : Calls Tryz.prog 42 #[.pointer (some ⟨x.rb, 0, none⟩)] w fun e w' => e = .returned (.int .i64 (used x.R.m : Int)) ∧ w = w' := by
  obtain ⟨lv, F, hd, hF, hlt, hgo, hgo9, hn0⟩ := h.r
  exact rused_any hd
theorem pst_acts : Calls Tryz.prog 18 #[.pointer (some ⟨x.db, 0, none⟩)] w fun e w' => e = .returned (.int .i64 (x.D.acts : Int)) ∧ w' = w := by
  obtain ⟨mb, F, hd, hgo, _, hn0⟩ := h.d
  exact acts_any hd
theorem pst_on : Calls Tryz.prog 20 #[.pointer (some ⟨x.db, 0, none⟩)] w fun e w' => e = .returned (.bool x.D.on) ∧ w = w' := by
  obtain ⟨mb, F, hd, hgo, _, hn0⟩ := h.d
  exact on_any hd.c1
theorem pst_files : x.D.m.length ≤ 20000 := by
  obtain ⟨mb, F, hd, hgo, _, hn0⟩ := h.d
  exact hd.ok.few
theorem pst_names : ∀ q ∈ x.D.m, q.1.size ≤ 64 := by
  obtain ⟨mb, F, hd, hgo, _, hn0⟩ := h.d
  exact hd.ok.nam
end
theorem list_le (D : Dk) (p : ByteArray) : (D.list p).length ≤ D.m.length := by
  unfold Dk.list
  split
  · refine Nat.le_trans (List.length_filter_le _ _) ?_
    unfold Dk.names
    rw [(sortB_perm _).length_eq, List.length_map]
    exact Nat.le_refl _
  · exact Nat.zero_le _
theorem list_in {D : Dk} {p s : ByteArray} (h : s ∈ D.list p) : ∃ f, (s, f) ∈ D.m := by
  unfold Dk.list at h
  split at h
  · have h1 := (List.mem_filter.1 h).1
    unfold Dk.names at h1
    have h2 := (sortB_perm _).mem_iff.1 h1
    obtain ⟨⟨a, f⟩, hm, rfl⟩ := List.mem_map.1 h2
    exact ⟨f, hm⟩
  · cases h
end Go.Proofs.YtceamkcaokdgaaaGreatDoor
/-
  DiskPlays: the book in the state of a play; twins; the start.
-/
namespace Go.Proofs.YtceamkcaokdgaaaGreatDoor
open Go.RowKit
variable {F G H K K' : Nat → Prop} {w w' w0 : World} {c c' : Nat → Nat} {bk : Nat} {v0 u0 v0' u0' : Value} {S0 T0 : List (Sl × List ByteArray)} {x y : PV}

def bcol (c : Nat → Nat) (w : World) (s : Sl) (q : Nat) : Nat := if q < w.heap.size then (if s.val.ownBlock = some q then 5 else c q) else 5
theorem PIn.texts {x y : Pt} {s s2 : Sl} {l : List ByteArray} (h : PIn w0 w c x y bk v0 u0 S0 T0) (ha : Added kTexts kTextsS w w' bk 0 (bk + 1) v0 u0 S0 T0 s l v0' u0' s2) (hx : ∀ q, s.val.ownBlock = some q → c q = 0) (hn : S0.length < 250) (hl : l.length ≤ 20000) :
    PIn w0 w' (bcol c w s) x y bk v0' u0' (S0 ++ [(s, l)]) (T0 ++ [(s2, l)]) := by
  have ht := ha.tn
  have hk : Keeps c (bcol c w s) w := fun q hq => by
    unfold bcol
    rw [if_pos hq]
    split
    · exact .inr ⟨hx q (by assumption), rfl⟩
    · exact .inl rfl
  have h5 : ∀ q, BFoot bk v0 u0 S0 T0 q → c q = 5 := h.b.cb
  refine ⟨h.px.turn ht hk (by decide) (by decide) (fun q _ hg => by rw [h5 q hg]; decide), h.py.turn ht hk (by decide) (by decide) (fun q _ hg => by rw [h5 q hg]; decide), ⟨ha.kd, fun o h1 h2 h3 => (ha.other o h2 h3).trans (h.b.an o h1 h2 h3), fun q hq => ?_, by rw [List.length_append]; simp; omega, fun i hi => ?_⟩, h.c9' hk, h.bel' ht (fun q hg => by rw [h5 q hg]; decide)⟩
  · rcases hq with rfl | hq
    · exact hk.one (h.b.lt _ (.inl rfl)) (h5 _ (.inl rfl)) (by decide)
    · rcases ha.foot q hq with h1 | h1 | h1 | h1
      · exact hk.one (h.b.lt q (.inr (.inl h1))) (h5 q (.inr (.inl h1))) (by decide)
      · exact hk.one (h.b.lt q (.inr (.inr h1))) (h5 q (.inr (.inr h1))) (by decide)
      · unfold bcol
        rw [if_pos h1]
        split <;> rfl
      · unfold bcol
        rw [if_neg (by omega)]
  · rcases Nat.lt_or_ge i S0.length with h1 | h1
    · rw [List.getElem_append_left h1]; exact h.b.l1 i h1
    · have hi' : i = S0.length := by rw [List.length_append] at hi; simp at hi; omega
      subst hi'
      rw [List.getElem_append_right (Nat.le_refl _)]
      simpa using hl
set_option maxRecDepth 100000 in
set_option maxHeartbeats 1000000 in
theorem full_Texts {w : World} {bk n cap : Nat} {a : Option Addr} (c0 : w.cell? ⟨bk, 0, none⟩ = some (.slice a n cap)) (hn : 250 ≤ n) (hm : n ≤ 1000) (x : Value) :
    Calls Tryz.prog 31 #[.pointer (some ⟨bk, 0, none⟩), x] w fun e w' => e = .returned (.tuple #[]) ∧ w = w' := by
  have t1 : ¬ (n : Int) < 250 := by omega
  have t1n : ¬ n < 250 := by omega
  go_enter Tryz.func31, Tryz.ntmps31
  go_wp2
  go_end0
  exact ⟨rfl, rfl⟩
theorem PSt.bklt (h : PSt K w0 w x y bk) : bk < w.heap.size := by
  obtain ⟨c, p, r, v0, u0, S0, T0, h, e1, e2, hK⟩ := h
  exact h.b.lt _ (.inl rfl)
theorem pst_texts (h : PSt K w0 w x y bk) {B : Nat} {s : Sl} {l : List ByteArray} (hs : Own kTexts w B s.val l) (hsK : ∀ q, s.val.ownBlock = some q → K q ∧ bk < q) (hl : l.length ≤ 20000) :
    Calls Tryz.prog 31 #[.pointer (some ⟨bk, 0, none⟩), s.val] w fun e w' => e = .returned (.tuple #[]) ∧ PSt (fun q => K q ∧ s.val.ownBlock ≠ some q) w0 w' x y bk ∧ Own kTexts w' (bk + 1) s.val l ∧ Tn (fun q => ¬ K q) w w' := by
  have hbk := h.bklt
  obtain ⟨c, p, r, v0, u0, S0, T0, h, e1, e2, hK⟩ := h
  have hs2 : Own kTexts w (bk + 1) s.val l := by
    obtain ⟨g1, g2⟩ := hs
    refine ⟨g1, ?_⟩
    rcases g2 with g2 | ⟨g, cap, cur, hv, hg, r⟩
    · exact .inl g2
    · exact .inr ⟨g, cap, cur, hv, (hsK g (by rw [hv]; rfl)).2, r⟩
  by_cases hn : S0.length < 250
  · refine (add_Texts h.b.kt hs2 (fun q hq => ?_) hn (by omega) (by omega)).mono ?_
    · have h2 := (hK q (hsK q hq).1).2
      exact ⟨fun e => by have := h.b.cb q (.inr (.inl e)); omega, fun e => by have := h.b.cb q (.inr (.inr e)); omega⟩
    · rintro e w' ⟨he, v0', u0', s2, ha⟩
      have hp := h.texts ha (fun q hq => (hK q (hsK q hq).1).2) hn hl
      refine ⟨he, ⟨_, p, r, v0', u0', _, _, hp, e1, e2, fun q hq => ⟨Nat.lt_of_lt_of_le (hK q hq.1).1 ha.tn.size, ?_⟩⟩, ?_, ha.tn.mono (fun q hf hk => by have := h.b.cb q hf; have := (hK q hk).2; omega)⟩
      · unfold bcol
        rw [if_pos (hK q hq.1).1, if_neg hq.2]
        exact (hK q hq.1).2
      · have := hp.b.kt.l.each S0.length (by rw [List.length_append]; simp)
        rw [List.getElem_append_right (Nat.le_refl _)] at this
        simpa using this
  · have hn1 := h.b.n1
    obtain ⟨a, cap, hf⟩ := h.b.kt.l.form
    have c0 := h.b.kt.c0
    rw [hf] at c0
    refine (full_Texts c0 (by omega) (by omega) s.val).mono ?_
    rintro e w' ⟨he, rfl⟩
    exact ⟨he, ⟨c, p, r, v0, u0, S0, T0, h, e1, e2, fun q hq => hK q hq.1⟩, hs2, Tn.refl _ _⟩
theorem pst_apart (h : PSt K w0 w x y bk) : Calls Tryz.prog 13 #[.pointer (some ⟨bk, 0, none⟩)] w fun e w' => e = .returned (.bool true) ∧ Below w0.heap.size w0 w' := by
  have hbk := h.bklt
  obtain ⟨c, p, r, v0, u0, S0, T0, h, e1, e2, hK⟩ := h
  refine (apart_any (by omega) (by omega) h.b.an h.b.kt h.b.n1 (fun i hi => by have := h.b.l1 i hi; omega)).mono ?_
  rintro e w' ⟨he, ht⟩
  exact ⟨he, h.bel' ht (fun q hq => by rw [h.b.cb q (.inr (.inl hq))]; decide)⟩

theorem pst_twin (h : PSt K w0 w x y bk) : Calls Tryz.prog 9 #[.pointer (some ⟨x.db, 0, none⟩)] w fun e w' => ∃ nb, e = .returned (.pointer (some ⟨nb, 0, none⟩)) ∧ PSt K w0 w' x { y with db := nb, D := x.D } bk ∧ Below w.heap.size w w' := by
  obtain ⟨c, p, r, v0, u0, S0, T0, h, rfl, rfl, hK⟩ := h
  refine (twin_any h.px.d).mono ?_
  rintro e w' ⟨he, hn, -, hb, hz⟩
  refine ⟨_, he, ⟨recol c w 3, p, { r with db := w.heap.size, mb := w.heap.size + 1, D := p.D }, v0, u0, S0, T0, ?_, rfl, rfl, fun q hq => ⟨Nat.lt_of_lt_of_le (hK q hq).1 hb.size, by rw [recol_old (hK q hq).1]; exact (hK q hq).2⟩⟩, hb⟩
  have h1 := h.turn (G := fun _ => False) (Tn.ofBelow hb) (keeps_recol c w 3) (fun _ e => e.elim)
  refine ⟨h1.px, ⟨?_, h1.py.r, ?_, h1.py.cr⟩, h1.b, h1.c9, h1.bel⟩
  · refine hn.less (fun q hq => ?_) ⟨by show w.heap.size < _; omega, ?_⟩ ⟨by show w.heap.size + 1 < _; omega, ?_⟩
    · by_cases h2 : q < w.heap.size
      · exact .inl ⟨h2, by have := hq.2; rw [recol_old h2] at this; exact this⟩
      · have := hq.1
        exact .inr (by unfold two; omega)
    · rw [recol_new (Nat.le_refl _)]; decide
    · rw [recol_new (Nat.le_succ _)]; decide
  · rintro q (rfl | rfl)
    · exact recol_new (Nat.le_refl _)
    · exact recol_new (Nat.le_succ _)
theorem pst_rtwin (h : PSt K w0 w x y bk) : Calls Tryz.prog 10 #[.pointer (some ⟨x.rb, 0, none⟩)] w fun e w' => ∃ nb, e = .returned (.pointer (some ⟨nb, 0, none⟩)) ∧ PSt K w0 w' x { y with rb := nb, R := x.R } bk ∧ Below w.heap.size w w' := by
  obtain ⟨c, p, r, v0, u0, S0, T0, h, rfl, rfl, hK⟩ := h
  refine (rtwin_any (h.px.r.more (F' := fun q => Fc c w q ∨ w.heap.size ≤ q) (fun _ hq => hq))).mono ?_
  rintro e w' ⟨he, ⟨lv', hnew, hn⟩, hb, hz⟩
  refine ⟨_, he, ⟨recol c w 4, p, { r with rb := w.heap.size, lv := lv', R := p.R }, v0, u0, S0, T0, ?_, rfl, rfl, fun q hq => ⟨Nat.lt_of_lt_of_le (hK q hq).1 hb.size, by rw [recol_old (hK q hq).1]; exact (hK q hq).2⟩⟩, hb⟩
  have h1 := h.turn (G := fun _ => False) (Tn.ofBelow hb) (keeps_recol c w 4) (fun _ e => e.elim)
  refine ⟨h1.px, ⟨h1.py.d, hn.less (fun q hq => ?_), h1.py.cd, ?_⟩, h1.b, h1.c9, h1.bel⟩
  · by_cases h2 : q < w.heap.size
    · exact .inl ⟨h2, by have := hq.2; rw [recol_old h2] at this; exact this⟩
    · exact .inr (by omega)
  · rintro q (rfl | hq)
    · exact recol_new (Nat.le_refl _)
    · exact recol_new (Nat.le_of_lt (hnew q hq))

/-- A disk without a fuse: any blocks are no fuse's. -/
theorem DkAt.bare {db mb : Nat} {D : Dk} (h : DkAt F w db mb D) (hz : D.fuse = none) (hl : ∀ q, G q → q < w.heap.size) (hd : G db) (hm : G mb) : DkAt G w db mb D := by
  obtain ⟨p, hp, hf⟩ := h.c3
  rw [hz] at hf
  exact ⟨h.c0, h.c1, h.c2, ⟨p, hp, by rw [hz]; exact hf⟩, h.c4, h.m, h.fz, h.ok, h.ne, hd, hm, hl⟩
theorem sim_fresh : Sim Dk.fresh Dk.fresh := ⟨⟨List.Pairwise.nil, List.Pairwise.nil, fun _ => rfl⟩, rfl, rfl, rfl, rfl⟩
def col0 (n N : Nat) (q : Nat) : Nat := if q < n then 9 else if q = N then 5 else if q = N + 1 ∨ q = N + 2 then 1 else if q = N + 3 ∨ q = N + 4 then 3 else if q = N + 5 then 2 else if q = N + 6 then 4 else 0
theorem pst_start {N : Nat} (hN : w0.heap.size ≤ N) (hz : N + 6 < w.heap.size) (d1 : DkAt F w (N + 2) (N + 1) Dk.fresh) (d2 : DkAt G w (N + 4) (N + 3) Dk.fresh) (r1 : ∀ F : Nat → Prop, RfAt F w (N + 5) (.slice none 0 0) Dk.fresh) (r2 : ∀ F : Nat → Prop, RfAt F w (N + 6) (.slice none 0 0) Dk.fresh)
    (b0 : ∀ o, o < 30 → w.cell? ⟨N, o, none⟩ = some (.slice none 0 0)) (bf : ∀ j, w.frozen? ⟨N, j, none⟩ = false) (hbel : Below w0.heap.size w0 w) : PSt (fun _ => False) w0 w ⟨N + 2, N + 5, Dk.fresh, Dk.fresh⟩ ⟨N + 4, N + 6, Dk.fresh, Dk.fresh⟩ N := by
  have hnf : ∀ q, ¬ footL (.slice none 0 0) ([] : List (Sl × List ByteArray)) q := by
    rintro q (h | ⟨i, hi, _⟩)
    · cases h
    · simp at hi
  have e0 : col0 w0.heap.size N N = 5 := by unfold col0; rw [if_neg (by omega), if_pos rfl]
  have e1 : ∀ q, q = N + 1 ∨ q = N + 2 → col0 w0.heap.size N q = 1 := fun q hq => by unfold col0; rw [if_neg (by omega), if_neg (by omega), if_pos hq]
  have e3 : ∀ q, q = N + 3 ∨ q = N + 4 → col0 w0.heap.size N q = 3 := fun q hq => by unfold col0; rw [if_neg (by omega), if_neg (by omega), if_neg (by omega), if_pos hq]
  have e2 : col0 w0.heap.size N (N + 5) = 2 := by unfold col0; rw [if_neg (by omega), if_neg (by omega), if_neg (by omega), if_neg (by omega), if_pos rfl]
  have e4 : col0 w0.heap.size N (N + 6) = 4 := by unfold col0; rw [if_neg (by omega), if_neg (by omega), if_neg (by omega), if_neg (by omega), if_neg (by omega), if_pos rfl]
  have hF : ∀ q k, q < w.heap.size → col0 w0.heap.size N q = k → k ≠ 9 → Fc (col0 w0.heap.size N) w q := fun q k h1 h2 h3 => ⟨h1, by rw [h2]; exact h3⟩
  refine ⟨col0 w0.heap.size N, ⟨N + 2, N + 1, N + 5, .slice none 0 0, Dk.fresh, Dk.fresh⟩, ⟨N + 4, N + 3, N + 6, .slice none 0 0, Dk.fresh, Dk.fresh⟩, .slice none 0 0, .slice none 0 0, [], [], ⟨⟨d1.bare rfl (fun q hq => hq.1) (hF _ _ (by omega) (e1 _ (.inr rfl)) (by decide)) (hF _ _ (by omega) (e1 _ (.inl rfl)) (by decide)), r1 _, fun q hq => e1 q hq.symm, fun q hq => ?_⟩, ⟨d2.bare rfl (fun q hq => hq.1) (hF _ _ (by omega) (e3 _ (.inr rfl)) (by decide)) (hF _ _ (by omega) (e3 _ (.inl rfl)) (by decide)), r2 _, fun q hq => e3 q hq.symm, fun q hq => ?_⟩, ⟨⟨b0 0 (by decide), b0 1 (by decide), Lst.nil _ _, Lst.nil _ _, rfl, fun q hq => (hnf q hq).elim, by omega, bf⟩, fun o h _ _ => b0 o h, fun q hq => ?_, by simp, by simp⟩, fun q hq => by unfold col0; rw [if_pos hq], hbel⟩, rfl, rfl, fun _ e => e.elim⟩
  · rcases hq with rfl | hq
    · exact e2
    · cases hq
  · rcases hq with rfl | hq
    · exact e4
    · cases hq
  · rcases hq with rfl | hq | hq
    · exact e0
    · exact (hnf q hq).elim
    · exact (hnf q hq).elim
end Go.Proofs.YtceamkcaokdgaaaGreatDoor
