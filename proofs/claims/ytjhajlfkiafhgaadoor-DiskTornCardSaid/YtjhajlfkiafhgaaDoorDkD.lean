/-
  Disk: how a disk lies; a new one; an act with a fuse that holds.
-/
import Derived.Test.YtjhajlfkiafhgaaDoorHold
namespace Go.Proofs.YtjhajlfkiafhgaaDoor
open Go.RowKit

theorem keyN : KeyT Tryd.prog 9 ckN .string := key_str Tryd.underlying9
abbrev tMap : TypeId := 44
theorem und_map : Tryd.prog.underlying tMap = some (.map 9 51) := Tryd.underlying44

/-- Numbers that can be read, in a block that F has not. -/
def RdC (F : Nat → Prop) (w : World) (x : Value) (l : List Int) : Prop := ∃ a c, x = .slice a l.length c ∧ (l = [] ∨ ∃ b off, a = some ⟨b, off, none⟩ ∧ ¬ F b ∧ b < w.heap.size ∧ ∀ i (hi : i < l.length), w.cell? ⟨b, off + i, none⟩ = some (.int .i64 l[i]))
theorem RdC.tn {F G : Nat → Prop} {w w' : World} {x : Value} {l : List Int} (h : RdC F w x l) (ht : Tn G w w') (hG : ∀ q, q < w.heap.size → G q → F q) : RdC F w' x l := by
  obtain ⟨a, c, hx, h⟩ := h
  refine ⟨a, c, hx, h.imp id ?_⟩
  rintro ⟨b, off, ha, hf, hlt, hc⟩
  exact ⟨b, off, ha, hf, Nat.lt_of_lt_of_le hlt ht.size, fun i hi => ht.cell (hc i hi) (fun hg => hf (hG b hlt hg))⟩
/-- How a fuse lies. -/
def FzAt (F : Nat → Prop) (w : World) : Option Fz → Value → Prop
  | none, p => p = .pointer none
  | some z, p => ∃ fb v, p = .pointer (some ⟨fb, 0, none⟩) ∧ ¬ F fb ∧ fb < w.heap.size ∧ w.cell? ⟨fb, 0, none⟩ = some (.int .i64 (z.n : Int)) ∧ w.cell? ⟨fb, 1, none⟩ = some v ∧ w.cell? ⟨fb, 2, none⟩ = some (.int .i64 z.flip) ∧ RdC F w v z.cuts
theorem FzAt.tn {F G : Nat → Prop} {w w' : World} {z : Option Fz} {p : Value} (h : FzAt F w z p) (ht : Tn G w w') (hG : ∀ q, q < w.heap.size → G q → F q) : FzAt F w' z p := by
  cases z with
  | none => exact h
  | some z =>
    obtain ⟨fb, v, hp, hf, hlt, c0, c1, c2, hr⟩ := h
    have hg : ¬ G fb := fun hg => hf (hG fb hlt hg)
    exact ⟨fb, v, hp, hf, Nat.lt_of_lt_of_le hlt ht.size, ht.cell c0 hg, ht.cell c1 hg, ht.cell c2 hg, hr.tn ht hG⟩
/-- The disk D lies in the block db, its files in the map mb; the blocks of F are no fuse's. -/
structure DkAt (F : Nat → Prop) (w : World) (db mb : Nat) (D : Dk) : Prop where
  c0 : w.cell? ⟨db, 0, none⟩ = some (.map (some mb))
  c1 : w.cell? ⟨db, 1, none⟩ = some (.bool D.on)
  c2 : w.cell? ⟨db, 2, none⟩ = some (.int .i64 D.quota)
  c3 : ∃ p, w.cell? ⟨db, 3, none⟩ = some p ∧ FzAt F w D.fuse p
  c4 : w.cell? ⟨db, 4, none⟩ = some (.int .i64 (D.acts : Int))
  m : MapL ckN cvF w mb D.m
  fz : ∀ j, w.frozen? ⟨db, j, none⟩ = false
  ok : D.Ok
  ne : db ≠ mb
  fd : F db
  fm : F mb
  lt : ∀ q, F q → q < w.heap.size
/-- Its blocks. -/
def two (db mb q : Nat) : Prop := q = db ∨ q = mb
variable {F G : Nat → Prop} {w w' : World} {db mb : Nat} {D D' : Dk}
theorem DkAt.ltd (h : DkAt F w db mb D) : db < w.heap.size := World.block_lt_of_cell? _ _ h.c0
/-- What others turn. -/
theorem DkAt.frame (h : DkAt F w db mb D) (ht : Tn G w w') (hG : ∀ q, q < w.heap.size → G q → F q ∧ q ≠ db ∧ q ≠ mb) : DkAt F w' db mb D := by
  have hd : ¬ G db := fun hg => (hG db h.ltd hg).2.1 rfl
  have hm : ¬ G mb := fun hg => (hG mb h.m.lt hg).2.2 rfl
  obtain ⟨p, hp, hz⟩ := h.c3
  exact ⟨ht.cell h.c0 hd, ht.cell h.c1 hd, ht.cell h.c2 hd, ⟨p, ht.cell hp hd, hz.tn ht (fun q hq hg => (hG q hq hg).1)⟩, ht.cell h.c4 hd, h.m.tn ht hm, fun j => (ht.frozen (p := ⟨db, j, none⟩) h.ltd hd).trans (h.fz j), h.ok, h.ne, h.fd, h.fm, fun q hq => Nat.lt_of_lt_of_le (h.lt q hq) ht.size⟩
theorem DkAt.below (h : DkAt F w db mb D) (hb : Below w.heap.size w w') : DkAt F w' db mb D := h.frame (Tn.ofBelow (F := fun _ => False) hb) (fun _ _ e => e.elim)
/-- More blocks that are no fuse's: new ones. -/
theorem DkAt.more (h : DkAt F w db mb D) (hF : ∀ q, F q → G q) (hw : ∀ q, G q → F q ∨ w.heap.size ≤ q) (hG : ∀ q, G q → q < w'.heap.size) (hb : Below w.heap.size w w') : DkAt G w' db mb D := by
  have h1 := h.below hb
  obtain ⟨p, hp, hz⟩ := h.c3
  have hp' := (hb.cell (p := ⟨db, 3, none⟩) h.ltd).trans hp
  refine ⟨h1.c0, h1.c1, h1.c2, ⟨p, hp', ?_⟩, h1.c4, h1.m, h1.fz, h1.ok, h1.ne, hF _ h1.fd, hF _ h1.fm, hG⟩
  cases hzz : D.fuse with
  | none => rw [hzz] at hz; exact hz
  | some z =>
    rw [hzz] at hz
    obtain ⟨fb, v, e, hf, hlt, c0, c1, c2, a, c, hx, hr⟩ := hz
    refine ⟨fb, v, e, fun hg => (hw fb hg).elim hf (fun h => by omega), Nat.lt_of_lt_of_le hlt hb.size, (hb.cell (p := ⟨fb, 0, none⟩) hlt).trans c0, (hb.cell (p := ⟨fb, 1, none⟩) hlt).trans c1, (hb.cell (p := ⟨fb, 2, none⟩) hlt).trans c2, a, c, hx, hr.imp id ?_⟩
    rintro ⟨b, off, ha, hbf, hbl, hc⟩
    exact ⟨b, off, ha, fun hg => (hw b hg).elim hbf (fun h => by omega), Nat.lt_of_lt_of_le hbl hb.size, fun i hi => (hb.cell (p := ⟨b, off + i, none⟩) hbl).trans (hc i hi)⟩

/-- The disk of New. -/
def Dk.fresh : Dk := ⟨[], true, -1, none, 0⟩
theorem Dk.fresh_ok : Dk.fresh.Ok := ⟨by simp [Dk.fresh], by simp [Dk.fresh], by simp [Dk.fresh], by simp [Dk.fresh], by simp [Dk.fresh], by simp [Dk.fresh]⟩
theorem new_any (w : World) : Calls Tryd.prog 11 #[] w fun e w' => e = .returned (.pointer (some ⟨w.heap.size + 1, 0, none⟩)) ∧ DkAt (two (w.heap.size + 1) w.heap.size) w' (w.heap.size + 1) w.heap.size Dk.fresh ∧ Below w.heap.size w w' ∧ w'.heap.size = w.heap.size + 2 := by
  have hmm := @run_makeMap Tryd.prog
  go_enter Tryd.func11, Tryd.ntmps11
  go_wp2
  go_ret
  refine ⟨by simp, ?_, ((Below.refl _ _).alloc (Nat.le_refl _) _).alloc (by simp) _, by simp⟩
  have hlt : ∀ q, two (w.heap.size + 1) w.heap.size q → q < w.heap.size + 1 + 1 := by
    intro q hq
    rcases hq with rfl | rfl <;> omega
  refine ⟨by simp [go_sem], by simp [go_sem, Dk.fresh], by simp [go_sem, Dk.fresh], ⟨.pointer none, by simp [go_sem], rfl⟩, by simp [go_sem, Dk.fresh], ?_, fun j => by simp [go_sem], Dk.fresh_ok, by omega, .inl rfl, .inr rfl, by simpa using hlt⟩
  exact (MapL.made w).below ((Below.refl _ _).alloc (Nat.le_refl _) _)
end Go.Proofs.YtjhajlfkiafhgaaDoor
