/-
  DiskPlays, DiskAll: play: the two disks in their arrays; twins, steps, looks.
-/
import Derived.Test.YtceamkcaokdgaaaGreatDoorOpOps
import Derived.Laws.BitsLemmas
set_option linter.unusedSimpArgs false
set_option linter.unusedVariables false
namespace Go.Proofs.YtceamkcaokdgaaaGreatDoor
open Go.RowKit
variable {F G H K K' : Nat → Prop} {w w' w0 : World} {bk : Nat} {x y : PV}

theorem int_wf {m : Int} (h : (Lit.int .i64 m).wf = true) : -9223372036854775808 ≤ m ∧ m ≤ 9223372036854775807 := by
  simp only [Lit.wf, Bool.and_eq_true, decide_eq_true_eq] at h
  exact ⟨h.1, h.2⟩
/-- The two arrays: at s stands x, at the other place y; i steps were done. -/
structure PL (lA mA s : Nat) (w0 w : World) (x y : PV) (bk i : Nat) : Prop where
  st : PSt (fun q => q = lA ∨ q = mA) w0 w x y bk
  sx : Sim x.D x.R
  sy : Sim y.D y.R
  ax : x.D.acts ≤ i
  ay : y.D.acts ≤ i
  l0 : w.cell? ⟨lA, s, none⟩ = some (.pointer (some ⟨x.db, 0, none⟩))
  l1 : w.cell? ⟨lA, 1 - s, none⟩ = some (.pointer (some ⟨y.db, 0, none⟩))
  m0 : w.cell? ⟨mA, s, none⟩ = some (.pointer (some ⟨x.rb, 0, none⟩))
  m1 : w.cell? ⟨mA, 1 - s, none⟩ = some (.pointer (some ⟨y.rb, 0, none⟩))
  fl : ∀ j, w.frozen? ⟨lA, j, none⟩ = false
  fm : ∀ j, w.frozen? ⟨mA, j, none⟩ = false
  ne : lA ≠ mA
variable {lA mA s i j : Nat}
theorem PL.swap (h : PL lA mA s w0 w x y bk i) (hs : s ≤ 1) : PL lA mA (1 - s) w0 w y x bk i := by
  have e : 1 - (1 - s) = s := by omega
  exact ⟨h.st.swp, h.sy, h.sx, h.ay, h.ax, h.l1, by rw [e]; exact h.l0, h.m1, by rw [e]; exact h.m0, h.fl, h.fm, h.ne⟩
theorem PL.zero (h : PL lA mA s w0 w x y bk i) (hs : s ≤ 1) : ∃ x y, PL lA mA 0 w0 w x y bk i := by
  rcases (by omega : s = 0 ∨ s = 1) with rfl | rfl
  · exact ⟨x, y, h⟩
  · exact ⟨y, x, h.swap (Nat.le_refl _)⟩
theorem PL.turn (h : PL lA mA s w0 w x y bk i) {D' R' : Dk} (hg : PGo (fun q => q = lA ∨ q = mA) w0 w w' ⟨x.db, x.rb, D', R'⟩ y bk) (hs : Sim D' R') (ha : D'.acts ≤ j) (hij : i ≤ j) : PL lA mA s w0 w' ⟨x.db, x.rb, D', R'⟩ y bk j := by
  have hl : ¬ ¬ (lA = lA ∨ lA = mA) := fun h => h (.inl rfl)
  have hm : ¬ ¬ (mA = lA ∨ mA = mA) := fun h => h (.inr rfl)
  have ll := World.block_lt_of_cell? _ _ h.l0
  have lm := World.block_lt_of_cell? _ _ h.m0
  exact ⟨hg.1, hs, h.sy, ha, Nat.le_trans h.ay hij, hg.2.cell h.l0 hl, hg.2.cell h.l1 hl, hg.2.cell h.m0 hm, hg.2.cell h.m1 hm, fun j => (hg.2.frozen (p := ⟨lA, j, none⟩) ll hl).trans (h.fl j), fun j => (hg.2.frozen (p := ⟨mA, j, none⟩) lm hm).trans (h.fm j), h.ne⟩
theorem PL.below (h : PL lA mA s w0 w x y bk i) (hb : Below w.heap.size w w') : PL lA mA s w0 w' x y bk i := h.turn (D' := x.D) (R' := x.R) (h.st.go hb) h.sx h.ax (Nat.le_refl _)
theorem pl_looks (h : PL lA mA s w0 w x y bk i) : Calls Tryz.prog 12 #[.pointer (some ⟨x.db, 0, none⟩), .pointer (some ⟨x.rb, 0, none⟩), .pointer (some ⟨bk, 0, none⟩)] w fun e w' => e = .returned (.bool true) ∧ PL lA mA s w0 w' x y bk i :=
  (looks_any h.st h.sx).mono fun _ _ ⟨he, hg⟩ => ⟨he, h.turn (D' := x.D) (R' := x.R) hg h.sx h.ax (Nat.le_refl _)⟩
theorem pl_looks1 (h : PL lA mA 0 w0 w x y bk i) : Calls Tryz.prog 12 #[.pointer (some ⟨y.db, 0, none⟩), .pointer (some ⟨y.rb, 0, none⟩), .pointer (some ⟨bk, 0, none⟩)] w fun e w' => e = .returned (.bool true) ∧ PL lA mA 0 w0 w' x y bk i :=
  (pl_looks (h.swap (by decide))).mono fun _ _ ⟨he, hg⟩ => ⟨he, hg.swap (by decide)⟩
theorem pl_step (h : PL lA mA s w0 w x y bk i) (hi : i < 1000000) {o : LOp} (ho : o.wf w0) (hn : o.cn ≤ 60) (hdt : o.dt.size ≤ 9000) :
    Calls Tryz.prog 11 #[.pointer (some ⟨x.db, 0, none⟩), .pointer (some ⟨x.rb, 0, none⟩), .agg #[.int .i64 o.k, .int .i64 o.wh, .int .i64 o.a, .int .i64 o.b, .slice o.ca o.cn o.cc, .string o.nm, .string o.dt], .pointer (some ⟨bk, 0, none⟩)] w fun e w' => e = .returned (.bool true) ∧ ∃ D' R', PL lA mA s w0 w' ⟨x.db, x.rb, D', R'⟩ y bk (i + 1) := by
  have ha := int_wf ho.2.1
  have hz := ho.2.2.1
  refine (step_any h.st h.sx (by have := h.ax; omega) ho.2.2.2 hn (by omega) hdt ha.2).mono ?_
  rintro e w' ⟨he, D', R', hg, hs, hac⟩
  exact ⟨he, _, _, h.turn hg hs (by have := h.ax; omega) (Nat.le_succ _)⟩
theorem PL.tw (h : PL lA mA s w0 w x y bk i) {n m : Nat} (hs : s ≤ 1) (hst : PSt (fun q => q = lA ∨ q = mA) w0 w' x ⟨n, m, x.D, x.R⟩ bk) (hb : Below w.heap.size w w') :
    PL lA mA s w0 ((w'.setCell ⟨lA, 1 - s, none⟩ (.pointer (some ⟨n, 0, none⟩))).setCell ⟨mA, 1 - s, none⟩ (.pointer (some ⟨m, 0, none⟩))) x ⟨n, m, x.D, x.R⟩ bk i := by
  have hne := h.ne
  have ll : lA < w.heap.size := World.block_lt_of_cell? _ _ h.l0
  have lm : mA < w.heap.size := World.block_lt_of_cell? _ _ h.m0
  have k0 := (hb.cell (p := ⟨lA, s, none⟩) ll).trans h.l0
  have k1 := (hb.cell (p := ⟨lA, 1 - s, none⟩) ll).trans h.l1
  have k2 := (hb.cell (p := ⟨mA, s, none⟩) lm).trans h.m0
  have k3 := (hb.cell (p := ⟨mA, 1 - s, none⟩) lm).trans h.m1
  have t1 : Tn (fun q => q = lA ∨ q = mA) w' (w'.setCell ⟨lA, 1 - s, none⟩ (.pointer (some ⟨n, 0, none⟩))) := Tn.setCell _ _ _ (.inl rfl)
  have t2 : Tn (fun q => q = lA ∨ q = mA) (w'.setCell ⟨lA, 1 - s, none⟩ (.pointer (some ⟨n, 0, none⟩))) ((w'.setCell ⟨lA, 1 - s, none⟩ (.pointer (some ⟨n, 0, none⟩))).setCell ⟨mA, 1 - s, none⟩ (.pointer (some ⟨m, 0, none⟩))) := Tn.setCell _ _ _ (.inr rfl)
  have hLM : ∀ a b, (⟨lA, a, none⟩ : Addr) ≠ ⟨mA, b, none⟩ := fun a b e => by injection e with e1; exact hne e1
  have hML : ∀ a b, (⟨mA, a, none⟩ : Addr) ≠ ⟨lA, b, none⟩ := fun a b e => by injection e with e1; exact hne e1.symm
  have hs1 : ∀ c, (⟨c, 1 - s, none⟩ : Addr) ≠ ⟨c, s, none⟩ := fun c e => by injection e with _ e2; omega
  refine ⟨hst.kept (t1.trans t2), h.sx, h.sx, h.ax, h.ax, ?_, ?_, ?_, ?_, fun j => ?_, fun j => ?_, hne⟩
  · rw [World.cell?_setCell_other _ _ _ _ (hML _ _), World.cell?_setCell_other _ _ _ _ (hs1 _)]; exact k0
  · rw [World.cell?_setCell_other _ _ _ _ (hML _ _)]; exact World.cell?_setCell_same _ _ _ k1
  · rw [World.cell?_setCell_other _ _ _ _ (hs1 _), World.cell?_setCell_other _ _ _ _ (hLM _ _)]; exact k2
  · have k4 : (w'.setCell ⟨lA, 1 - s, none⟩ (.pointer (some ⟨n, 0, none⟩))).cell? ⟨mA, 1 - s, none⟩ = some (.pointer (some ⟨y.rb, 0, none⟩)) := by
      rw [World.cell?_setCell_other _ _ _ _ (hLM _ _)]; exact k3
    exact World.cell?_setCell_same _ _ _ k4
  · rw [World.frozen?_setCell, World.frozen?_setCell]; exact (hb.frozen (p := ⟨lA, j, none⟩) ll).trans (h.fl j)
  · rw [World.frozen?_setCell, World.frozen?_setCell]; exact (hb.frozen (p := ⟨mA, j, none⟩) lm).trans (h.fm j)
theorem fz_new (w : World) (c : Array Value) (t : TypeId) (j : Nat) : (w.alloc (.cells c t)).frozen? ⟨w.heap.size, j, none⟩ = false := by
  have h : (w.alloc (.cells c t)).heap[w.heap.size]? = some (.cells c t (0, 0)) := World.alloc_heap_new w _
  unfold World.frozen?
  simp only [h]
  simp
theorem pl_start (h : PSt (fun _ => False) w0 w x y bk) (sx : Sim x.D x.R) (sy : Sim y.D y.R) (ax : x.D.acts = 0) (ay : y.D.acts = 0) (t1 t2 : TypeId) :
    PL w.heap.size (w.heap.size + 1) 0 w0 ((w.alloc (.cells #[.pointer (some ⟨x.db, 0, none⟩), .pointer (some ⟨y.db, 0, none⟩)] t1)).alloc (.cells #[.pointer (some ⟨x.rb, 0, none⟩), .pointer (some ⟨y.rb, 0, none⟩)] t2)) x y bk 0 := by
  obtain ⟨w1, hw1⟩ : ∃ w1, w.alloc (.cells #[.pointer (some ⟨x.db, 0, none⟩), .pointer (some ⟨y.db, 0, none⟩)] t1) = w1 := ⟨_, rfl⟩
  have hz1 : w1.heap.size = w.heap.size + 1 := by rw [← hw1]; simp
  have hb1 : Below w.heap.size w w1 := by rw [← hw1]; exact (Below.refl _ _).alloc (Nat.le_refl _) _
  have a0 : w1.cell? ⟨w.heap.size, 0, none⟩ = some (.pointer (some ⟨x.db, 0, none⟩)) := by rw [← hw1, World.cell?_alloc_mark]; rfl
  have a1 : w1.cell? ⟨w.heap.size, 1, none⟩ = some (.pointer (some ⟨y.db, 0, none⟩)) := by rw [← hw1, World.cell?_alloc_mark]; rfl
  have af : ∀ j, w1.frozen? ⟨w.heap.size, j, none⟩ = false := fun j => by rw [← hw1]; exact fz_new _ _ _ _
  rw [hw1]
  clear hw1
  rw [← hz1]
  obtain ⟨w2, hw2⟩ : ∃ w2, w1.alloc (.cells #[.pointer (some ⟨x.rb, 0, none⟩), .pointer (some ⟨y.rb, 0, none⟩)] t2) = w2 := ⟨_, rfl⟩
  have hz2 : w2.heap.size = w1.heap.size + 1 := by rw [← hw2]; simp
  have hb2 : Below w1.heap.size w1 w2 := by rw [← hw2]; exact (Below.refl _ _).alloc (Nat.le_refl _) _
  have m0 : w2.cell? ⟨w1.heap.size, 0, none⟩ = some (.pointer (some ⟨x.rb, 0, none⟩)) := by rw [← hw2, World.cell?_alloc_mark]; rfl
  have m1 : w2.cell? ⟨w1.heap.size, 1, none⟩ = some (.pointer (some ⟨y.rb, 0, none⟩)) := by rw [← hw2, World.cell?_alloc_mark]; rfl
  have mf : ∀ j, w2.frozen? ⟨w1.heap.size, j, none⟩ = false := fun j => by rw [← hw2]; exact fz_new _ _ _ _
  rw [hw2]
  have hl : w.heap.size < w1.heap.size := by omega
  have hb : Below w.heap.size w w2 := hb1.trans (hb2.mono hb1.size)
  refine ⟨(h.more hb).weak (fun q hq => .inr (by omega)), sx, sy, by omega, by omega, (hb2.cell (p := ⟨w.heap.size, 0, none⟩) hl).trans a0, (hb2.cell (p := ⟨w.heap.size, 1, none⟩) hl).trans a1, m0, m1, fun j => (hb2.frozen (p := ⟨w.heap.size, j, none⟩) hl).trans (af j), mf, by omega⟩
theorem bit_one (n : Int) : bits .and .i64 n 1 = n % 2 := by
  have h1 : (BitVec.ofInt 64 1).toNat = 2 ^ 1 - 1 := by decide
  have key : (BitVec.ofInt 64 n &&& BitVec.ofInt 64 1).toNat = (n % ((2 ^ 64 : Nat) : Int)).toNat % 2 ^ 1 := by
    rw [BitVec.toNat_and, BitVec.toNat_ofInt, h1, Nat.and_two_pow_sub_one_eq_mod]
  show IntKind.i64.wrap ((BitVec.ofInt 64 n &&& BitVec.ofInt 64 1).toNat : Nat) = n % 2
  rw [key, IntKind.wrap_i64]
  omega
theorem PL.up (h : PL lA mA s w0 w x y bk i) : PL lA mA s w0 w x y bk (i + 1) := ⟨h.st, h.sx, h.sy, Nat.le_succ_of_le h.ax, Nat.le_succ_of_le h.ay, h.l0, h.l1, h.m0, h.m1, h.fl, h.fm, h.ne⟩
end Go.Proofs.YtceamkcaokdgaaaGreatDoor
