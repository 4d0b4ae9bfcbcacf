/-
  The walk of the least file of some: MinFunc with Pick's comparison.
-/
import Derived.Test.YtnfpnmfgppamgaaGreatPkB
import Derived.StillTailTactics
import Derived.Lib.SmallJoins
namespace Go.Proofs.YtnfpnmfgppamgaaGreat
open Go.RowKit

/-- A world behind w. -/
structure HW (w : World) where
  val : World
  ok : Below w.heap.size w val
instance (w : World) : Nonempty (HW w) := ⟨⟨w, Below.refl _ _⟩⟩
theorem wp_region_held_lit {P : Program} {id : Nat} {Q : Exit → Act → World → Prop} {a : Act} {w : World} {l : List Oper} (hm : P.follows .mixedOrders = true) (hB : Region.lexB .any l.toArray = true)
    (h : wpQuiet P l.toArray (fun w' => ∃ x : HW w, w' = x.val) (fun a' => ∀ w', (∃ x : HW w, w' = x.val) → Q .normal a' w') l a) : (Code.region id l.toArray true).wp P Q a w :=
  wp_region_quiet (C := fun w' => ∃ x : HW w, w' = x.val) hm hB ⟨⟨w.drew, (Below.refl _ _).drew⟩, rfl⟩ (by simpa using h)
theorem calls_held {P : Program} {f : FuncId} {args : Array Value} {w : World} {x : HW w} {v : Value} (h : Calls P f args x.val fun e w' => e = .returned v ∧ Below x.val.heap.size x.val w') :
    Calls P f args x.val fun e w'' => e = .returned v ∧ ∃ y : HW w, w'' = y.val :=
  h.mono fun _ w'' ⟨he, hb⟩ => ⟨he, ⟨w'', x.ok.trans (hb.mono x.ok.size)⟩, rfl⟩
theorem calls_held_same {P : Program} {f : FuncId} {args : Array Value} {w : World} {x : HW w} {v : Value} (h : Calls P f args x.val fun e w' => e = .returned v ∧ x.val = w') :
    Calls P f args x.val fun e w'' => e = .returned v ∧ ∃ y : HW w, w'' = y.val :=
  h.mono fun _ _ ⟨he, hb⟩ => ⟨he, x, hb.symm⟩

theorem pick1_any (x y : Fi) (w : World) :
    Calls Tryz.prog 24 #[x.val, y.val] w fun e w' => e = .returned (.int .i64 (Lib.compareInt x.nu y.nu)) ∧ Below w.heap.size w w' := by
  unfold Fi.val
  go_enter Tryz.func24, Tryz.ntmps24
  go_wp2_with (go_at_call 25; refine (Tryz.cmp_Compare_int _ _ _).mono ?_; rintro e w' ⟨rfl, rfl⟩)
  go_ret
  exact ⟨rfl, ((Below.refl _ _).alloc (Nat.le_refl _) _).alloc (by simp) _⟩

/-- The first of those with the least number. -/
def minF (x : Fi) (l : List Fi) : Fi := l.foldl (fun m y => if y.nu < m.nu then y else m) x
theorem minF_snoc (L : List Fi) (i : Nat) (hi : i < L.length) (x : Fi) : minF x (L.take (i + 1)) = if L[i].nu < (minF x (L.take i)).nu then L[i] else minF x (L.take i) := by
  unfold minF
  rw [List.take_succ_eq_append_getElem hi, List.foldl_append]
  rfl

def fobj (x : Fi) : Obj := .cells #[.int .i64 x.lv, .int .i64 x.nu, .int .i64 x.ct, .int .i64 x.sz, .string x.f, .string x.l] 57
theorem blk_new (w : World) (o : Obj) : (w.alloc o).heap[w.heap.size]? = some o := by unfold World.alloc; simp
theorem blk_old {w : World} {b : Nat} {o : Obj} (h : b < w.heap.size) : (w.alloc o).heap[b]? = w.heap[b]? := by
  unfold World.alloc
  exact Array.getElem?_push_lt h ▸ (Array.getElem?_eq_getElem h).symm
theorem here_of_block {w : World} {b : Nat} {x : Fi} (h : w.heap[b]? = some (fobj x)) : x.here w b 0 := by
  constructor <;> simp [World.cell?, h, fobj, go_sem]

theorem frozen_of_block {w : World} {b j : Nat} {c : Array Value} {t : TypeId} (h : w.heap[b]? = some (.cells c t)) : w.frozen? ⟨b, j, none⟩ = false := by
  simp [World.frozen?, h]
theorem blk_set {w : World} {b i : Nat} {c : Array Value} {t : TypeId} (h : w.heap[b]? = some (.cells c t)) (v : Value) : (w.setCell ⟨b, i, none⟩ v).heap[b]? = some (.cells (c.setIfInBounds i v) t) := Joins.block_setCell h v
/-- A file is laid over another one. -/
def put6 (w : World) (b : Nat) (y : Fi) : World := (((((w.setCell ⟨b, 0, none⟩ (.int .i64 y.lv)).setCell ⟨b, 1, none⟩ (.int .i64 y.nu)).setCell ⟨b, 2, none⟩ (.int .i64 y.ct)).setCell ⟨b, 3, none⟩ (.int .i64 y.sz)).setCell ⟨b, 4, none⟩ (.string y.f)).setCell ⟨b, 5, none⟩ (.string y.l)
theorem put6_block {w : World} {b : Nat} {x : Fi} (h : w.heap[b]? = some (fobj x)) (y : Fi) : (put6 w b y).heap[b]? = some (fobj y) :=
  blk_set (blk_set (blk_set (blk_set (blk_set (blk_set h _) _) _) _) _) _
theorem put6_tn {w : World} {b : Nat} {y : Fi} {F : Nat → Prop} (hF : F b) : Tn F w (put6 w b y) :=
  (((((Tn.setCell _ _ _ hF).trans (Tn.setCell _ _ _ hF)).trans (Tn.setCell _ _ _ hF)).trans (Tn.setCell _ _ _ hF)).trans (Tn.setCell _ _ _ hF)).trans (Tn.setCell _ _ _ hF)
theorem Fi.here.held {w : World} {b off : Nat} {x : Fi} (h : x.here w b off) (X : HW w) : x.here X.val b off := by
  have lt := World.block_lt_of_cell? _ _ h.c0
  exact h.below X.ok lt

set_option maxRecDepth 100000 in
set_option maxHeartbeats 400000 in
theorem min_any {w : World} {a : Option Addr} {x : Fi} {L : List Fi} (hL : FilesAt w a (x :: L)) (cap : Nat) (hlen : L.length ≤ 100000) :
    Calls Tryz.prog 23 #[.slice a (x :: L).length cap, .func (.func 24) #[] #[]] w fun e w' => e = .returned (minF x L).val ∧ Below w.heap.size w w' := by
  obtain ⟨b, off, rfl, hb, hc⟩ : ∃ b off, a = some ⟨b, off, none⟩ ∧ b < w.heap.size ∧ ∀ i (hi : i < (x :: L).length), (x :: L)[i].here w b (off + i * 6) := by
    rcases hL with h | h
    · cases h
    · exact h
  obtain ⟨len, hl⟩ : ∃ len, len = L.length := ⟨_, rfl⟩
  rw [List.length_cons, ← hl]
  rw [← hl] at hlen
  have HC := Lib.hid hc
  have HN := Lib.hid hl
  have hx := hc 0 (by simp)
  simp only [Nat.zero_mul, Nat.add_zero, List.getElem_cons_zero] at hx
  obtain ⟨c0, c1, c2, c3, c4, c5⟩ := hx
  clear hc hl hL
  go_enter Tryz.func23, Tryz.ntmps23
  go_wp2
  go_loopw [6] (fun y wr => ∃ i : Nat, i ≤ len ∧ y = .int .i64 ((i + 1 : Nat) : Int) ∧ wr.heap[w.heap.size]? = some (.cells #[.int .i64 0, .int .i64 0, .int .i64 0, .int .i64 0, .string ⟨#[]⟩, .string ⟨#[]⟩] 57) ∧ wr.heap[w.heap.size + 1]? = some (fobj (minF x (L.take i))) ∧ Below w.heap.size w wr) (fun y _ => len + 1 - (intOf y).toNat)
  case atStart =>
    refine ⟨0, by omega, rfl, ?_, ?_, ((Below.refl _ _).alloc (Nat.le_refl _) _).alloc (by simp) _⟩
    · rw [blk_old (by simp)]; exact blk_new _ _
    · have := blk_new (w.alloc (.cells #[.int .i64 0, .int .i64 0, .int .i64 0, .int .i64 0, .string ⟨#[]⟩, .string ⟨#[]⟩] 57)) (fobj x)
      rwa [World.size_alloc] at this
  case round =>
    obtain ⟨i, hi, rfl, h0, h1, hbel⟩ := hrel
    have HB := Lib.hid hbel
    have HH := Lib.hid (And.intro h0 h1)
    obtain ⟨m, hm⟩ : ∃ m, m = minF x (L.take i) := ⟨_, rfl⟩
    rw [← hm] at h1
    have HM := Lib.hid hm
    have hm1 := here_of_block h1
    have HMH := Lib.hid hm1
    by_cases hlt : i < len
    · have hil : i + 1 < (x :: L).length := by rw [List.length_cons, ← HN.out]; omega
      have hy := ((HC.out (i + 1) hil).below hbel hb)
      obtain ⟨y, hyy⟩ : ∃ y, (x :: L)[i + 1] = y := ⟨_, rfl⟩
      rw [hyy] at hy
      have HY := Lib.hid hyy
      have hoff : off + (i + 1) * 6 = off + (i + 1) * 6 := rfl
      have HYH := Lib.hid hy
      clear hyy hm hbel h0 h1 hm1 hy
      have e0 : ∀ X : HW wr, X.val.cell? ⟨b, off + (i + 1) * 6, none⟩ = some (.int .i64 y.lv) := fun X => (HYH.out.held X).c0
      have e1 : ∀ X : HW wr, X.val.cell? ⟨b, off + (i + 1) * 6 + 1, none⟩ = some (.int .i64 y.nu) := fun X => (HYH.out.held X).c1
      have e2 : ∀ X : HW wr, X.val.cell? ⟨b, off + (i + 1) * 6 + 2, none⟩ = some (.int .i64 y.ct) := fun X => (HYH.out.held X).c2
      have e3 : ∀ X : HW wr, X.val.cell? ⟨b, off + (i + 1) * 6 + 3, none⟩ = some (.int .i64 y.sz) := fun X => (HYH.out.held X).c3
      have e4 : ∀ X : HW wr, X.val.cell? ⟨b, off + (i + 1) * 6 + 4, none⟩ = some (.string y.f) := fun X => (HYH.out.held X).c4
      have e5 : ∀ X : HW wr, X.val.cell? ⟨b, off + (i + 1) * 6 + 5, none⟩ = some (.string y.l) := fun X => (HYH.out.held X).c5
      have g0 : ∀ X : HW wr, X.val.cell? ⟨w.heap.size + 1, 0, none⟩ = some (.int .i64 m.lv) := fun X => (HMH.out.held X).c0
      have g1 : ∀ X : HW wr, X.val.cell? ⟨w.heap.size + 1, 1, none⟩ = some (.int .i64 m.nu) := fun X => (HMH.out.held X).c1
      have g2 : ∀ X : HW wr, X.val.cell? ⟨w.heap.size + 1, 2, none⟩ = some (.int .i64 m.ct) := fun X => (HMH.out.held X).c2
      have g3 : ∀ X : HW wr, X.val.cell? ⟨w.heap.size + 1, 3, none⟩ = some (.int .i64 m.sz) := fun X => (HMH.out.held X).c3
      have g4 : ∀ X : HW wr, X.val.cell? ⟨w.heap.size + 1, 4, none⟩ = some (.string m.f) := fun X => (HMH.out.held X).c4
      have g5 : ∀ X : HW wr, X.val.cell? ⟨w.heap.size + 1, 5, none⟩ = some (.string m.l) := fun X => (HMH.out.held X).c5
      have hfz : ∀ X : HW wr, ∀ j, X.val.frozen? ⟨w.heap.size + 1, j, none⟩ = false := fun X j => by
        have hb1 := HH.out.2
        refine frozen_of_block (c := #[_, _, _, _, _, _]) (t := 57) (by rw [X.ok.block _ (lt_of_block hb1)]; exact hb1)
      have HF := Lib.hid hfz
      have hst := minF_snoc L i (by have := HN.out; omega) x
      rw [← HM.out, show L[i]'(by have := HN.out; omega) = y by rw [← HY.out]; rfl] at hst
      have HST := Lib.hid hst
      clear hst hfz
      by_cases ht : y.nu < m.nu
      · have t1 : decide (Lib.compareInt y.nu m.nu < 0) = true := by unfold Lib.compareInt; rw [if_pos ht]; rfl
        go_wp2
        refine wp_region_held_lit (by kernel_rfl) (by kernel_rfl) ?_
        repeat (go_big_quiet_step ((go_at_call 24; exact calls_held (pick1_any y m _))))
        refine wpQuiet_nil ?_
        intro _ hw'
        obtain ⟨X, hw''⟩ := hw'
        subst hw''
        have f0 := HF.out X 0
        have f1 := HF.out X 1
        have f2 := HF.out X 2
        have f3 := HF.out X 3
        have f4 := HF.out X 4
        have f5 := HF.out X 5
        have hX0 : X.val.heap[w.heap.size]? = _ := (X.ok.block _ (lt_of_block HH.out.1)).trans HH.out.1
        have hX1 : X.val.heap[w.heap.size + 1]? = _ := (X.ok.block _ (lt_of_block HH.out.2)).trans HH.out.2
        have HX := Lib.hid (And.intro hX0 hX1)
        clear hX0 hX1
        go_wp2
        go_roundw
        case rel =>
          have tn : Tn (fun q => q = w.heap.size + 1) X.val (put6 X.val (w.heap.size + 1) y) := put6_tn rfl
          refine ⟨i + 1, by omega, by go_num, ?_, ?_, ?_⟩
          · exact (tn.block _ (lt_of_block HX.out.1) (by omega)).trans HX.out.1
          · rw [HST.out, if_pos ht]; exact put6_block HX.out.2 y
          · exact (HB.out.trans (X.ok.mono HB.out.size)).trans (tn.below ((HB.out.trans (X.ok.mono HB.out.size)).size) (fun k hk => by omega))
        case measure => simp [intOf]; omega
      · have t1 : decide (Lib.compareInt y.nu m.nu < 0) = false := by unfold Lib.compareInt; rw [if_neg ht]; split <;> rfl
        go_wp2
        refine wp_region_held_lit (by kernel_rfl) (by kernel_rfl) ?_
        repeat (go_big_quiet_step ((go_at_call 24; exact calls_held (pick1_any y m _))))
        refine wpQuiet_nil ?_
        intro _ hw'
        obtain ⟨X, hw''⟩ := hw'
        subst hw''
        go_wp2
        go_roundw
        case rel =>
          refine ⟨i + 1, by omega, by go_num, ?_, ?_, ?_⟩
          · exact (X.ok.block _ (lt_of_block HH.out.1)).trans HH.out.1
          · rw [HST.out, if_neg (by omega), HM.out]; exact (X.ok.block _ (lt_of_block HH.out.2)).trans HH.out.2
          · exact HB.out.trans (X.ok.mono HB.out.size)
        case measure => simp [intOf]; omega
    · obtain rfl : i = len := by omega
      obtain ⟨d0, d1, d2, d3, d4, d5⟩ := hm1
      have f0 : ∀ j, wr.frozen? ⟨w.heap.size, j, none⟩ = false := fun j => frozen_of_block HH.out.1
      have f1 := here_of_block (x := ⟨0, 0, 0, 0, ⟨#[]⟩, ⟨#[]⟩⟩) h0
      obtain ⟨z0, z1, z2, z3, z4, z5⟩ := f1
      clear h0 h1 hm hbel
      go_wp2
      have HE : Hid (m = minF x L) := by unfold Hid; rw [HM.out, List.take_of_length_le (by have := HN.out; omega)]
      have hh := here_of_block (put6_block (x := ⟨0, 0, 0, 0, ⟨#[]⟩, ⟨#[]⟩⟩) HH.out.1 m)
      unfold put6 at hh
      obtain ⟨k0, k1, k2, k3, k4, k5⟩ := hh
      have tn : Tn (fun q => q = w.heap.size) wr (put6 wr w.heap.size m) := put6_tn rfl
      refine bodyPost_ret (v := (minF x L).val) (by rw [← HE.out]; simp [results, Tryz.results23, go_sem, Fi.val, k0, k1, k2, k3, k4, k5]) rfl ⟨rfl, ?_⟩
      exact HB.out.trans (tn.below HB.out.size (fun k hk => by omega))
end Go.Proofs.YtnfpnmfgppamgaaGreat
