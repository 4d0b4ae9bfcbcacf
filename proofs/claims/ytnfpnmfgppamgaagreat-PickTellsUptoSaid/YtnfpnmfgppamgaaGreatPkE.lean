/-
  alive answers true.
-/
import Derived.Test.YtnfpnmfgppamgaaGreatPkD
namespace Go.Proofs.YtnfpnmfgppamgaaGreat
open Go.RowKit

theorem inf_any (b : Nat) (hb : FloatKind.f64.format.order b 9218868437227405311 = some .gt) (w : World) :
    Calls Tryz.prog 20 #[.float .f64 b, .int .i64 1] w fun e w' => e = .returned (.bool true) ∧ w = w' := by
  go_enter Tryz.func20, Tryz.ntmps20
  go_wp2
  go_ret
  exact ⟨rfl, rfl⟩

def alF : Fi := ⟨1, 3, 0, 10, ⟨#[97]⟩, ⟨#[98]⟩⟩
def inf64 : Nat := 9218868437227405312
theorem al_sc1 : sc [alF] 0 4621819117588971520 1 = inf64 := by decide +kernel
theorem al_sc2 : isN (sc [alF] 0 4621819117588971520 2) = true := by decide +kernel
theorem al_infn : isN inf64 = false := by decide +kernel
theorem al_inf : FloatKind.f64.format.order inf64 9218868437227405311 = some .gt := by decide +kernel
theorem al_pick : pickOf [alF] 0 4621819117588971520 = (1, [3], true) := by decide +kernel
theorem al_none : pickOf [] 0 0 = (0, [], false) := by decide +kernel
theorem al_bytes : bytesOf [alF] 1 = 10 := by decide +kernel
theorem FEq.isN {a b : Nat} (h : FEq a b) : isN a = isN b := by
  rcases h with rfl | ⟨h1, h2⟩
  · rfl
  · rw [h1, h2]
theorem order_self_nan {a : Nat} (h : isN a = true) : FloatKind.f64.format.order a a = none := order_nan_l h

theorem OwnI.cell0 {w : World} {B n cap : Nat} {a : Option Addr} {k : Int} (h : OwnI w B (.slice a n cap) [k]) : ∃ g, a = some ⟨g, 0, none⟩ ∧ g < w.heap.size ∧ w.cell? ⟨g, 0, none⟩ = some (.int .i64 k) := by
  have h0 := h
  obtain ⟨h1, h2⟩ := h
  rcases h2 with ⟨_, h3⟩ | ⟨g, cap', cur, h2, hg, hh, hn', hc, hcl, htk⟩
  · simp at h3
  · cases h2
    refine ⟨g, rfl, (Array.getElem?_eq_some_iff.1 hh).1, ?_⟩
    rw [h0.cellAt 0 (by simp)]
    rfl
set_option maxRecDepth 100000 in
set_option maxHeartbeats 1000000 in
theorem alive_any (w : World) : Calls Tryz.prog 4 #[] w fun e w' => e = .returned (.bool true) ∧ Below w.heap.size w w' := by
  go_enter Tryz.func4, Tryz.ntmps4
  go_wp2_with fail
  obtain ⟨W1, hW1⟩ : ∃ W1, w.alloc (fobj alF) = W1 := ⟨_, rfl⟩
  have hW1' := hW1
  unfold fobj alF at hW1'
  simp only [] at hW1'
  simp only [hW1']
  have hf : FilesAt W1 (some ⟨w.heap.size, 0, none⟩) [alF] := by
    refine .inr ⟨_, _, rfl, by rw [← hW1]; simp, fun i hi => ?_⟩
    obtain rfl : i = 0 := by simpa using hi
    rw [← hW1]
    exact here_of_block (blk_new _ _)
  have hb1 : Below w.heap.size w W1 := by rw [← hW1]; exact (Below.refl _ _).alloc (Nat.le_refl _) _
  have HF := Lib.hid hf
  have HB1 := Lib.hid hb1
  clear hW1 hW1' hf hb1
  refine (scores_any HF.out 1 (by simp) 0 4621819117588971520).mono ?_
  rintro _ w2 ⟨a2, cap2, bs, rfl, ho2, hsd, hb2⟩
  simp only []
  obtain ⟨g2, rfl, hg2, hB2, hc2⟩ := OwnR.cell ho2 (by rw [hsd.1]; omega)
  have e1 : bs.getD 1 0 = inf64 := by
    rcases hsd.2 1 (by omega) with h | h
    · rw [h, al_sc1]
    · have := h.2; rw [al_sc1, al_infn] at this; cases this
  have e2 : isN (bs.getD 2 0) = true := by rw [(hsd.2 2 (by omega)).isN, al_sc2]
  have c1 := hc2 1 (by rw [hsd.1]; omega)
  have c2 := hc2 2 (by rw [hsd.1]; omega)
  rw [e1] at c1
  obtain ⟨r2, hr2⟩ : ∃ r2, r2 = bs.getD 2 0 := ⟨_, rfl⟩
  rw [← hr2] at c2 e2
  have HB2 := Lib.hid (HB1.out.trans (hb2.mono HB1.out.size))
  have HC2 := Lib.hid (And.intro c1 (And.intro c2 (And.intro hg2 e2)))
  have HF2 := Lib.hid (HF.out.below hb2)
  clear ho2 hsd hB2 hc2 e1 e2 c1 c2 hr2 hb2 hg2
  go_wp2_with fail
  refine (pick_any HF2.out 1 (by simp) 0 4621819117588971520).mono ?_
  simp only [al_pick]
  rintro _ w3 ⟨a3, cap3, rfl, ho3, hb3⟩
  simp only []
  obtain ⟨g3, rfl, hg3, hc3⟩ := OwnI.cell0 ho3
  have HB3 := Lib.hid (HB2.out.trans (hb3.mono HB2.out.size))
  have HC3 := Lib.hid (And.intro hc3 hg3)
  have HF3 := Lib.hid (HF2.out.below' rfl hb3)
  have d1 := (hb3.cell (p := ⟨g2, 1, none⟩) HC2.out.2.2.1).trans HC2.out.1
  have d2 := (hb3.cell (p := ⟨g2, 2, none⟩) HC2.out.2.2.1).trans HC2.out.2.1
  have HD := Lib.hid (And.intro d1 d2)
  have HG2 := Lib.hid (Nat.lt_of_lt_of_le HC2.out.2.2.1 hb3.size)
  clear ho3 hb3 hc3 hg3 d1 d2
  go_wp2_with fail
  refine (pick_any (L := []) (a := none) (.inl rfl) 0 (by simp) 0 0).mono ?_
  simp only [al_none]
  rintro _ w4 ⟨a4, cap4, rfl, _, hb4⟩
  simp only []
  have HB4 := Lib.hid (HB3.out.trans (hb4.mono HB3.out.size))
  have hf4 := HF3.out.below' rfl hb4
  have d1 := (hb4.cell (p := ⟨g2, 1, none⟩) HG2.out).trans HD.out.1
  have d2 := (hb4.cell (p := ⟨g2, 2, none⟩) HG2.out).trans HD.out.2
  have d3 := (hb4.cell (p := ⟨g3, 0, none⟩) HC3.out.2).trans HC3.out.1
  have k1 : ∀ x : HW w4, x.val.cell? ⟨g2, 1, none⟩ = some (.float .f64 inf64) := fun x => (x.ok.cell (p := ⟨g2, 1, none⟩) (World.block_lt_of_cell? _ _ d1)).trans d1
  have k2 : ∀ x : HW w4, x.val.cell? ⟨g2, 2, none⟩ = some (.float .f64 r2) := fun x => (x.ok.cell (p := ⟨g2, 2, none⟩) (World.block_lt_of_cell? _ _ d2)).trans d2
  have k3 : ∀ x : HW w4, x.val.cell? ⟨g3, 0, none⟩ = some (.int .i64 3) := fun x => (x.ok.cell (p := ⟨g3, 0, none⟩) (World.block_lt_of_cell? _ _ d3)).trans d3
  have hby : ∀ x : HW w4, Calls Tryz.prog 14 #[.slice (some ⟨w.heap.size, 0, none⟩) 1 1, .int .i64 1] x.val fun e w' => e = .returned (.int .i64 10) ∧ Below x.val.heap.size x.val w' := fun x => by
    have h := bytes_any (hf4.below' rfl x.ok) 1 (by simp) 1
    rw [al_bytes] at h
    exact h
  have HBY := Lib.hid hby
  have hnn : (FloatKind.f64.format.order r2 r2 != some Ordering.eq) = true := by rw [order_self_nan HC2.out.2.2.2]; rfl
  clear hb4 hf4 d1 d2 d3 hby
  go_wp2
  refine wp_region_held_lit (by kernel_rfl) (by kernel_rfl) ?_
  repeat (go_big_quiet_step (first
    | (go_at_call 20; exact calls_held_same (inf_any _ al_inf _))
    | (go_at_call 14; exact calls_held (HBY.out _))))
  refine wpQuiet_nil ?_
  intro _ hw'
  obtain ⟨X, hw''⟩ := hw'
  subst hw''
  go_wp2
  go_ret
  exact ⟨rfl, HB4.out.trans (X.ok.mono HB4.out.size)⟩
end Go.Proofs.YtnfpnmfgppamgaaGreat
