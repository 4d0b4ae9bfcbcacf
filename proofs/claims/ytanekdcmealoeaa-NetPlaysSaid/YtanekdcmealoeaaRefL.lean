/-
  The law NetPlays: plain facts, and small walks.
-/
import Derived.Test.YtanekdcmealoeaaRefK
namespace Go.Proofs.Ytanekdcmealoeaa
open Go.RowKit Go.Maps

theorem lose_lost (s : St) : s.lose.lost ≤ s.lost + 1 := by
  unfold St.lose
  split
  · exact Int.le_refl (s.lost + 1)
  · omega
theorem send_lost (s : St) (a b : Int) (d : ByteArray) : (s.send a b d).lost ≤ s.lost + 1 := by
  unfold St.send
  split
  · omega
  · split
    · omega
    · split
      · exact lose_lost s
      · simp [St.add]; omega
theorem deliver_lost (s : St) (i : Int) : (s.deliver i).lost = s.lost := by unfold St.deliver; split <;> rfl
theorem drop_lost (s : St) (i : Int) : (s.drop i).lost ≤ s.lost + 1 := by
  unfold St.drop
  split
  · have := lose_lost (s.take i.toNat); exact this
  · omega
theorem twice_lost (s : St) (i : Int) : (s.twice i).lost = s.lost := by
  unfold St.twice
  split
  · split <;> rfl
  · rfl
theorem cuts_lost (s : St) (a b : Int) (x : Bool) : (s.cuts a b x).lost = s.lost := by unfold St.cuts; split <;> rfl

set_option maxRecDepth 100000 in
theorem new_none (w : World) (n : Int) (h : n < 1 ∨ 8 < n) : Calls Try.prog 9 #[.int .i64 n] w fun e w' => e = .returned (.pointer none) ∧ w = w' := by
  by_cases h1 : n < 1
  · have t1 : decide (n < 1) = true := by simpa using h1
    clear h
    go_enter Try.func9, Try.ntmps9
    go_wp2
    go_ret
    exact ⟨rfl, rfl⟩
  · have t1 : decide (n < 1) = false := by simpa using h1
    have t2 : decide (8 < n) = true := by simp; omega
    have h8 : 8 < n := by omega
    clear h
    go_enter Try.func9, Try.ntmps9
    go_wp2
    go_ret
    exact ⟨rfl, rfl⟩

/-- A new net beside a new one of the document's. -/
theorem pair_new {B : Nat} {w : World} {nb : Nat} {n : Int} (h : NAt B w nb 0 (St.new n)) (h1 : 1 ≤ n) (h8 : n ≤ 8) (W : World) (hW : W = w.alloc (.cells #[.int .i64 n, .slice none 0 0, .slice none 0 0, .int .i64 0] 44)) :
    Pair B W nb w.heap.size 0 0 (St.new n) (St.new n) ∧ Below w.heap.size w W := by
  obtain ⟨h0, mb, lv, hn, hf⟩ := h
  have hb : Below w.heap.size w W := by rw [hW]; exact (Below.refl _ _).alloc (Nat.le_refl _) _
  refine ⟨⟨Nat.le_trans h0 hb.size, mb, lv, .slice none 0 0, .slice none 0 0, [], hn.below hb, ?_, by simp, ?_, hf, ?_⟩, hb⟩
  · rw [hW]
    refine ⟨?_, ?_, ?_, ?_, fun j => ?_, World.ownsRow_nil _ _ _ _, World.ownsRow_nil _ _ _ _, fun _ _ => rfl, by simp [Value.ownBlock], by simp [Value.ownBlock], h1, h8, by simp [St.new], by simp [St.new]⟩ <;> simp [go_sem, St.new]
  · intro k hk he
    have := hn.foot_lt k hk
    rcases he with he | he | he
    · omega
    · simp [Value.ownBlock] at he
    · simp [Value.ownBlock] at he
  · intro k he
    rcases he with he | he | he
    · omega
    · simp [Value.ownBlock] at he
    · simp [Value.ownBlock] at he

theorem op_set {w : World} {ob : Nat} (h0 : ∃ v, w.cell? ⟨ob, 0, none⟩ = some v) (h1 : ∃ v, w.cell? ⟨ob, 1, none⟩ = some v) (h2 : ∃ v, w.cell? ⟨ob, 2, none⟩ = some v) (h3 : ∃ v, w.cell? ⟨ob, 3, none⟩ = some v) (o : LOp) :
    OAt ((((w.setCell ⟨ob, 0, none⟩ (.int .i64 o.k)).setCell ⟨ob, 1, none⟩ (.int .i64 o.a)).setCell ⟨ob, 2, none⟩ (.int .i64 o.b)).setCell ⟨ob, 3, none⟩ (.string o.d)) ob o := by
  obtain ⟨v0, h0⟩ := h0
  obtain ⟨v1, h1⟩ := h1
  obtain ⟨v2, h2⟩ := h2
  obtain ⟨v3, h3⟩ := h3
  have n01 : (⟨ob, 0, none⟩ : Addr) ≠ ⟨ob, 1, none⟩ := ne_off (by decide)
  have n02 : (⟨ob, 0, none⟩ : Addr) ≠ ⟨ob, 2, none⟩ := ne_off (by decide)
  have n03 : (⟨ob, 0, none⟩ : Addr) ≠ ⟨ob, 3, none⟩ := ne_off (by decide)
  have n12 : (⟨ob, 1, none⟩ : Addr) ≠ ⟨ob, 2, none⟩ := ne_off (by decide)
  have n13 : (⟨ob, 1, none⟩ : Addr) ≠ ⟨ob, 3, none⟩ := ne_off (by decide)
  have n23 : (⟨ob, 2, none⟩ : Addr) ≠ ⟨ob, 3, none⟩ := ne_off (by decide)
  refine ⟨?_, ?_, ?_, ?_⟩
  · rw [World.cell?_setCell_other _ _ _ _ n03.symm, World.cell?_setCell_other _ _ _ _ n02.symm, World.cell?_setCell_other _ _ _ _ n01.symm, World.cell?_setCell_same _ _ _ h0]
  · rw [World.cell?_setCell_other _ _ _ _ n13.symm, World.cell?_setCell_other _ _ _ _ n12.symm, World.cell?_setCell_same _ _ _ (by rw [World.cell?_setCell_other _ _ _ _ n01]; exact h1)]
  · rw [World.cell?_setCell_other _ _ _ _ n23.symm, World.cell?_setCell_same _ _ _ (by rw [World.cell?_setCell_other _ _ _ _ n12, World.cell?_setCell_other _ _ _ _ n02]; exact h2)]
  · exact World.cell?_setCell_same _ _ _ (by rw [World.cell?_setCell_other _ _ _ _ n23, World.cell?_setCell_other _ _ _ _ n13, World.cell?_setCell_other _ _ _ _ n03]; exact h3)

theorem piscut_low {B : Nat} {w : World} {nb rb c q : Nat} {s1 s2 : St} (h : Pair B w nb rb c q s1 s2) (a b : Int) (ha : (Lit.int .i64 a).wf = true) (hb : (Lit.int .i64 b).wf = true) :
    Calls Try.prog 15 #[.pointer (some ⟨nb, 0, none⟩), .int .i64 a, .int .i64 b] w fun e w' => e = .returned (.bool (s1.cut a b)) ∧ Below w.heap.size w w' := by
  obtain ⟨mb, lv, hn, _⟩ := h.net
  exact iscut_any hn a b ha hb
end Go.Proofs.Ytanekdcmealoeaa
