/-
  The walk of New; the calls at a nil and at a zero net.
-/
import Derived.Test.YtanekdcmealoeaaNetM
namespace Go.Proofs.Ytanekdcmealoeaa
open Go.RowKit Go.Maps

def St.new (n : Int) : St := ⟨n, [], fun _ _ => false, 0⟩

/-- A new net stands in the world, in new blocks. -/
def NewNet (B : Nat) (w w' : World) (v : Value) (n : Int) : Prop :=
  ∃ nb mb lv, v = .pointer (some ⟨nb, 0, none⟩) ∧ NetAt w' nb mb lv 0 (St.new n) ∧ Below B w w' ∧ ∀ k, Foot nb mb lv k → B ≤ k

set_option maxRecDepth 100000 in
theorem new_ok (w : World) (n : Int) (h1 : 1 ≤ n) (h8 : n ≤ 8) :
    Calls Try.prog 9 #[.int .i64 n] w fun e w' => ∃ v, e = .returned v ∧ NewNet w.heap.size w w' v n := by
  have t1 : decide (n < 1) = false := by simp; omega
  have t1n : ¬ n < 1 := by omega
  have t2 : decide (8 < n) = false := by simp; omega
  have t2n : ¬ 8 < n := by omega
  have hz : ∀ w, (zeroValue 51).run Try.prog w = .ok (.agg #[.int .i64 0, .slice none 0 0, .map none, .int .i64 0]) w := fun _ => by kernel_rfl
  have hmk : ∀ w, (Instr.makeMap 49 none).run Try.prog w = .ok (.map (some w.heap.size)) (w.alloc (.map #[] 0)) := fun _ => rfl
  go_enter Try.func9, Try.ntmps9
  go_wp2_with fail
  refine ⟨rfl, .pointer (some ⟨w.heap.size + 1, 0, none⟩), ?_, _, rfl, w.heap.size + 1, w.heap.size, .slice none 0 0, rfl, ?_, ((Below.refl _ _).alloc (Nat.le_refl _) _).alloc (by simp) _, ?_⟩
  · simp [results, Try.results9, go_sem]
  · refine ⟨?_, ?_, ?_, ?_, fun j => ?_, World.ownsRow_nil _ _ _ _, ⟨.map [], (World.ownsMap_made w _ _ _).alloc _, fun _ _ _ _ => rfl⟩, by omega, by simp [Value.ownBlock], by simp [Value.ownBlock], h1, h8, by simp [St.new], by simp [St.new], by simp [St.new]⟩ <;> simp [go_sem, St.new]
  · rintro k (rfl | rfl | hk)
    · omega
    · exact Nat.le_refl _
    · simp [Value.ownBlock] at hk

theorem nil_send (a b : Int) (d : ByteArray) (w : World) : Calls Try.prog 10 #[.pointer none, .int .i64 a, .int .i64 b, .string d] w fun e w' => e = .returned (.int .i64 1) ∧ w = w' := by
  go_enter Try.func10, Try.ntmps10
  go_wp2
  go_ret
  exact ⟨rfl, rfl⟩

theorem nil_cut (a b : Int) (x : Bool) (w : World) : Calls Try.prog 14 #[.pointer none, .int .i64 a, .int .i64 b, .bool x] w fun e w' => e = .returned (.int .i64 1) ∧ w = w' := by
  go_enter Try.func14, Try.ntmps14
  go_wp2
  go_ret
  exact ⟨rfl, rfl⟩

theorem nil_iscut (a b : Int) (w : World) : Calls Try.prog 15 #[.pointer none, .int .i64 a, .int .i64 b] w fun e w' => e = .returned (.bool false) ∧ w = w' := by
  go_enter Try.func15, Try.ntmps15
  go_wp2
  go_ret
  exact ⟨rfl, rfl⟩

theorem nil_len (w : World) : Calls Try.prog 12 #[.pointer none] w fun e w' => e = .returned (.int .i64 0) ∧ w = w' := by
  go_enter Try.func12, Try.ntmps12
  go_wp2
  go_ret
  exact ⟨rfl, rfl⟩

theorem nil_lost (w : World) : Calls Try.prog 13 #[.pointer none] w fun e w' => e = .returned (.int .i64 0) ∧ w = w' := by
  go_enter Try.func13, Try.ntmps13
  go_wp2
  go_ret
  exact ⟨rfl, rfl⟩
end Go.Proofs.Ytanekdcmealoeaa
