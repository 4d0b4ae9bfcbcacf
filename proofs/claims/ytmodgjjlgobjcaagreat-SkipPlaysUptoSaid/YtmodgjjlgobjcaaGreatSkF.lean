/-
  put of a key that is there; Put.
-/
import Derived.Test.YtmodgjjlgobjcaaGreatSkE
import Derived.Defers
import Derived.Recover
import Derived.Laws.Pointers
namespace Go.Proofs.YtmodgjjlgobjcaaGreat
open Go.RowKit

set_option maxRecDepth 100000 in
set_option maxHeartbeats 300000 in
theorem put_there {w : World} {sb : Nat} {L : List Nd} (s : SkAt w sb L false) (k v : ByteArray) (h : Int) (hk : k.size ≤ 65536) (hv : v.size ≤ 65536) (n : Nd) (hin : L[below L k]? = some n) (hnk : n.k = k) :
    Calls Tryz.prog 29 #[.pointer (some ⟨sb, 0, none⟩), .string k, .string v, .int .i64 h] w fun e w' => e = errPanic 23 ∧ Below w.heap.size w w' := by
  have hf := s.frz
  have t1 : decide ((65536 : Int) < (k.size : Int)) = false := by simp; omega
  have t2 : decide ((65536 : Int) < (v.size : Int)) = false := by simp; omega
  have t1n : ¬ 65536 < k.size := by omega
  have t2n : ¬ 65536 < v.size := by omega
  have HS := Lib.hid s
  have HK := Lib.hid (And.intro hk (And.intro hv (And.intro hin hnk)))
  clear s hk hv hin hnk
  go_enter Tryz.func29, Tryz.ntmps29
  go_wp2_with fail
  refine (before_lit HS.out k).mono ?_
  rintro _ W1 ⟨f, hfp, rfl, hb1⟩
  have HF := Lib.hid hfp
  have HB1 := Lib.hid hb1
  have HS1 := Lib.hid (HS.out.below hb1)
  obtain ⟨W2, hW2⟩ : ∃ W2, W1.alloc (.cells nils 31) = W2 := ⟨_, rfl⟩
  obtain ⟨ab, hab⟩ : ∃ ab, W1.heap.size = ab := ⟨_, rfl⟩
  have hc2 : ∀ j, j < 12 → W2.cell? ⟨ab, j, none⟩ = some (.pointer none) := by
    intro j hj
    rw [← hW2, ← hab, World.cell?_alloc_mark]
    exact nils_get j hj
  have hf2 : ∀ j, W2.frozen? ⟨ab, j, none⟩ = false := by intro j; rw [← hW2, ← hab]; simp [go_sem]
  have hb2 : Below ab W1 W2 := by rw [← hab, ← hW2]; exact (Below.refl _ _).alloc (Nat.le_refl _) _
  have c0 : W2.cell? ⟨ab, 0, none⟩ = some (.pointer none) := hc2 0 (by omega)
  have c1 : W2.cell? ⟨ab, 1, none⟩ = some (.pointer none) := hc2 1 (by omega)
  have c2 : W2.cell? ⟨ab, 2, none⟩ = some (.pointer none) := hc2 2 (by omega)
  have c3 : W2.cell? ⟨ab, 3, none⟩ = some (.pointer none) := hc2 3 (by omega)
  have c4 : W2.cell? ⟨ab, 4, none⟩ = some (.pointer none) := hc2 4 (by omega)
  have c5 : W2.cell? ⟨ab, 5, none⟩ = some (.pointer none) := hc2 5 (by omega)
  have c6 : W2.cell? ⟨ab, 6, none⟩ = some (.pointer none) := hc2 6 (by omega)
  have c7 : W2.cell? ⟨ab, 7, none⟩ = some (.pointer none) := hc2 7 (by omega)
  have c8 : W2.cell? ⟨ab, 8, none⟩ = some (.pointer none) := hc2 8 (by omega)
  have c9 : W2.cell? ⟨ab, 9, none⟩ = some (.pointer none) := hc2 9 (by omega)
  have c10 : W2.cell? ⟨ab, 10, none⟩ = some (.pointer none) := hc2 10 (by omega)
  have c11 : W2.cell? ⟨ab, 11, none⟩ = some (.pointer none) := hc2 11 (by omega)
  obtain ⟨W3, hW3⟩ : ∃ W3, chain W2 ab (fun j => Value.pointer (some ⟨blk sb L (f j), 0, none⟩)) 12 = W3 := ⟨_, rfl⟩
  have hb3 : Below ab W1 W3 := by
    rw [← hW3]
    exact hb2.trans ((chain_tn _ _ _ 12).below (by rw [← hab]; exact hb2.size) (fun q e => by have e : q = ab := e; omega))
  have hc3 : ∀ j, j < 12 → W3.cell? ⟨ab, j, none⟩ = some (.pointer (some ⟨blk sb L (f j), 0, none⟩)) := by
    intro j hj
    rw [← hW3, chain_get _ _ _ 12 (fun j hj => ⟨_, hc2 j hj⟩) 12 (by omega) j hj, if_pos hj]
  have HS3 := Lib.hid (HS1.out.below (hab ▸ hb3))
  have HB3 := Lib.hid hb3
  have HC3 := Lib.hid hc3
  have x0 := hc3 0 (by omega)
  have hp0 := Lib.hid (pos0 HS.out.hts (hfp 0 (by omega)))
  have x1 : W3.cell? ⟨blk sb L (f 0), 3, none⟩ = some (ptr (L[f 0]?.map (·.b))) := by
    have := HS3.out.next (h := 0) (by omega) (hfp 0 (by omega)).1
    rw [nxt0 HS.out.hts] at this
    exact this
  simp only [chain] at hW3
  obtain ⟨a0, ha0⟩ : ∃ a0, a0 = blk sb L (f 0) := ⟨_, rfl⟩
  unfold nils at hW2
  simp only [List.replicate] at hW2
  clear hc2 hfp hb1 hb2 hb3 hc3
  have hx : L[f 0]? = some n := by rw [hp0.out]; exact HK.out.2.2.1
  rw [hx] at x1
  have x2 : W3.cell? ⟨blk sb L (f 0), 3, none⟩ = some (.pointer (some ⟨n.b, 0, none⟩)) := x1
  have x3 : W3.cell? ⟨n.b, 0, none⟩ = some (.string k) := by
    obtain ⟨h1, h2⟩ := List.getElem?_eq_some_iff.1 hx
    have := (HS3.out.node (f 0) h1).c0
    rw [h2, HK.out.2.2.2] at this
    exact this
  have HBE : Hid (Below w.heap.size w W3) := HB1.out.trans (HB3.out.mono (Nat.le_trans HB1.out.size (Nat.le_of_eq hab)))
  clear x1 hx
  simp only []
  go_wp2
  exact ⟨rfl, rfl, HBE.out⟩

theorem assert_errno (x : Value) (w : World) : (Instr.typeAssert (.iface 55 x) 20 55 true).run Tryz.prog w = .ok (.tuple #[x, .bool true]) w := by kernel_rfl

theorem put_catch (a : Nat) (code : Int) (w : World) (fa : w.frozen? ⟨a, 0, none⟩ = false) (ca : ∃ v, w.cell? ⟨a, 0, none⟩ = some v) :
    CallsD Tryz.prog 28 #[.pointer (some ⟨a, 0, none⟩)] (.panicking [{ v := .iface 55 (.int .i64 code), recovered := false }]) w fun e u' w' =>
      e = .returned (.tuple #[]) ∧ u' = .panicking [{ v := .iface 55 (.int .i64 code), recovered := true }] ∧ w' = w.setCell ⟨a, 0, none⟩ (.int .i64 code) := by
  obtain ⟨va, ca⟩ := ca
  refine callsD_of_wpS Tryz.func28 rfl fun c₀ cs hu => ?_
  apply wpS_seq
  apply wpS_region
  simp [wpOpsS, go_sem, recoverD, hu, Tryz.ntmps28, Exit.thenS]
  refine wpS_of_wp ?_
  simp only [List.replicate, Array.replicate, List.append_toArray, List.setIfInBounds_toArray, List.set_cons_zero, List.set_cons_succ, List.cons_append, List.nil_append]
  have hta := assert_errno
  have hnot : ∀ (x : Bool) (w : World), (Op.unary .not (.bool x)).run Tryz.prog w = .ok (.bool (!x)) w := fun _ _ => rfl
  go_wp2
  exact ⟨rfl, _, rfl, _, results_none rfl _ _ _, rfl, rfl, rfl⟩

theorem put_idle (a : Nat) (w : World) :
    CallsD Tryz.prog 28 #[.pointer (some ⟨a, 0, none⟩)] .returning w fun e u' w' => e = .returned (.tuple #[]) ∧ u' = .returning ∧ w' = w := by
  refine callsD_of_wpS Tryz.func28 rfl fun c₀ cs hu => ?_
  apply wpS_seq
  apply wpS_region
  simp [wpOpsS, go_sem, recoverD, hu, Tryz.ntmps28, Exit.thenS]
  refine wpS_of_wp ?_
  simp only [List.replicate, Array.replicate, List.append_toArray, List.setIfInBounds_toArray, List.set_cons_zero, List.set_cons_succ, List.cons_append, List.nil_append]
  go_wp2
  refine ⟨rfl, .returning, ?_, _, results_none rfl _ _ _, rfl, rfl, rfl⟩
  cases c₀
  simp_all

set_option maxRecDepth 100000 in
/-- Put, over whatever put does. -/
theorem Put_run (p : Value) (k v : ByteArray) (h : Int) (w : World) (R : Int → World → World → Prop)
    (hdo : ∀ W, Below w.heap.size w W → w.heap.size < W.heap.size → Calls Tryz.prog 29 #[p, .string k, .string v, .int .i64 h] W fun e w' =>
      ((e = .returned (.tuple #[]) ∧ R 0 W w') ∨ ∃ code, e = errPanic code ∧ R code W w') ∧ w'.heap[w.heap.size]? = W.heap[w.heap.size]?) :
    Calls Tryz.prog 6 #[p, .string k, .string v, .int .i64 h] w fun e w' =>
      ∃ code W w2, e = .returned (.int .i64 code) ∧ Below w.heap.size w W ∧ w.heap.size < W.heap.size ∧ R code W w2 ∧ w' = w2.setCell ⟨w.heap.size, 0, none⟩ (.int .i64 code) := by
  have hmf : ∀ (fn : Fn) (first cap : Array Value) (w : World), (Instr.makeFunc fn first cap).run Tryz.prog w = .ok (.func fn first cap) w := fun _ _ _ _ => rfl
  have b1 : Below w.heap.size w (w.alloc (.cells #[.int .i64 0] 55)) := (Below.refl _ _).alloc (Nat.le_refl _) _
  have hsz : (w.alloc (.cells #[.int .i64 0] 55)).heap.size = w.heap.size + 1 := by simp
  have c1 : (w.alloc (.cells #[.int .i64 0] 55)).cell? ⟨w.heap.size, 0, none⟩ = some (.int .i64 0) := by simp [go_sem]
  have f1 : (w.alloc (.cells #[.int .i64 0] 55)).frozen? ⟨w.heap.size, 0, none⟩ = false := by simp [go_sem]
  generalize hW : (w.alloc (.cells #[.int .i64 0] 55)) = W at *
  have HW := Lib.hid hW
  clear hW
  have HDO := Lib.hid hdo
  clear hdo
  go_enter_defers Tryz.func6, Tryz.ntmps6
  go_wp2_with fail
  rw [HW.out]
  have hlt : w.heap.size < W.heap.size := by omega
  refine (HDO.out W b1 hlt).mono ?_
  rintro e w2 ⟨⟨rfl, hR⟩ | ⟨code, rfl, hR⟩, hkeep⟩
  · have d2 := (World.cell?_of_block (a := ⟨w.heap.size, 0, none⟩) hkeep).trans c1
    have g2 := (World.frozen?_of_block (a := ⟨w.heap.size, 0, none⟩) hkeep).trans f1
    clear c1 f1
    go_wp2
    refine leaves_cons (f := 28) (args := #[.pointer (some ⟨w.heap.size, 0, none⟩)]) (by simp) (by simp [go_sem]) ?_
    refine (put_idle _ _).mono ?_
    rintro e u' w'' ⟨rfl, rfl, rfl⟩
    simp [Leaves, settle, results, Tryz.results6, go_sem]
    rw [World.cell?_setCell_same _ _ _ d2]
    exact ⟨_, rfl, 0, rfl, W, b1, hlt, w2, hR, rfl⟩
  · have d2 := (World.cell?_of_block (a := ⟨w.heap.size, 0, none⟩) hkeep).trans c1
    have g2 := (World.frozen?_of_block (a := ⟨w.heap.size, 0, none⟩) hkeep).trans f1
    clear c1 f1
    go_wp2
    refine leaves_cons (f := 28) (args := #[.pointer (some ⟨w.heap.size, 0, none⟩)]) (by simp) (by simp [go_sem]) ?_
    refine (put_catch _ _ _ g2 ⟨_, d2⟩).mono ?_
    rintro e u' w'' ⟨rfl, rfl, rfl⟩
    simp [Leaves, settle, results, Tryz.results6, go_sem]
    rw [World.cell?_setCell_same _ _ _ d2]
    exact ⟨_, rfl, code, rfl, W, b1, hlt, w2, hR, rfl⟩
end Go.Proofs.YtmodgjjlgobjcaaGreat
