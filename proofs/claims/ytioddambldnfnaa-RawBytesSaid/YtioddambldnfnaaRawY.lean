/-
  The walk of raw.Unquote: a panic of unquote's is met.
-/
import Derived.Test.YtioddambldnfnaaRawX
import Derived.Defers
import Derived.Recover
import Derived.Laws.Pointers
namespace Go.Proofs.Ytioddambldnfnaa
open Go.RowKit

theorem assert_errno2 (x : Value) (w : World) : (Instr.typeAssert (.iface 27 x) 20 27 true).run Try.prog w = .ok (.tuple #[x, .bool true]) w := by kernel_rfl

theorem unquote_catch (a b c : Nat) (code : Int) (w : World) (fa : w.frozen? ⟨a, 0, none⟩ = false) (fb : w.frozen? ⟨b, 0, none⟩ = false) (fc : w.frozen? ⟨c, 0, none⟩ = false)
    (ca : ∃ v, w.cell? ⟨a, 0, none⟩ = some v) (cb : ∃ v, w.cell? ⟨b, 0, none⟩ = some v) (cc : ∃ v, w.cell? ⟨c, 0, none⟩ = some v) (hab : a ≠ b) (hac : a ≠ c) (hbc : b ≠ c) :
    CallsD Try.prog 36 #[.pointer (some ⟨a, 0, none⟩), .pointer (some ⟨b, 0, none⟩), .pointer (some ⟨c, 0, none⟩)] (.panicking [{ v := .iface 27 (.int .i64 code), recovered := false }]) w fun e u' w' =>
      e = .returned (.tuple #[]) ∧ u' = .panicking [{ v := .iface 27 (.int .i64 code), recovered := true }] ∧
      w' = ((w.setCell ⟨a, 0, none⟩ (.string ⟨#[]⟩)).setCell ⟨b, 0, none⟩ (.int .i64 0)).setCell ⟨c, 0, none⟩ (.int .i64 code) := by
  obtain ⟨va, ca⟩ := ca
  obtain ⟨vb, cb⟩ := cb
  obtain ⟨vc, cc⟩ := cc
  refine callsD_of_wpS Try.func36 rfl fun c₀ cs hu => ?_
  apply wpS_seq
  apply wpS_region
  simp [wpOpsS, go_sem, recoverD, hu, Try.ntmps36, Exit.thenS]
  refine wpS_of_wp ?_
  simp only [List.replicate, Array.replicate, List.append_toArray, List.setIfInBounds_toArray, List.set_cons_zero, List.set_cons_succ, List.cons_append, List.nil_append]
  have hta := assert_errno2
  have hnot : ∀ (x : Bool) (w : World), (Op.unary .not (.bool x)).run Try.prog w = .ok (.bool (!x)) w := fun _ _ => rfl
  go_wp2
  exact ⟨rfl, _, rfl, _, results_none rfl _ _ _, rfl, rfl, rfl⟩

theorem unquote_idle (a b c : Nat) (w : World) :
    CallsD Try.prog 36 #[.pointer (some ⟨a, 0, none⟩), .pointer (some ⟨b, 0, none⟩), .pointer (some ⟨c, 0, none⟩)] .returning w fun e u' w' => e = .returned (.tuple #[]) ∧ u' = .returning ∧ w' = w := by
  refine callsD_of_wpS Try.func36 rfl fun c₀ cs hu => ?_
  apply wpS_seq
  apply wpS_region
  simp [wpOpsS, go_sem, recoverD, hu, Try.ntmps36, Exit.thenS]
  refine wpS_of_wp ?_
  simp only [List.replicate, Array.replicate, List.append_toArray, List.setIfInBounds_toArray, List.set_cons_zero, List.set_cons_succ, List.cons_append, List.nil_append]
  go_wp2
  refine ⟨rfl, .returning, ?_, _, results_none rfl _ _ _, rfl, rfl, rfl⟩
  cases c₀
  simp_all

theorem three_cells (w : World) (k : Nat) (x y z : Value) {u v t : Value} (cu : w.cell? ⟨k, 0, none⟩ = some u) (cv : w.cell? ⟨k + 1, 0, none⟩ = some v) (ct : w.cell? ⟨k + 1 + 1, 0, none⟩ = some t) :
    (((w.setCell ⟨k, 0, none⟩ x).setCell ⟨k + 1, 0, none⟩ y).setCell ⟨k + 1 + 1, 0, none⟩ z).cell? ⟨k, 0, none⟩ = some x ∧
    (((w.setCell ⟨k, 0, none⟩ x).setCell ⟨k + 1, 0, none⟩ y).setCell ⟨k + 1 + 1, 0, none⟩ z).cell? ⟨k + 1, 0, none⟩ = some y ∧
    (((w.setCell ⟨k, 0, none⟩ x).setCell ⟨k + 1, 0, none⟩ y).setCell ⟨k + 1 + 1, 0, none⟩ z).cell? ⟨k + 1 + 1, 0, none⟩ = some z := by
  have n1 : (⟨k + 1, 0, none⟩ : Addr) ≠ ⟨k, 0, none⟩ := by intro e; injection e with e1; omega
  have n2 : (⟨k + 1 + 1, 0, none⟩ : Addr) ≠ ⟨k, 0, none⟩ := by intro e; injection e with e1; omega
  have n3 : (⟨k + 1 + 1, 0, none⟩ : Addr) ≠ ⟨k + 1, 0, none⟩ := by intro e; injection e with e1; omega
  refine ⟨?_, ?_, ?_⟩
  · rw [World.cell?_setCell_other _ _ _ _ n2, World.cell?_setCell_other _ _ _ _ n1]
    exact World.cell?_setCell_same _ _ _ cu
  · rw [World.cell?_setCell_other _ _ _ _ n3]
    exact World.cell?_setCell_same _ _ _ (u := v) (by rw [World.cell?_setCell_other _ _ _ _ n1.symm]; exact cv)
  · exact World.cell?_setCell_same _ _ _ (u := t) (by rw [World.cell?_setCell_other _ _ _ _ n3.symm, World.cell?_setCell_other _ _ _ _ n2.symm]; exact ct)

/-- A function that has returned, its three results in variables. -/
theorem leaves_three {P : Program} {fn : Func} {tmps : Array Value} {R : Ending → World → Prop} {w : World} {p q r : Tmp} {t1 t2 t3 : TypeId} {A B C : Addr} {x y z : Value}
    (h : fn.results = #[.cell p t1, .cell q t2, .cell r t3]) (hp : tmps.getD p undef = .pointer (some A)) (hq : tmps.getD q undef = .pointer (some B)) (hr : tmps.getD r undef = .pointer (some C))
    (l1 : (loadVar t1 A).run P w = .ok x w) (l2 : (loadVar t2 B).run P w = .ok y w) (l3 : (loadVar t3 C).run P w = .ok z w) (hR : R (.returned (.tuple #[x, y, z])) w) :
    Leaves P fn tmps R [] .returning w := by
  refine ⟨_, ?_, hR⟩
  have hp' : tmps[p]?.getD undef = .pointer (some A) := by simpa using hp
  have hq' : tmps[q]?.getD undef = .pointer (some B) := by simpa using hq
  have hr' : tmps[r]?.getD undef = .pointer (some C) := by simpa using hr
  simp [results, h, hp', hq', hr', asAddr, l1, l2, l3]

/-- What Unquote answers. -/
def unqAns (l : List UInt8) : Value := match Rw.unqF l with
  | some (b, n) => .tuple #[.string ⟨b.toArray⟩, .int .i64 (n : Int), .int .i64 0]
  | none => .tuple #[.string ⟨#[]⟩, .int .i64 0, .int .i64 4]

set_option maxRecDepth 100000 in
theorem unquote_any (s : ByteArray) (w : World) (hs : s.size ≤ 140737488351232) :
    Calls Try.prog 27 #[.string s] w fun e w' => e = .returned (unqAns s.data.toList) ∧ Below w.heap.size w w' := by
  have hmf : ∀ (fn : Fn) (first cap : Array Value) (w : World), (Instr.makeFunc fn first cap).run Try.prog w = .ok (.func fn first cap) w := fun _ _ _ _ => rfl
  have b3 : Below w.heap.size w (((w.alloc (.cells #[.string ⟨#[]⟩] 9)).alloc (.cells #[.int .i64 0] 3)).alloc (.cells #[.int .i64 0] 27)) :=
    (((Below.refl _ _).alloc (Nat.le_refl _) _).alloc (by simp) _).alloc (by simp; omega) _
  have hsz : (((w.alloc (.cells #[.string ⟨#[]⟩] 9)).alloc (.cells #[.int .i64 0] 3)).alloc (.cells #[.int .i64 0] 27)).heap.size = w.heap.size + 3 := by simp
  have c1 : (((w.alloc (.cells #[.string ⟨#[]⟩] 9)).alloc (.cells #[.int .i64 0] 3)).alloc (.cells #[.int .i64 0] 27)).cell? ⟨w.heap.size, 0, none⟩ = some (.string ⟨#[]⟩) := by simp [go_sem]
  have c2 : (((w.alloc (.cells #[.string ⟨#[]⟩] 9)).alloc (.cells #[.int .i64 0] 3)).alloc (.cells #[.int .i64 0] 27)).cell? ⟨w.heap.size + 1, 0, none⟩ = some (.int .i64 0) := by simp [go_sem]
  have c3 : (((w.alloc (.cells #[.string ⟨#[]⟩] 9)).alloc (.cells #[.int .i64 0] 3)).alloc (.cells #[.int .i64 0] 27)).cell? ⟨w.heap.size + 1 + 1, 0, none⟩ = some (.int .i64 0) := by simp [go_sem]
  have f1 : (((w.alloc (.cells #[.string ⟨#[]⟩] 9)).alloc (.cells #[.int .i64 0] 3)).alloc (.cells #[.int .i64 0] 27)).frozen? ⟨w.heap.size, 0, none⟩ = false := by simp [go_sem]
  have f2 : (((w.alloc (.cells #[.string ⟨#[]⟩] 9)).alloc (.cells #[.int .i64 0] 3)).alloc (.cells #[.int .i64 0] 27)).frozen? ⟨w.heap.size + 1, 0, none⟩ = false := by simp [go_sem]
  have f3 : (((w.alloc (.cells #[.string ⟨#[]⟩] 9)).alloc (.cells #[.int .i64 0] 3)).alloc (.cells #[.int .i64 0] 27)).frozen? ⟨w.heap.size + 1 + 1, 0, none⟩ = false := by simp [go_sem]
  generalize hW : (((w.alloc (.cells #[.string ⟨#[]⟩] 9)).alloc (.cells #[.int .i64 0] 3)).alloc (.cells #[.int .i64 0] 27)) = W at *
  have HW := Lib.hid hW
  clear hW
  go_enter_defers Try.func27, Try.ntmps27
  go_wp2_with fail
  rw [HW.out]
  refine (unquote_in s _ hs).mono ?_
  rintro e w' ⟨hb, hh⟩
  have hlt : ∀ k, k < 3 → w.heap.size + k < W.heap.size := fun k hk => by omega
  have d1 := (hb.cell (p := ⟨w.heap.size, 0, none⟩) (hlt 0 (by omega))).trans c1
  have d2 := (hb.cell (p := ⟨w.heap.size + 1, 0, none⟩) (hlt 1 (by omega))).trans c2
  have d3 := (hb.cell (p := ⟨w.heap.size + 1 + 1, 0, none⟩) (hlt 2 (by omega))).trans c3
  have g1 := (hb.frozen (p := ⟨w.heap.size, 0, none⟩) (hlt 0 (by omega))).trans f1
  have g2 := (hb.frozen (p := ⟨w.heap.size + 1, 0, none⟩) (hlt 1 (by omega))).trans f2
  have g3 := (hb.frozen (p := ⟨w.heap.size + 1 + 1, 0, none⟩) (hlt 2 (by omega))).trans f3
  have bw := b3.trans (hb.mono b3.size)
  clear c1 c2 c3 f1 f2 f3 b3 hsz hlt hb
  rcases hh with ⟨b, n, hu, rfl⟩ | ⟨hu, rfl⟩
  · have HU := Lib.hid hu
    clear hu
    go_wp2
    go_region
    all_goals go_wp2
    all_goals
      refine leaves_cons (f := 36) (args := #[.pointer (some ⟨w.heap.size, 0, none⟩), .pointer (some ⟨w.heap.size + 1, 0, none⟩), .pointer (some ⟨w.heap.size + 1 + 1, 0, none⟩)]) (by simp) (by simp [go_sem]) ?_
      refine (unquote_idle _ _ _ _).mono ?_
      rintro e u' w'' ⟨rfl, rfl, rfl⟩
      have m3 : ((w'.setCell ⟨w.heap.size, 0, none⟩ (.string ⟨b.toArray⟩)).setCell ⟨w.heap.size + 1, 0, none⟩ (.int .i64 (n : Int))).cell? ⟨w.heap.size + 1 + 1, 0, none⟩ = some (.int .i64 0) := by simp [go_sem, d3]
      have m2 : ((w'.setCell ⟨w.heap.size, 0, none⟩ (.string ⟨b.toArray⟩)).setCell ⟨w.heap.size + 1, 0, none⟩ (.int .i64 (n : Int))).cell? ⟨w.heap.size + 1, 0, none⟩ = some (.int .i64 (n : Int)) := by simp [go_sem, d2]
      have m1 : ((w'.setCell ⟨w.heap.size, 0, none⟩ (.string ⟨b.toArray⟩)).setCell ⟨w.heap.size + 1, 0, none⟩ (.int .i64 (n : Int))).cell? ⟨w.heap.size, 0, none⟩ = some (.string ⟨b.toArray⟩) := by simp [go_sem, d1]
      have e1 := three_cells _ w.heap.size (.string ⟨b.toArray⟩) (.int .i64 (n : Int)) (.int .i64 0) m1 m2 m3
      refine leaves_three (A := ⟨w.heap.size, 0, none⟩) (B := ⟨w.heap.size + 1, 0, none⟩) (C := ⟨w.heap.size + 1 + 1, 0, none⟩) (x := .string ⟨b.toArray⟩) (y := .int .i64 (n : Int)) (z := .int .i64 0) Try.results27 rfl rfl rfl (by simp [go_sem, e1.1]) (by simp [go_sem, e1.2.1]) (by simp [go_sem, e1.2.2]) ⟨?_, ?_⟩
      · unfold unqAns; rw [HU.out]
      · refine Below.drew ?_
        exact ((((bw.setCell (p := ⟨w.heap.size, 0, none⟩) (Nat.le_refl _) _).setCell (p := ⟨w.heap.size + 1, 0, none⟩) (Nat.le_succ _) _).setCell (p := ⟨w.heap.size, 0, none⟩) (Nat.le_refl _) _).setCell (p := ⟨w.heap.size + 1, 0, none⟩) (Nat.le_succ _) _).setCell (p := ⟨w.heap.size + 1 + 1, 0, none⟩) (by show w.heap.size ≤ w.heap.size + 1 + 1; omega) _
  · have HU := Lib.hid hu
    clear hu
    go_wp2
    refine leaves_cons (f := 36) (args := #[.pointer (some ⟨w.heap.size, 0, none⟩), .pointer (some ⟨w.heap.size + 1, 0, none⟩), .pointer (some ⟨w.heap.size + 1 + 1, 0, none⟩)]) (by simp) (by simp [go_sem]) ?_
    refine (unquote_catch _ _ _ _ _ g1 g2 g3 ⟨_, d1⟩ ⟨_, d2⟩ ⟨_, d3⟩ (by omega) (by omega) (by omega)).mono ?_
    rintro e u' w'' ⟨rfl, rfl, rfl⟩
    have e1 := three_cells w' w.heap.size (.string ⟨#[]⟩) (.int .i64 0) (.int .i64 4) d1 d2 d3
    refine leaves_three (A := ⟨w.heap.size, 0, none⟩) (B := ⟨w.heap.size + 1, 0, none⟩) (C := ⟨w.heap.size + 1 + 1, 0, none⟩) (x := .string ⟨#[]⟩) (y := .int .i64 0) (z := .int .i64 4) Try.results27 rfl rfl rfl (by simp [go_sem, e1.1]) (by simp [go_sem, e1.2.1]) (by simp [go_sem, e1.2.2]) ⟨?_, ?_⟩
    · unfold unqAns; rw [HU.out]
    · exact ((bw.setCell (p := ⟨w.heap.size, 0, none⟩) (Nat.le_refl _) _).setCell (p := ⟨w.heap.size + 1, 0, none⟩) (Nat.le_succ _) _).setCell (p := ⟨w.heap.size + 1 + 1, 0, none⟩) (by show w.heap.size ≤ w.heap.size + 1 + 1; omega) _
end Go.Proofs.Ytioddambldnfnaa
