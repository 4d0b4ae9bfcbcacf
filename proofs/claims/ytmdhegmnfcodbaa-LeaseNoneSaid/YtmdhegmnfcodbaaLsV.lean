/-
  Lease: Load; what is asked of a nil one.
-/
import Derived.Test.YtmdhegmnfcodbaaLsU
namespace Go.Proofs.Ytmdhegmnfcodbaa
open Go.RowKit
variable {w w' w0 w1 w2 w3 w4 : World} {mb lb B : Nat} {ob : Option Nat} {m : Lm} {last now : Int}

theorem load_catch (a b : Nat) (code : Int) (w : World) (fa : w.frozen? ⟨a, 0, none⟩ = false) (fb : w.frozen? ⟨b, 0, none⟩ = false)
    (ca : ∃ v, w.cell? ⟨a, 0, none⟩ = some v) (cb : ∃ v, w.cell? ⟨b, 0, none⟩ = some v) (hab : a ≠ b) :
    CallsD Try.prog 26 #[.pointer (some ⟨a, 0, none⟩), .pointer (some ⟨b, 0, none⟩)] (.panicking [{ v := errV code, recovered := false }]) w fun e u' w' =>
      e = .returned (.tuple #[]) ∧ u' = .panicking [{ v := errV code, recovered := true }] ∧
      w' = (w.setCell ⟨a, 0, none⟩ (.pointer none)).setCell ⟨b, 0, none⟩ (.int .i64 code) := by
  obtain ⟨va, ca⟩ := ca
  obtain ⟨vb, cb⟩ := cb
  refine callsD_of_wpS Try.func26 rfl fun c₀ cs hu => ?_
  apply wpS_seq
  apply wpS_region
  simp [wpOpsS, go_sem, recoverD, hu, Try.ntmps26, Exit.thenS]
  refine wpS_of_wp ?_
  simp only [List.replicate, Array.replicate, List.append_toArray, List.setIfInBounds_toArray, List.set_cons_zero, List.set_cons_succ, List.cons_append, List.nil_append]
  have hta := assert_errno
  have hnot : ∀ (x : Bool) (w : World), (Op.unary .not (.bool x)).run Try.prog w = .ok (.bool (!x)) w := fun _ _ => rfl
  go_wp2
  exact ⟨rfl, _, rfl, _, results_none rfl _ _ _, rfl, rfl, rfl⟩
theorem load_idle (a b : Nat) (w : World) :
    CallsD Try.prog 26 #[.pointer (some ⟨a, 0, none⟩), .pointer (some ⟨b, 0, none⟩)] .returning w fun e u' w' => e = .returned (.tuple #[]) ∧ u' = .returning ∧ w' = w := by
  refine callsD_of_wpS Try.func26 rfl fun c₀ cs hu => ?_
  apply wpS_seq
  apply wpS_region
  simp [wpOpsS, go_sem, recoverD, hu, Try.ntmps26, Exit.thenS]
  refine wpS_of_wp ?_
  simp only [List.replicate, Array.replicate, List.append_toArray, List.setIfInBounds_toArray, List.set_cons_zero, List.set_cons_succ, List.cons_append, List.nil_append]
  go_wp2
  refine ⟨rfl, .returning, ?_, _, results_none rfl _ _ _, rfl, rfl, rfl⟩
  cases c₀
  simp_all
/-- What Load answers. -/
def LoadE (s : ByteArray) (e : Ending) (w' : World) : Prop :=
  e = .returned (.tuple #[.pointer none, .int .i64 4]) ∨
  ∃ lb mb m last, e = .returned (.tuple #[.pointer (some ⟨lb, 0, none⟩), .int .i64 0]) ∧ LsAt w' lb (some mb) m last ∧ last < 72057594037927936 ∧ (∀ p ∈ m, 0 ≤ p.2.till ∧ p.2.till < 72057594037927936) ∧ s.data.toList = putS last ((sortM m).map core)
set_option maxRecDepth 100000 in
set_option maxHeartbeats 4000000 in
theorem load_any (s : ByteArray) (w : World) (hs : s.size ≤ 9223372036854775807) : Calls Try.prog 16 #[.string s] w fun e w' => LoadE s e w' ∧ Below w.heap.size w w' := by
  have hmf : ∀ (fn : Fn) (first cap : Array Value) (w : World), (Instr.makeFunc fn first cap).run Try.prog w = .ok (.func fn first cap) w := fun _ _ _ _ => rfl
  obtain ⟨W1, hW1⟩ : ∃ W1, (w.alloc (.cells #[.pointer none] 24)).alloc (.cells #[.int .i64 0] 31) = W1 := ⟨_, rfl⟩
  have q0 : W1.cell? ⟨w.heap.size, 0, none⟩ = some (.pointer none) := by rw [← hW1]; simp [go_sem]
  have q1 : W1.cell? ⟨w.heap.size + 1, 0, none⟩ = some (.int .i64 0) := by rw [← hW1]; simp [go_sem]
  have f0 : W1.frozen? ⟨w.heap.size, 0, none⟩ = false := by rw [← hW1]; simp [go_sem]
  have f1 : W1.frozen? ⟨w.heap.size + 1, 0, none⟩ = false := by rw [← hW1]; simp [go_sem]
  have b1 : Below w.heap.size w W1 := by rw [← hW1]; exact ((Below.refl _ _).alloc (Nat.le_refl _) _).alloc (by simp) _
  have hz : W1.heap.size = w.heap.size + 2 := by rw [← hW1]; simp
  have hR := read_any s W1 hs
  have H1 := Lib.hid (And.intro b1 hz)
  clear b1 hz
  go_enter_defers Try.func16, Try.ntmps16
  go_wp2_with fail
  refine hR.mono ?_
  rintro e w2 ⟨hre, hb2⟩
  have p0 := (hb2.cell (p := ⟨w.heap.size, 0, none⟩) (World.block_lt_of_cell? _ _ q0)).trans q0
  have p1 := (hb2.cell (p := ⟨w.heap.size + 1, 0, none⟩) (World.block_lt_of_cell? _ _ q1)).trans q1
  have g0 := (hb2.frozen (p := ⟨w.heap.size, 0, none⟩) (World.block_lt_of_cell? _ _ q0)).trans f0
  have g1 := (hb2.frozen (p := ⟨w.heap.size + 1, 0, none⟩) (World.block_lt_of_cell? _ _ q1)).trans f1
  have hbw : Below w.heap.size w w2 := H1.out.1.trans (hb2.mono H1.out.1.size)
  have H2 := Lib.hid (And.intro hb2 hbw)
  clear hb2 hbw q0 q1 f0 f1 hR
  rcases hre with rfl | ⟨lb, mb, m, last, rfl, hls, hl1, hri, hti, heq, hlb, hmb, hrd⟩
  · go_wp2
    refine leaves_cons (f := 26) (args := #[.pointer (some ⟨w.heap.size, 0, none⟩), .pointer (some ⟨w.heap.size + 1, 0, none⟩)]) (by simp) (by simp [go_sem]) ?_
    refine (load_catch _ _ _ _ g0 g1 ⟨_, p0⟩ ⟨_, p1⟩ (by omega)).mono ?_
    rintro e u' w'' ⟨rfl, rfl, hw''⟩
    have k0 : w''.cell? ⟨w.heap.size, 0, none⟩ = some (.pointer none) := by rw [hw'']; exact cell_ob (World.cell?_setCell_same _ _ _ p0) (by omega)
    have k1 : w''.cell? ⟨w.heap.size + 1, 0, none⟩ = some (.int .i64 4) := by rw [hw'']; exact World.cell?_setCell_same _ _ _ (cell_ob p1 (by omega))
    simp [Leaves, settle, results, Try.results16, go_sem, k0, k1]
    refine ⟨.inl rfl, ?_⟩
    rw [hw'']
    exact (H2.out.2.setCell (Nat.le_refl _) _).setCell (by show _ ≤ w.heap.size + 1; omega) _
  · have HS := Lib.hid (And.intro hls (And.intro hl1 (And.intro hri (And.intro hti (And.intro heq (And.intro hlb (And.intro hmb hrd)))))))
    clear hls hl1 hri hti heq hrd
    obtain ⟨W3, hW3⟩ : ∃ W3, w2.setCell ⟨w.heap.size, 0, none⟩ (.pointer (some ⟨lb, 0, none⟩)) = W3 := ⟨_, rfl⟩
    have x0 : W3.cell? ⟨w.heap.size, 0, none⟩ = some (.pointer (some ⟨lb, 0, none⟩)) := by rw [← hW3]; exact World.cell?_setCell_same _ _ _ p0
    have x1 : W3.cell? ⟨w.heap.size + 1, 0, none⟩ = some (.int .i64 0) := by rw [← hW3]; exact cell_ob p1 (by omega)
    have y1 : W3.frozen? ⟨w.heap.size + 1, 0, none⟩ = false := by rw [← hW3]; simp [go_sem, g1]
    obtain ⟨W4, hW4⟩ : ∃ W4, W3.setCell ⟨w.heap.size + 1, 0, none⟩ (.int .i64 0) = W4 := ⟨_, rfl⟩
    have k0 : W4.cell? ⟨w.heap.size, 0, none⟩ = some (.pointer (some ⟨lb, 0, none⟩)) := by rw [← hW4]; exact cell_ob x0 (by omega)
    have k1 : W4.cell? ⟨w.heap.size + 1, 0, none⟩ = some (.int .i64 0) := by rw [← hW4]; exact World.cell?_setCell_same _ _ _ x1
    have T4 : Tn (fun q => q = w.heap.size ∨ q = w.heap.size + 1) w2 W4 := by rw [← hW4, ← hW3]; exact (Tn.setCell _ _ _ (.inl rfl)).trans (Tn.setCell _ _ _ (.inr rfl))
    have l4 : LsAt W4 lb (some mb) m last := HS.out.1.tn2 T4 (fun q hq hg => by
      have h9 := H1.out.2
      have hq2 : W1.heap.size ≤ q := by
        rcases hq with (e | e) | ⟨p, hp, off, e⟩
        · rw [e]; exact hlb
        · rw [← Option.some.inj e]; exact hmb
        · rcases HS.out.2.2.2.2.2.2.2 p hp with e2 | ⟨b, off2, e2, hf, _⟩
          · have h8 := HS.out.1.ok.vec p hp
            rw [e2] at h8
            cases h8
          · rw [e] at e2
            injection e2 with e2
            injection e2 with e2
            omega
      rcases hg with e | e <;> omega)
    have b4 : Below w.heap.size w W4 := H2.out.2.trans (T4.below (by have := H2.out.2.size; omega) (fun k hk => by rcases hk with e | e <;> omega))
    have H4 := Lib.hid (And.intro l4 b4)
    clear T4 l4 b4 hlb hmb
    go_wp2
    refine leaves_cons (f := 26) (args := #[.pointer (some ⟨w.heap.size, 0, none⟩), .pointer (some ⟨w.heap.size + 1, 0, none⟩)]) (by simp) (by simp [go_sem]) ?_
    refine (load_idle _ _ _).mono ?_
    rintro e u' w'' ⟨rfl, rfl, rfl⟩
    simp [Leaves, settle, results, Try.results16, go_sem, k0, k1]
    refine ⟨.inr ⟨lb, mb, m, last, rfl, H4.out.1, HS.out.2.1, HS.out.2.2.2.1, ?_⟩, H4.out.2⟩
    rw [sortM_rise HS.out.2.2.1, List.map_map]
    exact HS.out.2.2.2.2.1

theorem nil_acquire (x : Value) (a : Option Addr) (n c : Nat) (hx : x = .slice a n c) (t u : Int) (w : World) : Calls Try.prog 8 #[.pointer none, x, .int .i64 t, .int .i64 u] w fun e w' => e = .returned (.tuple #[.int .i64 0, .int .i64 1]) ∧ w' = w := by
  subst hx
  go_enter Try.func8, Try.ntmps8
  go_wp2
  go_ret2
  exact ⟨rfl, rfl⟩
theorem nil_renew (i t u : Int) (w : World) : Calls Try.prog 13 #[.pointer none, .int .i64 i, .int .i64 t, .int .i64 u] w fun e w' => e = .returned (.int .i64 1) ∧ w' = w := by
  go_enter Try.func13, Try.ntmps13
  go_wp2
  go_ret
  exact ⟨rfl, rfl⟩
theorem nil_release (i t : Int) (w : World) : Calls Try.prog 14 #[.pointer none, .int .i64 i, .int .i64 t] w fun e w' => e = .returned (.int .i64 1) ∧ w' = w := by
  go_enter Try.func14, Try.ntmps14
  go_wp2
  go_ret
  exact ⟨rfl, rfl⟩
theorem nil_list (w : World) : Calls Try.prog 18 #[.pointer none] w fun e w' => e = .returned (.slice none 0 0) ∧ w' = w := by
  go_enter Try.func18, Try.ntmps18
  go_wp2
  go_ret
  exact ⟨rfl, rfl⟩
theorem nil_put (w : World) : Calls Try.prog 17 #[.pointer none] w fun e w' => e = .returned (.string ⟨#[]⟩) ∧ w' = w := by
  go_enter Try.func17, Try.ntmps17
  go_wp2
  go_ret
  exact ⟨rfl, rfl⟩
theorem nil_expire (t : Int) (w : World) : Calls Try.prog 10 #[.pointer none, .int .i64 t] w fun e w' => e = .returned (.slice none 0 0) ∧ w' = w := by
  have hL := nil_list
  go_enter Try.func10, Try.ntmps10
  go_wp2_with (go_at_call 18; refine (hL _).mono ?_; rintro e w1 ⟨rfl, rfl⟩)
  go_loopw [5, 7, 11] (fun v _ iv wr => v = .slice none 0 0 ∧ iv = .int .i64 0 ∧ wr = w1) (fun _ _ _ _ => 0)
  case atStart => exact ⟨rfl, rfl, rfl⟩
  case round =>
    obtain ⟨rfl, rfl, rfl⟩ := hrel
    go_wp2
    go_ret
    exact ⟨rfl, rfl⟩
theorem nil_meet (w : World) : Calls Try.prog 11 #[.pointer none] w fun e w' => e = .returned (.slice none 0 0) ∧ w' = w := by
  have hL := nil_list
  go_enter Try.func11, Try.ntmps11
  go_wp2_with (go_at_call 18; refine (hL _).mono ?_; rintro e w1 ⟨rfl, rfl⟩)
  go_loopw [3, 4, 5, 9] (fun v _ _ iv wr => v = .slice none 0 0 ∧ iv = .int .i64 0 ∧ wr = w1) (fun _ _ _ _ _ => 0)
  case atStart => exact ⟨rfl, rfl, rfl⟩
  case round =>
    obtain ⟨rfl, rfl, rfl⟩ := hrel
    go_wp2
    go_ret
    exact ⟨rfl, rfl⟩
theorem nil_get (i : Int) (w : World) : Calls Try.prog 9 #[.pointer none, .int .i64 i] w fun e w' => e = .returned (.tuple #[.agg #[.int .i64 0, .slice none 0 0, .int .i64 0], .int .i64 1]) ∧ Below w.heap.size w w' := by
  obtain ⟨W0, hW0⟩ : ∃ W0, w.alloc (.cells #[.int .i64 0, .slice none 0 0, .int .i64 0] 35) = W0 := ⟨_, rfl⟩
  have hb0 : Below w.heap.size w W0 := by rw [← hW0]; exact (Below.refl _ _).alloc (Nat.le_refl _) _
  have r0 : W0.cell? ⟨w.heap.size, 0, none⟩ = some (.int .i64 0) := by rw [← hW0]; simp [go_sem]
  have r1 : W0.cell? ⟨w.heap.size, 1, none⟩ = some (.slice none 0 0) := by rw [← hW0]; simp [go_sem]
  have r2 : W0.cell? ⟨w.heap.size, 2, none⟩ = some (.int .i64 0) := by rw [← hW0]; simp [go_sem]
  have rf : ∀ j, W0.frozen? ⟨w.heap.size, j, none⟩ = false := fun j => by rw [← hW0]; simp [go_sem]
  have HB := Lib.hid hb0
  clear hb0
  go_enter Try.func9, Try.ntmps9
  go_wp2_with fail
  obtain ⟨k0, k1, k2⟩ := set3 r0 r1 r2 rfl
  (try simp only [Exit.inBlock, Exit.then]); exact bodyPost_ret (results_cell2 rfl rfl (load_lease k0 k1 k2)) rfl ⟨rfl, below3 HB.out (Nat.le_refl _)⟩
end Go.Proofs.Ytmdhegmnfcodbaa
