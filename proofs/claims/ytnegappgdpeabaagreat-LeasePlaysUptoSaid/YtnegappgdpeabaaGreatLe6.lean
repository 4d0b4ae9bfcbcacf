import Derived.Test.YtnegappgdpeabaaGreatLe5
import Derived.Defers
import Derived.Recover
import Derived.Laws.Pointers
set_option linter.unusedSimpArgs false
set_option linter.unusedVariables false
/-
  Lease: bytes that a vector is read from: what takes them, what meets a panic.
-/
namespace Go.Proofs.YtnegappgdpeabaaGreat
open Go.RowKit
variable {w w' w0 w1 w2 w3 w4 : World} {mb lb B : Nat} {ob : Option Nat} {m : Lm} {last now : Int}

abbrev errV (code : Int) : Value := .iface 55 (.int .i64 code)
theorem assert_errno (x : Value) (w : World) : (Instr.typeAssert (.iface 55 x) 20 55 true).run Tryz.prog w = .ok (.tuple #[x, .bool true]) w := by kernel_rfl

theorem take_short {b n : Nat} {s : ByteArray} {k : Int} (hk : k = (n : Int)) (hb : w.cell? ⟨b, 0, none⟩ = some (.string s)) (hs : s.size < n) (hn : n ≤ 100) : Calls Tryz.prog 161 #[.pointer (some ⟨b, 0, none⟩), .int .i64 k] w fun e w' =>
    e = .panicked [{ v := errV 3, recovered := false }] ∧ w' = w := by
  subst hk
  have t1 : (s.size : Int) < (n : Int) := by omega
  go_enter Tryz.func161, Tryz.ntmps161
  go_wp2
  exact ⟨rfl, rfl, rfl⟩
theorem take_ok {b n : Nat} {s : ByteArray} {k : Int} (hk : k = (n : Int)) (hb : w.cell? ⟨b, 0, none⟩ = some (.string s)) (hf : w.frozen? ⟨b, 0, none⟩ = false) (hs : n ≤ s.size) (hm : s.size ≤ 9223372036854775807) : Calls Tryz.prog 161 #[.pointer (some ⟨b, 0, none⟩), .int .i64 k] w fun e w' =>
    e = .returned (.string (s.extract 0 n)) ∧ w' = w.setCell ⟨b, 0, none⟩ (.string (s.extract n s.size)) := by
  subst hk
  have t1 : ¬ (s.size : Int) < (n : Int) := by omega
  go_enter Tryz.func161, Tryz.ntmps161
  go_wp2
  go_ret
  exact ⟨rfl, rfl⟩

theorem getv_catch (a b c : Nat) (code : Int) (w : World) (fa : w.frozen? ⟨a, 0, none⟩ = false) (fb : w.frozen? ⟨b, 0, none⟩ = false) (fc : w.frozen? ⟨c, 0, none⟩ = false)
    (ca : ∃ v, w.cell? ⟨a, 0, none⟩ = some v) (cb : ∃ v, w.cell? ⟨b, 0, none⟩ = some v) (cc : ∃ v, w.cell? ⟨c, 0, none⟩ = some v) (hab : a ≠ b) (hac : a ≠ c) (hbc : b ≠ c) :
    CallsD Tryz.prog 160 #[.pointer (some ⟨a, 0, none⟩), .pointer (some ⟨b, 0, none⟩), .pointer (some ⟨c, 0, none⟩)] (.panicking [{ v := errV code, recovered := false }]) w fun e u' w' =>
      e = .returned (.tuple #[]) ∧ u' = .panicking [{ v := errV code, recovered := true }] ∧
      w' = ((w.setCell ⟨a, 0, none⟩ (.slice none 0 0)).setCell ⟨b, 0, none⟩ (.int .i64 0)).setCell ⟨c, 0, none⟩ (.int .i64 code) := by
  obtain ⟨va, ca⟩ := ca
  obtain ⟨vb, cb⟩ := cb
  obtain ⟨vc, cc⟩ := cc
  refine callsD_of_wpS Tryz.func160 rfl fun c₀ cs hu => ?_
  apply wpS_seq
  apply wpS_region
  simp [wpOpsS, go_sem, recoverD, hu, Tryz.ntmps160, Exit.thenS]
  refine wpS_of_wp ?_
  simp only [List.replicate, Array.replicate, List.append_toArray, List.setIfInBounds_toArray, List.set_cons_zero, List.set_cons_succ, List.cons_append, List.nil_append]
  have hta := assert_errno
  have hnot : ∀ (x : Bool) (w : World), (Op.unary .not (.bool x)).run Tryz.prog w = .ok (.bool (!x)) w := fun _ _ => rfl
  go_wp2
  exact ⟨rfl, _, rfl, _, results_none rfl _ _ _, rfl, rfl, rfl⟩
theorem getv_idle (a b c : Nat) (w : World) :
    CallsD Tryz.prog 160 #[.pointer (some ⟨a, 0, none⟩), .pointer (some ⟨b, 0, none⟩), .pointer (some ⟨c, 0, none⟩)] .returning w fun e u' w' => e = .returned (.tuple #[]) ∧ u' = .returning ∧ w' = w := by
  refine callsD_of_wpS Tryz.func160 rfl fun c₀ cs hu => ?_
  apply wpS_seq
  apply wpS_region
  simp [wpOpsS, go_sem, recoverD, hu, Tryz.ntmps160, Exit.thenS]
  refine wpS_of_wp ?_
  simp only [List.replicate, Array.replicate, List.append_toArray, List.setIfInBounds_toArray, List.set_cons_zero, List.set_cons_succ, List.cons_append, List.nil_append]
  go_wp2
  refine ⟨rfl, .returning, ?_, _, results_none rfl _ _ _, rfl, rfl, rfl⟩
  cases c₀
  simp_all
end Go.Proofs.YtnegappgdpeabaaGreat
/-
  Lease: a vector is read from bytes.
-/
namespace Go.Proofs.YtnegappgdpeabaaGreat
open Go.RowKit
variable {w w' w0 w1 w2 w3 w4 : World} {mb lb B : Nat} {ob : Option Nat} {m : Lm} {last now : Int}

theorem bytes_split (s : ByteArray) (n : Nat) : s.data.toList = (s.extract 0 n).data.toList ++ (s.extract n s.size).data.toList := by
  simp only [ByteArray.data_extract, Array.toList_extract, List.extract_eq_take_drop, List.drop_zero, Nat.sub_zero]
  rw [List.take_of_length_le (l := s.data.toList.drop n) (by rw [List.length_drop]; exact Nat.le_refl _), List.take_append_drop]
theorem get6_any (s : ByteArray) (hs : s.size = 6) (w : World) : Calls Tryz.prog 119 #[.string s] w fun e w' => e = .returned (.tuple #[.int .i64 (Rw.beV s.data.toList : Int), .int .i64 0]) ∧ w = w' := by
  refine (get_any s w (by unfold maxLen; omega)).mono ?_
  rintro e w' ⟨rfl, rfl⟩
  have hl : s.data.toList.length = 6 := hs
  refine ⟨?_, rfl⟩
  unfold getAns getOk
  rw [hl]
  rfl
theorem get7_any (s : ByteArray) (hs : s.size = 7) (w : World) : Calls Tryz.prog 119 #[.string s] w fun e w' => e = .returned (.tuple #[.int .i64 (Rw.beV s.data.toList : Int), .int .i64 0]) ∧ w = w' := by
  refine (get_any s w (by unfold maxLen; omega)).mono ?_
  rintro e w' ⟨rfl, rfl⟩
  have hl : s.data.toList.length = 7 := hs
  refine ⟨?_, rfl⟩
  unfold getAns getOk
  rw [hl]
  rfl
theorem enc6_beV {l : List UInt8} (h : l.length = 6) : enc6 (Rw.beV l : Int) = l := by
  unfold enc6
  rw [Int.toNat_natCast, ← h]
  exact beF_beV l
theorem enc7_beV {l : List UInt8} (h : l.length = 7) : enc7 (Rw.beV l : Int) = l := by
  unfold enc7
  rw [Int.toNat_natCast, ← h]
  exact beF_beV l

theorem cell_other {a b : Nat} {u v : Value} (h : w.cell? ⟨b, 0, none⟩ = some u) (hab : a ≠ b) : (w.setCell ⟨a, 0, none⟩ v).cell? ⟨b, 0, none⟩ = some u := by
  rw [World.cell?_setCell_other _ _ _ _ (by intro e; injection e with e1 _; exact hab e1)]
  exact h
/-- Three blocks are stored into. -/
theorem blocks3 {a b c : Nat} {va vb vc ua ub uc : Value} (ha : w.cell? ⟨a, 0, none⟩ = some ua) (hb : w.cell? ⟨b, 0, none⟩ = some ub) (hc : w.cell? ⟨c, 0, none⟩ = some uc) (hab : a ≠ b) (hac : a ≠ c) (hbc : b ≠ c)
    (hw : ((w.setCell ⟨a, 0, none⟩ va).setCell ⟨b, 0, none⟩ vb).setCell ⟨c, 0, none⟩ vc = w') : w'.cell? ⟨a, 0, none⟩ = some va ∧ w'.cell? ⟨b, 0, none⟩ = some vb ∧ w'.cell? ⟨c, 0, none⟩ = some vc := by
  subst hw
  have k0 := World.cell?_setCell_same w ⟨a, 0, none⟩ va ha
  have k1 := cell_other (v := va) hb hab
  have k2 := cell_other (v := vb) (cell_other (v := va) hc hac) hbc
  exact ⟨cell_other (cell_other k0 hab.symm) hac.symm, cell_other (World.cell?_setCell_same _ _ _ k1) hbc.symm, World.cell?_setCell_same _ _ _ k2⟩

/-- What Get answers. -/
def GotV (s : ByteArray) (w : World) (e : Ending) (w' : World) : Prop :=
  (∃ code : Int, code ≠ 0 ∧ e = .returned (.tuple #[.slice none 0 0, .int .i64 0, .int .i64 code]) ∧ NoVec s) ∨
  ∃ a c vs r, e = .returned (.tuple #[.slice a vs.length c, .int .i64 ((encV vs).length : Int), .int .i64 0]) ∧ validB vs = true ∧ s.data.toList = encV vs ++ r ∧ Own eVec w' w.heap.size (.slice a vs.length c) vs

/-- What asks nothing of a panic: for a drawn region in a function that defers. -/
def onlyN (Q : Exit → Act → World → Prop) : Exit → Act → World → Prop := fun e a w => match e with | .normal => Q .normal a w | _ => False
theorem onlyN_of (Q : Exit → Act → World → Prop) : ∀ e a w, onlyN Q e a w → Q e a w := fun e a w h => by
  cases e <;> first | exact h | exact h.elim
abbrev defG (z : Nat) : List Deferred := [{ target := .fn (.func 160) #[.pointer (some ⟨z, 0, none⟩), .pointer (some ⟨z + 1, 0, none⟩), .pointer (some ⟨z + 1 + 1, 0, none⟩)], args := #[] }]
/-- A panic in Get is met. -/
theorem getv_panics {s : ByteArray} (hno : NoVec s) {W : World} {z : Nat} {tmps : Array Value} {code : Int} (hc : code ≠ 0) (hz : z = w.heap.size) (h2 : tmps[2]? = some (.pointer (some ⟨z, 0, none⟩))) (h3 : tmps[3]? = some (.pointer (some ⟨z + 1, 0, none⟩))) (h4 : tmps[4]? = some (.pointer (some ⟨z + 1 + 1, 0, none⟩)))
    {v0 v1 v2 : Value} (q0 : W.cell? ⟨z, 0, none⟩ = some v0) (q1 : W.cell? ⟨z + 1, 0, none⟩ = some v1) (q2 : W.cell? ⟨z + 1 + 1, 0, none⟩ = some v2) (f0 : W.frozen? ⟨z, 0, none⟩ = false) (f1 : W.frozen? ⟨z + 1, 0, none⟩ = false) (f2 : W.frozen? ⟨z + 1 + 1, 0, none⟩ = false) (hb : Below w.heap.size w W) :
    bodyPostD Tryz.prog Tryz.f120 (fun e w' => GotV s w e w' ∧ Below w.heap.size w w') (.panic [{ v := errV code, recovered := false }]) { tmps := tmps, defers := defG z } W := by
  refine leaves_cons (f := 160) (args := #[.pointer (some ⟨z, 0, none⟩), .pointer (some ⟨z + 1, 0, none⟩), .pointer (some ⟨z + 1 + 1, 0, none⟩)]) (by simp) (by simp [go_sem]) ?_
  refine (getv_catch _ _ _ _ _ f0 f1 f2 ⟨_, q0⟩ ⟨_, q1⟩ ⟨_, q2⟩ (by omega) (by omega) (by omega)).mono ?_
  rintro e u' w'' ⟨rfl, rfl, hw''⟩
  obtain ⟨k0, k1, k2⟩ := blocks3 q0 q1 q2 (by omega) (by omega) (by omega) hw''.symm
  simp [Leaves, settle, results, Tryz.results120, go_sem, k0, k1, k2, h2, h3, h4]
  refine ⟨.inl ⟨code, hc, rfl, hno⟩, ?_⟩
  rw [hw'']
  exact ((hb.setCell (by show _ ≤ z; omega) _).setCell (by show _ ≤ z + 1; omega) _).setCell (by show _ ≤ z + 1 + 1; omega) _

set_option maxRecDepth 100000 in
set_option maxHeartbeats 4000000 in
theorem getv_any (s : ByteArray) (w : World) (hs : s.size ≤ 9223372036854775807) : Calls Tryz.prog 120 #[.string s] w fun e w' => GotV s w e w' ∧ Below w.heap.size w w' := by
  have hmf : ∀ (fn : Fn) (first cap : Array Value) (w : World), (Instr.makeFunc fn first cap).run Tryz.prog w = .ok (.func fn first cap) w := fun _ _ _ _ => rfl
  obtain ⟨W1, hW1⟩ : ∃ W1, (((w.alloc (.cells #[.slice none 0 0] 51)).alloc (.cells #[.int .i64 0] 3)).alloc (.cells #[.int .i64 0] 55)).alloc (.cells #[.string s] 9) = W1 := ⟨_, rfl⟩
  have q0 : W1.cell? ⟨w.heap.size, 0, none⟩ = some (.slice none 0 0) := by rw [← hW1]; simp [go_sem]
  have q1 : W1.cell? ⟨w.heap.size + 1, 0, none⟩ = some (.int .i64 0) := by rw [← hW1]; simp [go_sem]
  have q2 : W1.cell? ⟨w.heap.size + 1 + 1, 0, none⟩ = some (.int .i64 0) := by rw [← hW1]; simp [go_sem]
  have q3 : W1.cell? ⟨w.heap.size + 1 + 1 + 1, 0, none⟩ = some (.string s) := by rw [← hW1]; simp [go_sem]
  have f0 : W1.frozen? ⟨w.heap.size, 0, none⟩ = false := by rw [← hW1]; simp [go_sem]
  have f1 : W1.frozen? ⟨w.heap.size + 1, 0, none⟩ = false := by rw [← hW1]; simp [go_sem]
  have f2 : W1.frozen? ⟨w.heap.size + 1 + 1, 0, none⟩ = false := by rw [← hW1]; simp [go_sem]
  have f3 : W1.frozen? ⟨w.heap.size + 1 + 1 + 1, 0, none⟩ = false := by rw [← hW1]; simp [go_sem]
  have b1 : Below w.heap.size w W1 := by rw [← hW1]; exact ((((Below.refl _ _).alloc (Nat.le_refl _) _).alloc (by simp) _).alloc (by simp; omega) _).alloc (by simp; omega) _
  have hz : W1.heap.size = w.heap.size + 4 := by rw [← hW1]; simp
  have H1 := Lib.hid (And.intro b1 hz)
  clear b1 hz
  by_cases h0 : s.size < 1
  · have hT := take_short (n := 1) (k := 1) rfl q3 h0 (by omega)
    have HNO := Lib.hid (nov_short h0)
    go_enter_defers Tryz.func120, Tryz.ntmps120
    go_wp2_with fail
    refine hT.mono ?_
    rintro e w2 ⟨rfl, rfl⟩
    go_wp2
    exact getv_panics HNO.out (by omega) rfl rfl rfl rfl q0 q1 q2 f0 f1 f2 H1.out.1
  · have hT := take_ok (n := 1) (k := 1) rfl q3 f3 (by omega) hs
    have htl : s.data.toList.length = s.size := rfl
    obtain ⟨c0, hc0⟩ : ∃ c0, s.data.toList[0]'(by omega) = c0 := ⟨_, rfl⟩
    obtain ⟨s1, hs1⟩ : ∃ s1, s.extract 0 1 = s1 := ⟨_, rfl⟩
    obtain ⟨r0, hr0⟩ : ∃ r0, s.extract 1 s.size = r0 := ⟨_, rfl⟩
    have hsp : s.data.toList = c0 :: r0.data.toList := by
      have h5 := bytes_split s 1
      rw [hs1, hr0] at h5
      have h6 : s1.data.toList = [c0] := by
        subst hs1 hc0
        simp only [ByteArray.data_extract, Array.toList_extract, List.extract_eq_take_drop, List.drop_zero, Nat.sub_zero]
        rw [List.take_succ_eq_append_getElem (i := 0) (by omega)]
        rfl
      rw [h6] at h5
      exact h5
    rw [hs1, hr0] at hT
    obtain ⟨W2, hW2⟩ : ∃ W2, W1.setCell ⟨w.heap.size + 1 + 1 + 1, 0, none⟩ (.string r0) = W2 := ⟨_, rfl⟩
    rw [hW2] at hT
    have p0 : W2.cell? ⟨w.heap.size, 0, none⟩ = some (.slice none 0 0) := by rw [← hW2]; exact cell_other q0 (by omega)
    have p1 : W2.cell? ⟨w.heap.size + 1, 0, none⟩ = some (.int .i64 0) := by rw [← hW2]; exact cell_other q1 (by omega)
    have p2 : W2.cell? ⟨w.heap.size + 1 + 1, 0, none⟩ = some (.int .i64 0) := by rw [← hW2]; exact cell_other q2 (by omega)
    have p3 : W2.cell? ⟨w.heap.size + 1 + 1 + 1, 0, none⟩ = some (.string r0) := by rw [← hW2]; exact World.cell?_setCell_same _ _ _ q3
    have g0 : W2.frozen? ⟨w.heap.size, 0, none⟩ = false := by rw [← hW2]; simp [go_sem, f0]
    have g1 : W2.frozen? ⟨w.heap.size + 1, 0, none⟩ = false := by rw [← hW2]; simp [go_sem, f1]
    have g2 : W2.frozen? ⟨w.heap.size + 1 + 1, 0, none⟩ = false := by rw [← hW2]; simp [go_sem, f2]
    have g3 : W2.frozen? ⟨w.heap.size + 1 + 1 + 1, 0, none⟩ = false := by rw [← hW2]; simp [go_sem, f3]
    have b2 : Below w.heap.size w W2 := by rw [← hW2]; exact H1.out.1.setCell (by show _ ≤ w.heap.size + 1 + 1 + 1; omega) _
    have z2 : W2.heap.size = w.heap.size + 4 := by rw [← hW2]; simpa using H1.out.2
    have hs1z : s1.size = 1 := by rw [← hs1, ByteArray.size_extract]; omega
    have hs1c : s1[0]'(by omega) = c0 := by subst hs1; rw [ByteArray.getElem_extract]; exact hc0
    have hc8 := c0.toNat_lt
    have hrz : r0.size ≤ 9223372036854775807 := by rw [← hr0, ByteArray.size_extract]; omega
    have HR := Lib.hid (And.intro hsp (And.intro b2 (And.intro z2 hrz)))
    have HS := Lib.hid hs
    clear hsp b2 z2 hrz hr0 hs1 hc0 htl q0 q1 q2 q3 f0 f1 f2 f3 hs
    by_cases k1 : c0.toNat < 1
    · have t1 : (c0.toNat : Int) < 1 := by omega
      have HNO := Lib.hid (nov_head HR.out.1 (.inl k1))
      go_enter_defers Tryz.func120, Tryz.ntmps120
      go_wp2_with (go_at_call 161; go_loud (refine hT.mono ?_); rintro e w2 ⟨rfl, rfl⟩)
      exact getv_panics HNO.out (by omega) rfl rfl rfl rfl p0 p1 p2 g0 g1 g2 HR.out.2.1
    have t1 : ¬ (c0.toNat : Int) < 1 := by omega
    by_cases k2 : 8 < c0.toNat
    · have t2 : (8 : Int) < (c0.toNat : Int) := by omega
      have HNO := Lib.hid (nov_head HR.out.1 (.inr k2))
      go_enter_defers Tryz.func120, Tryz.ntmps120
      go_wp2_with (go_at_call 161; go_loud (refine hT.mono ?_); rintro e w2 ⟨rfl, rfl⟩)
      exact getv_panics HNO.out (by omega) rfl rfl rfl rfl p0 p1 p2 g0 g1 g2 HR.out.2.1
    have t2 : ¬ (8 : Int) < (c0.toNat : Int) := by omega
    obtain ⟨n, hn⟩ : ∃ n, c0.toNat = n := ⟨_, rfl⟩
    go_enter_defers Tryz.func120, Tryz.ntmps120
    go_wp2_with (go_at_call 161; go_loud (refine hT.mono ?_); rintro e w2 ⟨rfl, rfl⟩)
    have hs0 : s.size ≤ 9223372036854775807 := HS.out
    go_loopw [7, 8, 22] (fun _ _ iv wr => ∃ (i : Nat) (a : Option Addr) (c : Nat) (vs : List Int) (r : ByteArray), i ≤ n ∧ iv = .int .i64 (i : Int) ∧ vs.length = i ∧ wr.cell? ⟨w.heap.size, 0, none⟩ = some (.slice a i c) ∧ wr.cell? ⟨w.heap.size + 1, 0, none⟩ = some (.int .i64 0) ∧ wr.cell? ⟨w.heap.size + 1 + 1, 0, none⟩ = some (.int .i64 0) ∧ wr.cell? ⟨w.heap.size + 1 + 1 + 1, 0, none⟩ = some (.string r) ∧
      wr.frozen? ⟨w.heap.size, 0, none⟩ = false ∧ wr.frozen? ⟨w.heap.size + 1, 0, none⟩ = false ∧ wr.frozen? ⟨w.heap.size + 1 + 1, 0, none⟩ = false ∧ wr.frozen? ⟨w.heap.size + 1 + 1 + 1, 0, none⟩ = false ∧
      s.data.toList = c0 :: (vs.flatMap enc6 ++ r.data.toList) ∧ (∀ t ∈ vs, okT t = true) ∧ Own eVec wr (w.heap.size + 4) (.slice a i c) vs ∧ Below w.heap.size w wr ∧ w.heap.size + 4 ≤ wr.heap.size) (fun _ _ iv _ => n - (intOf iv).toNat)
    case atStart => exact ⟨0, none, 0, [], r0, by omega, rfl, rfl, p0, p1, p2, p3, g0, g1, g2, g3, HR.out.1, by simp, World.ownsRow_nil _ _ _ _, HR.out.2.1, by rw [HR.out.2.2.1]; omega⟩
    case round =>
      obtain ⟨i, a, c, vs, r, hi, rfl, hvl, p0, p1, p2, p3, g0, g1, g2, g3, hsp, hok, hown, hb, hz⟩ := hrel
      have hrs : r.size ≤ s.size := by
        have := congrArg List.length hsp
        rw [List.length_cons, List.length_append] at this
        have e1 : s.data.toList.length = s.size := rfl
        have e2 : r.data.toList.length = r.size := rfl
        omega
      have HB := Lib.hid (And.intro hvl (And.intro hsp (And.intro hok (And.intro hown (And.intro hb hz)))))
      clear hvl hsp hok hown hb
      by_cases hlt : i < n
      · have r1 : (i : Int) < (n : Int) := by omega
        by_cases h6 : r.size < 6
        · have hT6 := take_short (n := 6) (k := 6) rfl p3 h6 (by omega)
          have HNO := Lib.hid (nov_rest HB.out.2.1 (by rw [HB.out.1]; omega) h6)
          go_wp2_with (go_at_call 161; go_loud (refine hT6.mono ?_); rintro e w3 ⟨rfl, rfl⟩)
          exact getv_panics HNO.out (by omega) rfl rfl rfl rfl p0 p1 p2 g0 g1 g2 HB.out.2.2.2.2.1
        · have hT6 := take_ok (n := 6) (k := 6) rfl p3 g3 (by omega) (by omega)
          obtain ⟨t6, ht6⟩ : ∃ t6, r.extract 0 6 = t6 := ⟨_, rfl⟩
          obtain ⟨r', hr'⟩ : ∃ r', r.extract 6 r.size = r' := ⟨_, rfl⟩
          have hsp2 := bytes_split r 6
          rw [ht6, hr'] at hsp2 hT6
          have ht6z : t6.size = 6 := by rw [← ht6, ByteArray.size_extract]; omega
          obtain ⟨W3, hW3⟩ : ∃ W3, wr.setCell ⟨w.heap.size + 1 + 1 + 1, 0, none⟩ (.string r') = W3 := ⟨_, rfl⟩
          rw [hW3] at hT6
          have hz3 : W3.heap.size = wr.heap.size := by rw [← hW3]; simp
          have x0 : W3.cell? ⟨w.heap.size, 0, none⟩ = some (.slice a i c) := by rw [← hW3]; exact cell_other p0 (by omega)
          have x1 : W3.cell? ⟨w.heap.size + 1, 0, none⟩ = some (.int .i64 0) := by rw [← hW3]; exact cell_other p1 (by omega)
          have x2 : W3.cell? ⟨w.heap.size + 1 + 1, 0, none⟩ = some (.int .i64 0) := by rw [← hW3]; exact cell_other p2 (by omega)
          have x3 : W3.cell? ⟨w.heap.size + 1 + 1 + 1, 0, none⟩ = some (.string r') := by rw [← hW3]; exact World.cell?_setCell_same _ _ _ p3
          have y0 : W3.frozen? ⟨w.heap.size, 0, none⟩ = false := by rw [← hW3]; simp [go_sem, g0]
          have y1 : W3.frozen? ⟨w.heap.size + 1, 0, none⟩ = false := by rw [← hW3]; simp [go_sem, g1]
          have y2 : W3.frozen? ⟨w.heap.size + 1 + 1, 0, none⟩ = false := by rw [← hW3]; simp [go_sem, g2]
          have y3 : W3.frozen? ⟨w.heap.size + 1 + 1 + 1, 0, none⟩ = false := by rw [← hW3]; simp [go_sem, g3]
          have hb3 : Below w.heap.size w W3 := by rw [← hW3]; exact HB.out.2.2.2.2.1.setCell (by show _ ≤ w.heap.size + 1 + 1 + 1; omega) _
          have ho3 : Own eVec W3 (w.heap.size + 4) (.slice a i c) vs := by
            rw [← hW3]
            exact (Tn.setCell (F := fun q => q = w.heap.size + 1 + 1 + 1) wr ⟨w.heap.size + 1 + 1 + 1, 0, none⟩ _ rfl).row HB.out.2.2.2.1 (fun q hq e => by have := (HB.out.2.2.2.1.lt q hq).1; omega)
          have hG := get6_any t6 ht6z
          obtain ⟨t, ht⟩ : ∃ t : Int, (Rw.beV t6.data.toList : Int) = t := ⟨_, rfl⟩
          have htl : t6.data.toList.length = 6 := ht6z
          have henc : enc6 t = t6.data.toList := by rw [← ht]; exact enc6_beV htl
          have htk : okT t = true := by
            have := Rw.beV_lt t6.data.toList
            rw [htl] at this
            simp only [okT, decide_eq_true_eq]
            omega
          rw [ht] at hG
          obtain ⟨W4, hW4⟩ : ∃ W4, W3.alloc (.cells #[.int .i64 t] 3) = W4 := ⟨_, rfl⟩
          have hb4 : Below W3.heap.size W3 W4 := by rw [← hW4]; exact (Below.refl _ _).alloc (Nat.le_refl _) _
          have hsrc : Src eVec W4 (.slice (some ⟨wr.heap.size, 0, none⟩) 1 1) [t] := by rw [← hW4, ← hz3]; exact src_one W3 t _ _ rfl 1
          have ho4 : Own eVec W4 (w.heap.size + 4) (.slice a i c) vs := row_below ho3 hb4
          have H4 := Lib.hid (And.intro hb3 (And.intro hb4 (And.intro hsrc (And.intro ho4 (And.intro henc (And.intro htk (And.intro hsp2 hz3)))))))
          clear hb3 hb4 hsrc ho4 henc htk hsp2 ho3 ht6 hr' ht htl p0 p1 p2 p3 g0 g1 g2 g3 ht6z
          have hn8 : i ≤ 8 := by omega
          go_wp2_with (first
            | (at_builtin
               go_loud (refine wpl_app eVec rfl _ _ rfl rfl rfl H4.out.2.2.2.1 H4.out.2.2.1 (by rw [HB.out.1]; simp; omega) (by have := H4.out.2.1.size; omega) ?_)
               rw [HB.out.1]
               intro a5 cap5 w5 ho5 hb5 hg5 hv5
               have t5 : Tn (fun q => (Value.slice a i c).ownBlock = some q) W4 w5 := Tn.ofGrown hg5 (fun q hq => hq)
               have b35 := (Tn.ofBelow (F := fun q => (Value.slice a i c).ownBlock = some q) H4.out.2.1).trans t5
               have nb : ∀ q, q < w.heap.size + 4 → ¬ (Value.slice a i c).ownBlock = some q := fun q hq e => by have := (H4.out.2.2.2.1.lt q e).1; omega
               have e0 : w5.cell? ⟨w.heap.size, 0, none⟩ = some (.slice a i c) := b35.cell x0 (nb _ (by show w.heap.size < _; omega))
               have e1 := b35.cell x1 (nb _ (by show w.heap.size + 1 < _; omega))
               have e2 := b35.cell x2 (nb _ (by show w.heap.size + 1 + 1 < _; omega))
               have e3 := b35.cell x3 (nb _ (by show w.heap.size + 1 + 1 + 1 < _; omega))
               have k0 : w5.frozen? ⟨w.heap.size, 0, none⟩ = false := (b35.frozen (p := ⟨w.heap.size, 0, none⟩) (by show w.heap.size < _; omega) (nb _ (by show w.heap.size < _; omega))).trans y0
               have k1 := (b35.frozen (p := ⟨w.heap.size + 1, 0, none⟩) (by show w.heap.size + 1 < _; omega) (nb _ (by show w.heap.size + 1 < _; omega))).trans y1
               have k2 := (b35.frozen (p := ⟨w.heap.size + 1 + 1, 0, none⟩) (by show w.heap.size + 1 + 1 < _; omega) (nb _ (by show w.heap.size + 1 + 1 < _; omega))).trans y2
               have k3 := (b35.frozen (p := ⟨w.heap.size + 1 + 1 + 1, 0, none⟩) (by show w.heap.size + 1 + 1 + 1 < _; omega) (nb _ (by show w.heap.size + 1 + 1 + 1 < _; omega))).trans y3
               have H5 := Lib.hid (And.intro ho5 (And.intro hb5 (And.intro (And.intro e1 (And.intro e2 e3)) (And.intro k1 (And.intro k2 k3)))))
               clear ho5 hb5 hg5 hv5 t5 b35 nb e1 e2 e3 k1 k2 k3)
            | (go_at_call 119; go_loud (refine (hG _).mono ?_); rintro e w4 ⟨rfl, rfl⟩)
            | (go_at_call 161; go_loud (refine hT6.mono ?_); rintro e w3 ⟨rfl, hw3⟩; subst hw3))
          go_roundw
          case rel =>
            have l0 : (w5.setCell ⟨w.heap.size, 0, none⟩ (.slice a5 (i + 1) cap5)).cell? ⟨w.heap.size, 0, none⟩ = some (.slice a5 (i + 1) cap5) := World.cell?_setCell_same _ _ _ e0
            refine ⟨i + 1, a5, cap5, vs ++ [t], r', by omega, by go_num, by rw [List.length_append, HB.out.1]; rfl, l0, cell_other H5.out.2.2.1.1 (by omega), cell_other H5.out.2.2.1.2.1 (by omega), cell_other H5.out.2.2.1.2.2 (by omega), by simp [go_sem, k0], by simp [go_sem, H5.out.2.2.2.1], by simp [go_sem, H5.out.2.2.2.2.1], by simp [go_sem, H5.out.2.2.2.2.2], ?_, ?_, ?_, ?_, ?_⟩
            · rw [HB.out.2.1, H4.out.2.2.2.2.2.2.1, List.flatMap_append, List.append_assoc]
              simp [H4.out.2.2.2.2.1]
            · intro u hu
              rcases List.mem_append.1 hu with hu | hu
              · exact HB.out.2.2.1 u hu
              · rw [List.mem_singleton.1 hu]; exact H4.out.2.2.2.2.2.1
            · exact (Tn.setCell (F := fun q => q = w.heap.size) w5 ⟨w.heap.size, 0, none⟩ _ rfl).row H5.out.1 (fun q hq e => by have := (H5.out.1.lt q hq).1; omega)
            · exact (H4.out.1.trans ((H4.out.2.1.mono (by omega)).trans (H5.out.2.1.mono (by omega)))).setCell (Nat.le_refl _) _
            · have := H4.out.2.1.size
              have := H5.out.2.1.size
              simp
              omega
          case measure => simp [intOf]; omega
      · obtain rfl : n = i := by omega
        have hlen : s.data.toList.length = s.size := rfl
        have hv : validB vs = true := by
          simp only [validB, Bool.and_eq_true, decide_eq_true_eq]
          exact ⟨by rw [HB.out.1]; omega, List.all_eq_true.2 HB.out.2.2.1⟩
        have henc : s.data.toList = encV vs ++ r.data.toList := by
          rw [HB.out.2.1]
          unfold encV
          rw [HB.out.1, ← hn]
          simp
        have hel : (encV vs).length + r.size = s.size := by
          have h9 := congrArg List.length henc
          rw [List.length_append] at h9
          have e2 : r.data.toList.length = r.size := rfl
          omega
        obtain ⟨en, hen⟩ : ∃ en, (encV vs).length = en := ⟨_, rfl⟩
        have hsub : (s.size : Int) - (r.size : Int) = (en : Int) := by omega
        have hwr : IntKind.i64.wrap (en : Int) = (en : Int) := IntWalk.i64_in _ (by omega)
        have HE := Lib.hid (And.intro hv (And.intro henc hen))
        clear hv henc hel hlen hen
        go_wp2
        have x0 : wr.drew.cell? ⟨w.heap.size, 0, none⟩ = some (.slice a n c) := p0
        have x1 : wr.drew.cell? ⟨w.heap.size + 1, 0, none⟩ = some (.int .i64 0) := p1
        have x2 : wr.drew.cell? ⟨w.heap.size + 1 + 1, 0, none⟩ = some (.int .i64 0) := p2
        have x3 : wr.drew.cell? ⟨w.heap.size + 1 + 1 + 1, 0, none⟩ = some (.string r) := p3
        have y0 : wr.drew.frozen? ⟨w.heap.size, 0, none⟩ = false := g0
        have y1 : wr.drew.frozen? ⟨w.heap.size + 1, 0, none⟩ = false := g1
        have y2 : wr.drew.frozen? ⟨w.heap.size + 1 + 1, 0, none⟩ = false := g2
        refine Code.wp_mono (onlyN_of _) ?_
        refine wp_region_K (fun w' => w'.cell? ⟨w.heap.size, 0, none⟩ = some (.slice a n c) ∧ w'.cell? ⟨w.heap.size + 1 + 1 + 1, 0, none⟩ = some (.string r)) 8 9 (by kernel_rfl) (by kernel_rfl) ⟨x0, x3⟩ (fun hH => ?_)
        refine wpAnyK_take (i := 0) [8] (v := ?v1) rfl (by kernel_rfl) (by kernel_rfl) (by kernel_rfl) (by kernel_rfl) (fun _ _ _ h => h) (Or.inl ⟨by rfl, ?hy1⟩) hH ?rest1
        case hy1 => (intro w hSw; (try dsimp only at hSw); go_simp; with_reducible rfl)
        try simp only [Act.put, List.setIfInBounds_toArray, List.set_cons_zero, List.set_cons_succ]
        refine wpAnyK_take (i := 1) [8] (v := ?v2) rfl (by kernel_rfl) (by kernel_rfl) (by kernel_rfl) (by kernel_rfl) (fun _ _ _ h => h) (Or.inl ⟨by rfl, ?hy2⟩) hH ?rest2
        case hy2 => (intro w hSw; (try dsimp only at hSw); go_simp; with_reducible rfl)
        try simp only [Act.put, List.setIfInBounds_toArray, List.set_cons_zero, List.set_cons_succ]
        refine wpAnyK_take (i := 2) [8] (v := ?v3) rfl (by kernel_rfl) (by kernel_rfl) (by kernel_rfl) (by kernel_rfl) (fun _ _ _ h => h) (Or.inl ⟨by rfl, ?hy3⟩) hH ?rest3
        case hy3 => (intro w hSw; (try dsimp only at hSw); go_simp; with_reducible rfl)
        try simp only [Act.put, List.setIfInBounds_toArray, List.set_cons_zero, List.set_cons_succ]
        refine wpAnyK_take (i := 3) [8] (v := ?v4) rfl (by kernel_rfl) (by kernel_rfl) (by kernel_rfl) (by kernel_rfl) (fun _ _ _ h => h) (Or.inl ⟨by rfl, ?hy4⟩) hH ?rest4
        case hy4 => (intro w hSw; (try dsimp only at hSw); go_simp; with_reducible rfl)
        try simp only [Act.put, List.setIfInBounds_toArray, List.set_cons_zero, List.set_cons_succ]
        refine wpAnyK_take (i := 4) [8] (v := ?v5) rfl (by kernel_rfl) (by kernel_rfl) (by kernel_rfl) (by kernel_rfl) (fun _ _ _ h => h) (Or.inl ⟨by rfl, ?hy5⟩) hH ?rest5
        case hy5 => (intro w hSw; (try dsimp only at hSw); go_simp; with_reducible rfl)
        try simp only [Act.put, List.setIfInBounds_toArray, List.set_cons_zero, List.set_cons_succ]
        refine wpAnyK_take (i := 5) [8] (v := ?v6) rfl (by kernel_rfl) (by kernel_rfl) (by kernel_rfl) (by kernel_rfl) (fun _ _ _ h => h) (Or.inl ⟨by rfl, ?hy6⟩) hH ?rest6
        case hy6 => (intro w hSw; (try dsimp only at hSw); go_simp; with_reducible rfl)
        try simp only [Act.put, List.setIfInBounds_toArray, List.set_cons_zero, List.set_cons_succ]
        refine wpAnyK_one (i := 6) (by kernel_rfl) rfl (fun K hK => ?_) (by kernel_rfl)
        go_simp
        obtain ⟨W7, hW7⟩ : ∃ W7, (wr.setCell ⟨w.heap.size, 0, none⟩ (.slice a n c)).drew = W7 := ⟨_, rfl⟩
        have m0 : W7.cell? ⟨w.heap.size, 0, none⟩ = some (.slice a n c) := by rw [← hW7]; exact World.cell?_setCell_same wr _ _ p0
        have m1 : W7.cell? ⟨w.heap.size + 1, 0, none⟩ = some (.int .i64 0) := by rw [← hW7]; exact cell_other (w := wr) p1 (by omega)
        have m2 : W7.cell? ⟨w.heap.size + 1 + 1, 0, none⟩ = some (.int .i64 0) := by rw [← hW7]; exact cell_other (w := wr) p2 (by omega)
        have m3 : W7.cell? ⟨w.heap.size + 1 + 1 + 1, 0, none⟩ = some (.string r) := by rw [← hW7]; exact cell_other (w := wr) p3 (by omega)
        have n1 : W7.frozen? ⟨w.heap.size + 1, 0, none⟩ = false := by rw [← hW7]; simp [go_sem, g1]
        have n2 : W7.frozen? ⟨w.heap.size + 1 + 1, 0, none⟩ = false := by rw [← hW7]; simp [go_sem, g2]
        have hb7 : Below w.heap.size w W7 := by rw [← hW7]; exact (HB.out.2.2.2.2.1.setCell (Nat.le_refl _) _).drew
        have ho7 : Own eVec W7 (w.heap.size + 4) (.slice a n c) vs := by
          rw [← hW7]
          exact World.ownsRow.drew ((Tn.setCell (F := fun q => q = w.heap.size) wr ⟨w.heap.size, 0, none⟩ _ rfl).row HB.out.2.2.2.1 (fun q hq e => by have := (HB.out.2.2.2.1.lt q hq).1; omega))
        have H7 := Lib.hid (And.intro hb7 ho7)
        rw [hW7]
        refine hK.out _ _ ⟨m0, m3⟩ (fun hH => ?_)
        clear hK K hW7 x0 x1 x2 x3 y0 y1 y2 hb7 ho7
        try simp only [Act.put, List.setIfInBounds_toArray, List.set_cons_zero, List.set_cons_succ]
        refine wpAnyK_one (i := 7) (by kernel_rfl) rfl (fun K hK => ?_) (by kernel_rfl)
        go_simp
        obtain ⟨W8, hW8⟩ : ∃ W8, W7.setCell ⟨w.heap.size + 1, 0, none⟩ (.int .i64 (en : Int)) = W8 := ⟨_, rfl⟩
        rw [hW8]
        have u0 : W8.cell? ⟨w.heap.size, 0, none⟩ = some (.slice a n c) := by rw [← hW8]; exact cell_other m0 (by omega)
        have u1 : W8.cell? ⟨w.heap.size + 1, 0, none⟩ = some (.int .i64 (en : Int)) := by rw [← hW8]; exact World.cell?_setCell_same _ _ _ m1
        have u2 : W8.cell? ⟨w.heap.size + 1 + 1, 0, none⟩ = some (.int .i64 0) := by rw [← hW8]; exact cell_other m2 (by omega)
        have u3 : W8.cell? ⟨w.heap.size + 1 + 1 + 1, 0, none⟩ = some (.string r) := by rw [← hW8]; exact cell_other m3 (by omega)
        have v2 : W8.frozen? ⟨w.heap.size + 1 + 1, 0, none⟩ = false := by rw [← hW8]; simp [go_sem, n2]
        have hb8 : Below w.heap.size w W8 := by rw [← hW8]; exact H7.out.1.setCell (by show _ ≤ w.heap.size + 1; omega) _
        have ho8 : Own eVec W8 (w.heap.size + 4) (.slice a n c) vs := by
          rw [← hW8]
          exact (Tn.setCell (F := fun q => q = w.heap.size + 1) W7 ⟨w.heap.size + 1, 0, none⟩ _ rfl).row H7.out.2 (fun q hq e => by have := (H7.out.2.lt q hq).1; omega)
        have H8 := Lib.hid (And.intro hb8 ho8)
        refine hK.out _ _ ⟨u0, u3⟩ (fun hH => ?_)
        clear hK K hW8 m0 m1 m2 m3 n1 n2 hb8 ho8
        try simp only [Act.put, List.setIfInBounds_toArray, List.set_cons_zero, List.set_cons_succ]
        refine wpAnyK_last (by kernel_rfl) rfl (fun K hK => ?_) (by kernel_rfl)
        go_simp
        obtain ⟨W9, hW9⟩ : ∃ W9, W8.setCell ⟨w.heap.size + 1 + 1, 0, none⟩ (.int .i64 0) = W9 := ⟨_, rfl⟩
        rw [hW9]
        have k0 : W9.cell? ⟨w.heap.size, 0, none⟩ = some (.slice a n c) := by rw [← hW9]; exact cell_other u0 (by omega)
        have k1 : W9.cell? ⟨w.heap.size + 1, 0, none⟩ = some (.int .i64 (en : Int)) := by rw [← hW9]; exact cell_other u1 (by omega)
        have k2 : W9.cell? ⟨w.heap.size + 1 + 1, 0, none⟩ = some (.int .i64 0) := by rw [← hW9]; exact World.cell?_setCell_same _ _ _ u2
        have hb9 : Below w.heap.size w W9 := by rw [← hW9]; exact H8.out.1.setCell (by show _ ≤ w.heap.size + 1 + 1; omega) _
        have ho9 : Own eVec W9 (w.heap.size + 4) (.slice a n c) vs := by
          rw [← hW9]
          exact (Tn.setCell (F := fun q => q = w.heap.size + 1 + 1) W8 ⟨w.heap.size + 1 + 1, 0, none⟩ _ rfl).row H8.out.2 (fun q hq e => by have := (H8.out.2.lt q hq).1; omega)
        have H9 := Lib.hid (And.intro hb9 ho9)
        refine hK.out _ _ (wpAnyK_done (by kernel_rfl) ?_ _)
        clear hK K hH hW9 u0 u1 u2 u3 v2 hb9 ho9
        dsimp only [onlyN]
        go_wp2
        refine leaves_cons (f := 160) (args := #[.pointer (some ⟨w.heap.size, 0, none⟩), .pointer (some ⟨w.heap.size + 1, 0, none⟩), .pointer (some ⟨w.heap.size + 1 + 1, 0, none⟩)]) (by simp) (by simp [go_sem]) ?_
        refine (getv_idle _ _ _ _).mono ?_
        rintro e u' w'' ⟨rfl, rfl, rfl⟩
        simp [Leaves, settle, results, Tryz.results120, go_sem, k0, k1, k2]
        refine ⟨.inr ⟨a, c, vs, r.data.toList, ?_, HE.out.1, HE.out.2.1, ?_⟩, H9.out.1⟩
        · rw [HE.out.2.2, HB.out.1]
        · rw [HB.out.1]
          exact row_mono H9.out.2 (by omega)
end Go.Proofs.YtnegappgdpeabaaGreat
/-
  Lease: what gives up by panic; a number of seven bytes.
-/
namespace Go.Proofs.YtnegappgdpeabaaGreat
open Go.RowKit
variable {w w' w0 w1 w2 w3 w4 : World} {mb lb B : Nat} {ob : Option Nat} {m : Lm} {last now : Int}

theorem want_true (w : World) : Calls Tryz.prog 118 #[.bool true] w fun e w' => e = .returned (.tuple #[]) ∧ w' = w := by
  go_enter Tryz.func118, Tryz.ntmps118
  go_wp2
  go_end0
  exact ⟨rfl, rfl⟩
theorem want_false (w : World) : Calls Tryz.prog 118 #[.bool false] w fun e w' => e = .panicked [{ v := errV 4, recovered := false }] ∧ w' = w := by
  go_enter Tryz.func118, Tryz.ntmps118
  go_wp2
  exact ⟨rfl, rfl, rfl⟩
theorem num_short {b : Nat} {s : ByteArray} (hb : w.cell? ⟨b, 0, none⟩ = some (.string s)) (hs : s.size < 7) : Calls Tryz.prog 117 #[.pointer (some ⟨b, 0, none⟩)] w fun e w' =>
    e = .panicked [{ v := errV 4, recovered := false }] ∧ w' = w := by
  have t1 : ¬ (7 : Int) ≤ (s.size : Int) := by omega
  have t1' : decide ((7 : Int) ≤ (s.size : Int)) = false := decide_eq_false t1
  go_enter Tryz.func117, Tryz.ntmps117
  go_wp2_with (go_at_call 118; go_loud (refine (want_false _).mono ?_); rintro e w2 ⟨rfl, rfl⟩)
  exact ⟨rfl, rfl, rfl⟩
/-- The first seven bytes as a number. -/
def num7 (s : ByteArray) : Int := (Rw.beV (s.extract 0 7).data.toList : Int)
theorem num_ok {b : Nat} {s : ByteArray} (hb : w.cell? ⟨b, 0, none⟩ = some (.string s)) (hf : w.frozen? ⟨b, 0, none⟩ = false) (hs : 7 ≤ s.size) (hm : s.size ≤ 9223372036854775807) : Calls Tryz.prog 117 #[.pointer (some ⟨b, 0, none⟩)] w fun e w' =>
    e = .returned (.int .i64 (num7 s)) ∧ w' = w.setCell ⟨b, 0, none⟩ (.string (s.extract 7 s.size)) := by
  have t1 : (7 : Int) ≤ (s.size : Int) := by omega
  have t1' : decide ((7 : Int) ≤ (s.size : Int)) = true := decide_eq_true t1
  have hG := get7_any (s.extract 0 7) (by rw [ByteArray.size_extract]; omega)
  obtain ⟨n, hn⟩ : ∃ n, num7 s = n := ⟨_, rfl⟩
  have hG' : ∀ w, Calls Tryz.prog 119 #[.string (s.extract 0 7)] w fun e w' => e = .returned (.tuple #[.int .i64 n, .int .i64 0]) ∧ w = w' := by rw [← hn]; exact hG
  rw [hn]
  clear hG hn
  go_enter Tryz.func117, Tryz.ntmps117
  go_wp2_with (first
    | (go_at_call 119; go_loud (refine (hG' _).mono ?_); rintro e w3 ⟨rfl, rfl⟩)
    | (go_at_call 118; go_loud (refine (want_true _).mono ?_); rintro e w2 ⟨rfl, rfl⟩))
  go_ret
  exact ⟨rfl, rfl⟩
theorem num7_enc {s : ByteArray} (h : 7 ≤ s.size) : s.data.toList = enc7 (num7 s) ++ (s.extract 7 s.size).data.toList ∧ 0 ≤ num7 s ∧ num7 s < 72057594037927936 := by
  have hl : (s.extract 0 7).data.toList.length = 7 := by
    have : (s.extract 0 7).size = 7 := by rw [ByteArray.size_extract]; omega
    exact this
  have h1 := bytes_split s 7
  refine ⟨?_, by unfold num7; omega, ?_⟩
  · unfold num7
    rw [enc7_beV hl]
    exact h1
  · have := Rw.beV_lt (s.extract 0 7).data.toList
    rw [hl] at this
    unfold num7
    omega
end Go.Proofs.YtnegappgdpeabaaGreat
