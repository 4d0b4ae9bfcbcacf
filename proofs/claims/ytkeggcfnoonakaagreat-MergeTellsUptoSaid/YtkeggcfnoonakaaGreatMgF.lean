
/-
  Merge: Merge, which meets merge's panic; Light and light.
-/
import Derived.Test.YtkeggcfnoonakaaGreatMgE
import Derived.Defers
import Derived.Recover
import Derived.Laws.Pointers
set_option linter.unusedSimpArgs false
set_option linter.unusedVariables false
namespace Go.Proofs.YtkeggcfnoonakaaGreat
open Go.RowKit

theorem assert_errno (x : Value) (w : World) : (Instr.typeAssert (.iface 43 x) 20 43 true).run Tryz.prog w = .ok (.tuple #[x, .bool true]) w := by kernel_rfl
theorem merge_catch (a b : Nat) (code : Int) (w : World) (fa : w.frozen? ⟨a, 0, none⟩ = false) (fb : w.frozen? ⟨b, 0, none⟩ = false) (ca : ∃ v, w.cell? ⟨a, 0, none⟩ = some v) (cb : ∃ v, w.cell? ⟨b, 0, none⟩ = some v) (hab : a ≠ b) :
    CallsD Tryz.prog 22 #[.pointer (some ⟨a, 0, none⟩), .pointer (some ⟨b, 0, none⟩)] (.panicking [{ v := .iface 43 (.int .i64 code), recovered := false }]) w fun e u' w' =>
      e = .returned (.tuple #[]) ∧ u' = .panicking [{ v := .iface 43 (.int .i64 code), recovered := true }] ∧
      w' = (w.setCell ⟨a, 0, none⟩ (.slice none 0 0)).setCell ⟨b, 0, none⟩ (.int .i64 code) := by
  obtain ⟨va, ca⟩ := ca
  obtain ⟨vb, cb⟩ := cb
  refine callsD_of_wpS Tryz.func22 rfl fun c₀ cs hu => ?_
  apply wpS_seq
  apply wpS_region
  simp [wpOpsS, go_sem, recoverD, hu, Tryz.ntmps22, Exit.thenS]
  refine wpS_of_wp ?_
  simp only [List.replicate, Array.replicate, List.append_toArray, List.setIfInBounds_toArray, List.set_cons_zero, List.set_cons_succ, List.cons_append, List.nil_append]
  have hta := assert_errno
  have hnot : ∀ (x : Bool) (w : World), (Op.unary .not (.bool x)).run Tryz.prog w = .ok (.bool (!x)) w := fun _ _ => rfl
  go_wp2
  exact ⟨rfl, _, rfl, _, results_none rfl _ _ _, rfl, rfl, rfl⟩
theorem merge_idle (a b : Nat) (w : World) :
    CallsD Tryz.prog 22 #[.pointer (some ⟨a, 0, none⟩), .pointer (some ⟨b, 0, none⟩)] .returning w fun e u' w' => e = .returned (.tuple #[]) ∧ u' = .returning ∧ w' = w := by
  refine callsD_of_wpS Tryz.func22 rfl fun c₀ cs hu => ?_
  apply wpS_seq
  apply wpS_region
  simp [wpOpsS, go_sem, recoverD, hu, Tryz.ntmps22, Exit.thenS]
  refine wpS_of_wp ?_
  simp only [List.replicate, Array.replicate, List.append_toArray, List.setIfInBounds_toArray, List.set_cons_zero, List.set_cons_succ, List.cons_append, List.nil_append]
  go_wp2
  refine ⟨rfl, .returning, ?_, _, results_none rfl _ _ _, rfl, rfl, rfl⟩
  cases c₀
  simp_all
/-- What Merge answers. -/
def MergeAns (L : List (List KV)) (w : World) (e : Ending) (w' : World) : Prop :=
  Below w.heap.size w w' ∧ (((∀ l ∈ L, Ris l) ∧ ∃ out v, e = .returned (.tuple #[v, .int .i64 0]) ∧ Own eKV w' w.heap.size v out ∧ Laid L out ∧ out.length ≤ (L.map List.length).sum) ∨
    (¬ (∀ l ∈ L, Ris l) ∧ e = .returned (.tuple #[.slice none 0 0, .int .i64 32])))
theorem RdL.below {w w' : World} {a : Option Addr} {L : List (List KV)} (h : RdL w a L) (hb : Below w.heap.size w w') : RdL w' a L :=
  h.imp id (fun ⟨b, off, h1, h2⟩ => ⟨b, off, h1, fun i hi => by
    obtain ⟨ai, ci, h3, h4⟩ := h2 i hi
    exact ⟨ai, ci, (hb.cell (p := ⟨b, off + i, none⟩) (World.block_lt_of_cell? _ _ h3)).trans h3, h4.below (n := 0) hb⟩⟩)
set_option maxRecDepth 100000 in
set_option maxHeartbeats 1000000 in
theorem merge_any {w : World} {a : Option Addr} {c : Nat} {L : List (List KV)} (hl : RdL w a L) (hlen : L.length ≤ 1000) (htot : (L.map List.length).sum ≤ 100000) :
    Calls Tryz.prog 9 #[.slice a L.length c] w (MergeAns L w) := by
  have hmf : ∀ (fn : Fn) (first cap : Array Value) (w : World), (Instr.makeFunc fn first cap).run Tryz.prog w = .ok (.func fn first cap) w := fun _ _ _ _ => rfl
  obtain ⟨n, hn⟩ : ∃ n, L.length = n := ⟨_, rfl⟩
  have H := Lib.hid (And.intro hl (And.intro hlen (And.intro htot hn)))
  rw [hn]
  clear hl hlen htot hn
  go_enter_defers Tryz.func9, Tryz.ntmps9
  go_wp2_with fail
  have hm := merge_in (w := (w.alloc (.cells #[.slice none 0 0] 23)).alloc (.cells #[.int .i64 0] 43)) (c := c) (H.out.1.below (((Below.refl _ _).alloc (Nat.le_refl _) _).alloc (by simp) _)) H.out.2.1 H.out.2.2.1
  rw [H.out.2.2.2] at hm
  refine hm.mono ?_
  rintro e w2 ⟨hb2, ⟨hr, out, v, rfl, ho, hla, hlo⟩ | ⟨hr, rfl⟩⟩
  · have c0 : w2.cell? ⟨w.heap.size, 0, none⟩ = some (.slice none 0 0) := (hb2.cell (p := ⟨w.heap.size, 0, none⟩) (by simp; omega)).trans (by simp [go_sem])
    have c1 : w2.cell? ⟨w.heap.size + 1, 0, none⟩ = some (.int .i64 0) := (hb2.cell (p := ⟨w.heap.size + 1, 0, none⟩) (by simp)).trans (by simp [go_sem])
    have f0 : w2.frozen? ⟨w.heap.size, 0, none⟩ = false := (hb2.frozen (p := ⟨w.heap.size, 0, none⟩) (by simp; omega)).trans (by simp [go_sem])
    have f1 : w2.frozen? ⟨w.heap.size + 1, 0, none⟩ = false := (hb2.frozen (p := ⟨w.heap.size + 1, 0, none⟩) (by simp)).trans (by simp [go_sem])
    have hz := hb2.size
    simp at hz
    obtain ⟨va, vc, rfl, _⟩ := row_form ho
    have HO := Lib.hid (And.intro hb2 (And.intro hr (And.intro ho (And.intro hla hlo))))
    clear hb2 hr ho hla hlo
    have hT : Tn (fun q => w.heap.size ≤ q ∧ q < w.heap.size + 2) w2 ((w2.setCell ⟨w.heap.size, 0, none⟩ (.slice va out.length vc)).setCell ⟨w.heap.size + 1, 0, none⟩ (.int .i64 0)) :=
      (Tn.setCell (F := fun q => w.heap.size ≤ q ∧ q < w.heap.size + 2) w2 ⟨w.heap.size, 0, none⟩ _ ⟨Nat.le_refl _, by simp⟩).trans (Tn.setCell _ ⟨w.heap.size + 1, 0, none⟩ _ ⟨by simp, by simp⟩)
    have HT := Lib.hid hT
    clear hT
    go_wp2
    refine leaves_cons (f := 22) (args := #[.pointer (some ⟨w.heap.size, 0, none⟩), .pointer (some ⟨w.heap.size + 1, 0, none⟩)]) (by simp) (by simp [go_sem]) ?_
    refine (merge_idle _ _ _).mono ?_
    rintro e u' w'' ⟨rfl, rfl, rfl⟩
    have k0 : ((w2.setCell ⟨w.heap.size, 0, none⟩ (.slice va out.length vc)).setCell ⟨w.heap.size + 1, 0, none⟩ (.int .i64 0)).cell? ⟨w.heap.size, 0, none⟩ = some (.slice va out.length vc) := by
      rw [World.cell?_setCell_other _ _ _ _ (by intro e; injection e with e; omega)]
      exact World.cell?_setCell_same _ _ _ c0
    have k1 : ((w2.setCell ⟨w.heap.size, 0, none⟩ (.slice va out.length vc)).setCell ⟨w.heap.size + 1, 0, none⟩ (.int .i64 0)).cell? ⟨w.heap.size + 1, 0, none⟩ = some (.int .i64 0) := by
      refine World.cell?_setCell_same _ _ _ (u := .int .i64 0) ?_
      rw [World.cell?_setCell_other _ _ _ _ (by intro e; injection e with e; omega)]
      exact c1
    simp [Leaves, settle, results, Tryz.results9, go_sem, k0, k1]
    have hbw : Below w.heap.size w w2 := (((Below.refl _ _).alloc (Nat.le_refl _) _).alloc (by simp) _).trans (HO.out.1.mono (by simp; omega))
    refine ⟨hbw.trans (HT.out.below (by omega) (fun q e => e.1)), .inl ⟨HO.out.2.1, out, _, rfl, ?_, HO.out.2.2.2.1, HO.out.2.2.2.2⟩⟩
    have ho2 : Own eKV w2 (w.heap.size + 1 + 1) (.slice va out.length vc) out := by
      have := HO.out.2.2.1
      simpa using this
    exact HT.out.row (row_mono ho2 (by omega)) (fun q hq e => by have := (ho2.lt q hq).1; omega)
  · have c0 : w2.cell? ⟨w.heap.size, 0, none⟩ = some (.slice none 0 0) := (hb2.cell (p := ⟨w.heap.size, 0, none⟩) (by simp; omega)).trans (by simp [go_sem])
    have c1 : w2.cell? ⟨w.heap.size + 1, 0, none⟩ = some (.int .i64 0) := (hb2.cell (p := ⟨w.heap.size + 1, 0, none⟩) (by simp)).trans (by simp [go_sem])
    have f0 : w2.frozen? ⟨w.heap.size, 0, none⟩ = false := (hb2.frozen (p := ⟨w.heap.size, 0, none⟩) (by simp; omega)).trans (by simp [go_sem])
    have f1 : w2.frozen? ⟨w.heap.size + 1, 0, none⟩ = false := (hb2.frozen (p := ⟨w.heap.size + 1, 0, none⟩) (by simp)).trans (by simp [go_sem])
    have hz := hb2.size
    simp at hz
    have HO := Lib.hid (And.intro hb2 hr)
    clear hb2 hr
    go_wp2
    refine leaves_cons (f := 22) (args := #[.pointer (some ⟨w.heap.size, 0, none⟩), .pointer (some ⟨w.heap.size + 1, 0, none⟩)]) (by simp) (by simp [go_sem]) ?_
    refine (merge_catch _ _ _ _ f0 f1 ⟨_, c0⟩ ⟨_, c1⟩ (by omega)).mono ?_
    rintro e u' w'' ⟨rfl, rfl, rfl⟩
    have k0 : ((w2.setCell ⟨w.heap.size, 0, none⟩ (.slice none 0 0)).setCell ⟨w.heap.size + 1, 0, none⟩ (.int .i64 32)).cell? ⟨w.heap.size, 0, none⟩ = some (.slice none 0 0) := by
      rw [World.cell?_setCell_other _ _ _ _ (by intro e; injection e with e; omega)]
      exact World.cell?_setCell_same _ _ _ c0
    have k1 : ((w2.setCell ⟨w.heap.size, 0, none⟩ (.slice none 0 0)).setCell ⟨w.heap.size + 1, 0, none⟩ (.int .i64 32)).cell? ⟨w.heap.size + 1, 0, none⟩ = some (.int .i64 32) := by
      refine World.cell?_setCell_same _ _ _ (u := .int .i64 0) ?_
      rw [World.cell?_setCell_other _ _ _ _ (by intro e; injection e with e; omega)]
      exact c1
    simp [Leaves, settle, results, Tryz.results9, go_sem, k0, k1]
    have hbw : Below w.heap.size w w2 := (((Below.refl _ _).alloc (Nat.le_refl _) _).alloc (by simp) _).trans (HO.out.1.mono (by simp; omega))
    have hT : Tn (fun q => w.heap.size ≤ q) w2 ((w2.setCell ⟨w.heap.size, 0, none⟩ (.slice none 0 0)).setCell ⟨w.heap.size + 1, 0, none⟩ (.int .i64 32)) :=
      (Tn.setCell (F := fun q => w.heap.size ≤ q) w2 ⟨w.heap.size, 0, none⟩ _ (Nat.le_refl _)).trans (Tn.setCell _ ⟨w.heap.size + 1, 0, none⟩ _ (by simp))
    exact ⟨hbw.trans (hT.below (by omega) (fun q e => e)), .inr ⟨HO.out.2, rfl⟩⟩

/-! ### Light, light. -/
def lightN (l : List KV) : Nat := (l.map (fun p => 20 + p.1.size + p.2.size)).sum
def LightP (l : List KV) : Prop := lightN l ≤ 60000
def lightB (l : List KV) : Bool := decide (lightN l ≤ 60000)
/-- Each text is no greater than any. -/
def Fits (l : List KV) : Prop := ∀ p ∈ l, p.1.size ≤ maxLen ∧ p.2.size ≤ maxLen
theorem lightN_take (l : List KV) (i : Nat) (hi : i < l.length) : lightN (l.take (i + 1)) = lightN (l.take i) + 20 + l[i].1.size + l[i].2.size := by
  unfold lightN
  rw [List.take_succ_eq_append_getElem hi, List.map_append, List.sum_append]
  simp
  omega
theorem lightN_le (l : List KV) (i : Nat) : lightN (l.take i) ≤ lightN l := by
  have : l = l.take i ++ l.drop i := (List.take_append_drop i l).symm
  conv => rhs; rw [this]
  unfold lightN
  rw [List.map_append, List.sum_append]
  omega
set_option maxHeartbeats 1000000 in
theorem Light_any {w : World} {a : Option Addr} {c : Nat} {l : List KV} (h : RdP w a c l) (hf : ∀ p ∈ l, p.1.size + p.2.size ≤ 1000000000000000000) (hl : l.length ≤ 1000000000000000000) :
    Calls Tryz.prog 5 #[.slice a l.length c] w fun e w' => e = .returned (.bool (lightB l)) ∧ ∃ d, w' = w.drewN d := by
  obtain ⟨n, hn⟩ : ∃ n, l.length = n := ⟨_, rfl⟩
  rw [hn] at hl ⊢
  have H := Lib.hid (And.intro h (And.intro hf hn))
  clear h hf hn
  go_enter Tryz.func5, Tryz.ntmps5
  go_wp2
  go_loopw [3, 4] (fun y x wr => ∃ (i : Nat) (d : Nat), i ≤ n ∧ x = .int .i64 (i : Int) ∧ y = .int .i64 (lightN (l.take i) : Int) ∧ (i = 0 ∨ lightN (l.take (i - 1)) ≤ 60000) ∧ wr = w.drewN d) (fun _ x _ => n - (intOf x).toNat)
  case atStart => exact ⟨0, 0, by omega, rfl, rfl, .inl rfl, rfl⟩
  case round =>
    obtain ⟨i, d, hi, rfl, rfl, hpr, hwr⟩ := hrel
    have HW := Lib.hid hwr
    obtain ⟨q, hq⟩ : ∃ q, lightN (l.take i) = q := ⟨_, rfl⟩
    have HQ := Lib.hid hq
    have HPR := Lib.hid hpr
    rw [hq]
    clear hwr hq hpr
    by_cases hlt : i < n
    · have hil : i < l.length := by rw [H.out.2.2]; exact hlt
      have z1 : (i : Int) < (n : Int) := by omega
      by_cases hq6 : q ≤ 60000
      · have z2 : (q : Int) ≤ 60000 := by omega
        obtain ⟨b, off, rfl, hc⟩ := H.out.1.2.2.resolve_left (fun e => by rw [e] at hil; simp at hil)
        obtain ⟨c0, c1⟩ := hc i hil
        have d0 : wr.cell? ⟨b, off + i * 2, none⟩ = some (.string l[i].1) := by rw [HW.out]; exact c0
        have d1 : wr.cell? ⟨b, off + i * 2 + 1, none⟩ = some (.string l[i].2) := by rw [HW.out]; exact c1
        have hs := H.out.2.1 _ (List.getElem_mem hil)
        have hnx := lightN_take l i hil
        rw [HQ.out] at hnx
        obtain ⟨kx, hkx⟩ : ∃ x, l[i].1 = x := ⟨_, rfl⟩
        obtain ⟨vx, hvx⟩ : ∃ x, l[i].2 = x := ⟨_, rfl⟩
        rw [hkx] at d0 hs hnx
        rw [hvx] at d1 hs hnx
        have HNX := Lib.hid hnx
        have z3 : (0 : Int) ≤ (i : Int) := by omega
        have y1 : IntKind.i64.wrap ((q : Int) + 20) = (q : Int) + 20 := IntWalk.i64_in _ (by omega)
        have y2 : IntKind.i64.wrap ((q : Int) + 20 + (kx.size : Int)) = (q : Int) + 20 + (kx.size : Int) := IntWalk.i64_in _ (by omega)
        have y3 : IntKind.i64.wrap ((q : Int) + 20 + (kx.size : Int) + (vx.size : Int)) = (q : Int) + 20 + (kx.size : Int) + (vx.size : Int) := IntWalk.i64_in _ (by omega)
        clear hc c0 c1 hnx hkx hvx
        go_wp2_with fail
        go_quiet (fail)
        clear y1 y2 y3
        go_wp2_with fail
        go_roundw
        case rel => exact ⟨i + 1, _, by omega, by go_num, by rw [HNX.out]; congr 1, .inr (by rw [Nat.add_sub_cancel, HQ.out]; exact hq6), by rw [HW.out]; exact World.drewN_drewN _ _ _⟩
        case measure => simp [intOf]; omega
      · have z2 : ¬ (q : Int) ≤ 60000 := by omega
        have hfin : lightB l = false := by
          unfold lightB
          have := lightN_le l i
          rw [HQ.out] at this
          exact decide_eq_false (by omega)
        have HF := Lib.hid hfin
        clear hfin
        go_wp2_with fail
        go_ret
        exact ⟨by rw [HF.out]; rfl, _, HW.out⟩
    · obtain rfl : i = n := by omega
      have hfull : lightN l = q := by rw [← HQ.out, ← H.out.2.2, List.take_length]
      by_cases hq6 : q ≤ 60000
      · have z2 : (q : Int) ≤ 60000 := by omega
        have hfin : lightB l = true := by unfold lightB; rw [hfull]; exact decide_eq_true hq6
        have HF := Lib.hid hfin
        clear hfin hfull
        go_wp2_with fail
        go_ret
        exact ⟨by rw [HF.out]; rfl, _, HW.out⟩
      · have z2 : ¬ (q : Int) ≤ 60000 := by omega
        have hfin : lightB l = false := by unfold lightB; rw [hfull]; exact decide_eq_false hq6
        have HF := Lib.hid hfin
        clear hfin hfull
        go_wp2_with fail
        go_ret
        exact ⟨by rw [HF.out]; rfl, _, HW.out⟩
def lenS (L : List (List KV)) : Nat := (L.map List.length).sum
def lightL (L : List (List KV)) : Bool := L.all lightB && decide (L.length ≤ 40) && decide (lenS L ≤ 2000)
/-- Texts as they come in. -/
def SzL (L : List (List KV)) : Prop := ∀ l ∈ L, l.length ≤ 1000000000000000000 ∧ ∀ p ∈ l, p.1.size + p.2.size ≤ 1000000000000000000
theorem light_len {l : List KV} (h : lightB l = true) : l.length ≤ 3000 := by
  unfold lightB at h
  have h1 := of_decide_eq_true h
  have h2 : ∀ l : List KV, 20 * l.length ≤ lightN l := by
    intro l
    induction l with
    | nil => simp
    | cons p l ih =>
      have e : lightN (p :: l) = 20 + p.1.size + p.2.size + lightN l := by simp [lightN]
      rw [e, List.length_cons]
      omega
  have := h2 l
  omega
theorem lenS_take (L : List (List KV)) (i : Nat) (hi : i < L.length) : lenS (L.take (i + 1)) = lenS (L.take i) + L[i].length := sum_take L i hi
theorem lenS_small (L : List (List KV)) (i : Nat) (h : ∀ l ∈ L.take i, lightB l = true) : lenS (L.take i) ≤ 3000 * i := by
  have : ∀ M : List (List KV), (∀ l ∈ M, lightB l = true) → lenS M ≤ 3000 * M.length := by
    intro M
    induction M with
    | nil => intro _; simp [lenS]
    | cons l M ih =>
      intro hM
      have h1 := light_len (hM l (List.mem_cons_self))
      have h2 := ih (fun x hx => hM x (List.mem_cons_of_mem _ hx))
      have e : lenS (l :: M) = l.length + lenS M := by simp [lenS]
      rw [e, List.length_cons]
      omega
  refine Nat.le_trans (this _ h) ?_
  exact Nat.mul_le_mul_left _ (List.length_take_le _ _)
set_option maxHeartbeats 1000000 in
theorem light_any {w : World} {a : Option Addr} {c : Nat} {L : List (List KV)} (h : RdL w a L) (hf : SzL L) (hl : L.length ≤ 100000000000000) :
    Calls Tryz.prog 4 #[.slice a L.length c] w fun e w' => e = .returned (.bool (lightL L)) ∧ Below w.heap.size w w' := by
  obtain ⟨n, hn⟩ : ∃ n, L.length = n := ⟨_, rfl⟩
  rw [hn] at hl ⊢
  have H := Lib.hid (And.intro h (And.intro hf hn))
  clear h hf hn
  go_enter Tryz.func4, Tryz.ntmps4
  go_wp2
  go_loopw [3, 4] (fun y x wr => ∃ (i d : Nat), i ≤ n ∧ x = .int .i64 (i : Int) ∧ y = .int .i64 (lenS (L.take i) : Int) ∧ (∀ l ∈ L.take i, lightB l = true) ∧ wr = w.drewN d) (fun _ x _ => n - (intOf x).toNat)
  case atStart => exact ⟨0, 0, by omega, rfl, rfl, fun l hl => by simp at hl, rfl⟩
  case round =>
    obtain ⟨i, d, hi, rfl, rfl, hpr, hwr⟩ := hrel
    have HW := Lib.hid hwr
    have hsm := lenS_small L i hpr
    obtain ⟨q, hq⟩ : ∃ q, lenS (L.take i) = q := ⟨_, rfl⟩
    have HQ := Lib.hid hq
    have HPR := Lib.hid hpr
    rw [hq] at hsm ⊢
    clear hwr hq hpr
    by_cases hlt : i < n
    · have hil : i < L.length := by rw [H.out.2.2]; exact hlt
      have z1 : (i : Int) < (n : Int) := by omega
      obtain ⟨b, off, rfl, hc⟩ := H.out.1.resolve_left (fun e => by rw [e] at hil; simp at hil)
      obtain ⟨ai, ci, c0, hr⟩ := hc i hil
      have d0 : wr.cell? ⟨b, off + i, none⟩ = some (.slice ai L[i].length ci) := by rw [HW.out]; exact c0
      have hr2 : RdP wr ai ci L[i] := by rw [HW.out]; exact hr
      have hsz := H.out.2.1 _ (List.getElem_mem hil)
      have hL := Light_any hr2 hsz.2 hsz.1
      have hll := @light_len L[i]
      have hnx := lenS_take L i hil
      have htk : L.take (i + 1) = L.take i ++ [L[i]] := List.take_succ_eq_append_getElem hil
      have hmem : L[i] ∈ L := List.getElem_mem hil
      obtain ⟨x, hx⟩ : ∃ x, L[i] = x := ⟨_, rfl⟩
      rw [hx] at d0 hL hll hnx htk hmem
      obtain ⟨m, hm⟩ : ∃ m, x.length = m := ⟨_, rfl⟩
      rw [HQ.out] at hnx
      rw [hm] at d0 hL hll hnx
      have HX := Lib.hid (And.intro hL (And.intro hnx (And.intro htk hmem)))
      clear hc c0 hr hr2 hsz hL hnx htk hx hm hmem
      cases hb : lightB x with
      | false =>
        have HB := Lib.hid hb
        clear hb hll
        go_wp2_with fail
        refine HX.out.1.mono ?_
        rintro e w2 ⟨rfl, d2, rfl⟩
        rw [HB.out]
        have hfin : lightL L = false := by
          unfold lightL
          have : L.all lightB = false := by
            rw [List.all_eq_false]
            exact ⟨x, HX.out.2.2.2, by rw [HB.out]; simp⟩
          rw [this]
          rfl
        have HF := Lib.hid hfin
        clear hfin
        go_wp2_with fail
        go_ret
        exact ⟨by rw [HF.out]; rfl, by rw [HW.out]; exact ((tn_drewN (F := fun _ => False) w d).trans (tn_drewN _ _)).below (Nat.le_refl _) (fun _ e => e.elim)⟩
      | true =>
        have hm3 := hll hb
        have HB := Lib.hid hb
        clear hb hll
        go_wp2_with fail
        refine HX.out.1.mono ?_
        rintro e w2 ⟨rfl, d2, rfl⟩
        rw [HB.out]
        go_wp2_with fail
        go_roundw
        case rel => exact ⟨i + 1, d + d2, by omega, by go_num, by rw [HX.out.2.1]; go_num, fun l hl => by
          rw [HX.out.2.2.1] at hl
          rcases List.mem_append.1 hl with hl | hl
          · exact HPR.out l hl
          · rw [List.mem_singleton] at hl
            subst hl
            exact HB.out, by rw [HW.out]; exact World.drewN_drewN _ _ _⟩
        case measure => simp [intOf]; omega
    · obtain rfl : i = n := by omega
      have hfull : L.take i = L := by rw [← H.out.2.2]; exact List.take_length
      have hall : L.all lightB = true := by rw [List.all_eq_true]; intro l hl; exact HPR.out l (by rw [hfull]; exact hl)
      have hql : lenS L = q := by rw [← hfull]; exact HQ.out
      have hfin : lightL L = (decide (i ≤ 40) && decide (q ≤ 2000)) := by
        unfold lightL
        rw [hall, H.out.2.2, hql]
        rfl
      have HF := Lib.hid hfin
      clear hfin hql hall hfull
      have hbel : Below w.heap.size w wr := by rw [HW.out]; exact (tn_drewN (F := fun _ => False) w d).below (Nat.le_refl _) (fun _ e => e.elim)
      have HBL := Lib.hid hbel
      clear hbel
      by_cases h40 : i ≤ 40
      · have y1 : (i : Int) ≤ 40 := by omega
        by_cases h2 : q ≤ 2000
        · have y2 : (q : Int) ≤ 2000 := by omega
          go_wp2_with fail
          go_ret
          exact ⟨by rw [HF.out, decide_eq_true h40, decide_eq_true h2]; rfl, HBL.out⟩
        · have y2 : ¬ (q : Int) ≤ 2000 := by omega
          go_wp2_with fail
          go_ret
          exact ⟨by rw [HF.out, decide_eq_true h40, decide_eq_false h2]; rfl, HBL.out⟩
      · have y1 : ¬ (i : Int) ≤ 40 := by omega
        go_wp2_with fail
        go_ret
        exact ⟨by rw [HF.out, decide_eq_false h40]; rfl, HBL.out⟩
end Go.Proofs.YtkeggcfnoonakaaGreat
