/-
  Disk: asked for power and names, a panic met.
-/
import Derived.Test.YtjhajlfkiafhgaaDoorDkB
import Derived.Defers
import Derived.Recover
import Derived.Laws.Pointers
namespace Go.Proofs.YtjhajlfkiafhgaaDoor
open Go.RowKit

/-- What is asked of a disk with power, or without. -/
def askE (on : Bool) (l : List ByteArray) : Int := if !on then 20 else if l.all nmB then 0 else 21
/-- A disk with power, or without: at an address, or none. -/
def OnAt (w : World) (o : Option Addr) (b : Bool) : Prop := (o = none ∧ b = false) ∨ ∃ db, o = some ⟨db, 0, none⟩ ∧ w.cell? ⟨db, 1, none⟩ = some (.bool b)
theorem OnAt.below {w w' : World} {o : Option Addr} {b : Bool} (h : OnAt w o b) (hb : Below w.heap.size w w') : OnAt w' o b := by
  rcases h with h | ⟨db, h, hc⟩
  · exact .inl h
  · exact .inr ⟨db, h, (hb.cell (p := ⟨db, 1, none⟩) (World.block_lt_of_cell? _ _ hc)).trans hc⟩
theorem on_at {w : World} {o : Option Addr} {b : Bool} (h : OnAt w o b) : Calls Tryd.prog 26 #[.pointer o] w fun e w' => e = .returned (.bool b) ∧ w = w' := by
  rcases h with ⟨rfl, rfl⟩ | ⟨db, rfl, hc⟩
  · exact on_nil w
  · exact on_any hc

/-- wanted panics with a code, or it does not. -/
def WantE (k : Int) (e : Ending) : Prop := (k = 0 ∧ e = .returned (.tuple #[])) ∨ (k ≠ 0 ∧ e = .panicked [{ v := .iface 25 (.int .i64 k), recovered := false }])

set_option maxRecDepth 100000 in
theorem wanted_any {w : World} {o : Option Addr} {b : Bool} (h : OnAt w o b) {x : Value} {l : List ByteArray} (hx : RdT w x l) (hl : l.length ≤ 1000000) (hs : ∀ s ∈ l, s.size ≤ 9223372036854775807) :
    Calls Tryd.prog 45 #[.pointer o, x] w fun e w' => WantE (askE b l) e ∧ Below w.heap.size w w' := by
  have hO := on_at h
  have hC := contains_any hx hl hs
  obtain ⟨a, c, rfl, -⟩ := hx
  obtain ⟨n, hn⟩ : ∃ n, l.length = n := ⟨_, rfl⟩
  rw [hn] at hC ⊢
  obtain ⟨q, hq⟩ : ∃ q, l.all nmB = q := ⟨_, rfl⟩
  have hk : askE b l = if !b then 20 else if q then 0 else 21 := by unfold askE; rw [hq]
  rw [hk]
  rw [hq] at hC
  clear hk hq hs hl h hn
  cases b
  · go_enter Tryd.func45, Tryd.ntmps45
    go_wp2_with (go_at_call 26; refine hO.mono ?_; rintro e w' ⟨rfl, rfl⟩)
    exact ⟨rfl, .inr ⟨by decide, by simp⟩, Below.refl _ _⟩
  · cases q
    · simp only [Bool.not_false] at hC
      go_enter Tryd.func45, Tryd.ntmps45
      go_wp2_with (first
        | (go_at_call 26; refine hO.mono ?_; rintro e w' ⟨rfl, rfl⟩)
        | (go_at_call 54; refine hC.mono ?_; rintro e w1 ⟨rfl, hb⟩; have HB := Lib.hid hb; clear hb))
      exact ⟨rfl, .inr ⟨by decide, by simp⟩, HB.out⟩
    · simp only [Bool.not_true] at hC
      go_enter Tryd.func45, Tryd.ntmps45
      go_wp2_with (first
        | (go_at_call 26; refine hO.mono ?_; rintro e w' ⟨rfl, rfl⟩)
        | (go_at_call 54; refine hC.mono ?_; rintro e w1 ⟨rfl, hb⟩; have HB := Lib.hid hb; clear hb))
      go_end0
      exact ⟨.inl ⟨by decide, rfl⟩, HB.out⟩

theorem assert_errno (x : Value) (w : World) : (Instr.typeAssert (.iface 25 x) 20 25 true).run Tryd.prog w = .ok (.tuple #[x, .bool true]) w := by kernel_rfl

theorem asked_catch (a : Nat) (code : Int) (w : World) (fa : w.frozen? ⟨a, 0, none⟩ = false) (ca : ∃ v, w.cell? ⟨a, 0, none⟩ = some v) :
    CallsD Tryd.prog 44 #[.pointer (some ⟨a, 0, none⟩)] (.panicking [{ v := .iface 25 (.int .i64 code), recovered := false }]) w fun e u' w' =>
      e = .returned (.tuple #[]) ∧ u' = .panicking [{ v := .iface 25 (.int .i64 code), recovered := true }] ∧ w' = w.setCell ⟨a, 0, none⟩ (.int .i64 code) := by
  obtain ⟨va, ca⟩ := ca
  refine callsD_of_wpS Tryd.func44 rfl fun c₀ cs hu => ?_
  apply wpS_seq
  apply wpS_region
  simp [wpOpsS, go_sem, recoverD, hu, Tryd.ntmps44, Exit.thenS]
  refine wpS_of_wp ?_
  simp only [List.replicate, Array.replicate, List.append_toArray, List.setIfInBounds_toArray, List.set_cons_zero, List.set_cons_succ, List.cons_append, List.nil_append]
  have hta := assert_errno
  have hnot : ∀ (x : Bool) (w : World), (Op.unary .not (.bool x)).run Tryd.prog w = .ok (.bool (!x)) w := fun _ _ => rfl
  go_wp2
  exact ⟨rfl, _, rfl, _, results_none rfl _ _ _, rfl, rfl, rfl⟩

theorem asked_idle (a : Nat) (w : World) :
    CallsD Tryd.prog 44 #[.pointer (some ⟨a, 0, none⟩)] .returning w fun e u' w' => e = .returned (.tuple #[]) ∧ u' = .returning ∧ w' = w := by
  refine callsD_of_wpS Tryd.func44 rfl fun c₀ cs hu => ?_
  apply wpS_seq
  apply wpS_region
  simp [wpOpsS, go_sem, recoverD, hu, Tryd.ntmps44, Exit.thenS]
  refine wpS_of_wp ?_
  simp only [List.replicate, Array.replicate, List.append_toArray, List.setIfInBounds_toArray, List.set_cons_zero, List.set_cons_succ, List.cons_append, List.nil_append]
  go_wp2
  refine ⟨rfl, .returning, ?_, _, results_none rfl _ _ _, rfl, rfl, rfl⟩
  cases c₀
  simp_all

set_option maxRecDepth 100000 in
theorem asked_any {w : World} {o : Option Addr} {b : Bool} (h : OnAt w o b) {x : Value} {l : List ByteArray} (hx : RdT w x l) (hl : l.length ≤ 1000000) (hs : ∀ s ∈ l, s.size ≤ 9223372036854775807) :
    Calls Tryd.prog 28 #[.pointer o, x] w fun e w' => e = .returned (.int .i64 (askE b l)) ∧ Below w.heap.size w w' := by
  have hmf : ∀ (fn : Fn) (first cap : Array Value) (w : World), (Instr.makeFunc fn first cap).run Tryd.prog w = .ok (.func fn first cap) w := fun _ _ _ _ => rfl
  have hW := fun (w1 : World) (hb : Below w.heap.size w w1) => wanted_any (h.below hb) (hx.below hb) hl hs
  obtain ⟨k, hk⟩ : ∃ k, askE b l = k := ⟨_, rfl⟩
  rw [hk] at hW ⊢
  have HW := Lib.hid hW
  clear hW hk h hx hl hs
  go_enter_defers Tryd.func28, Tryd.ntmps28
  go_wp2_with fail
  refine (HW.out _ ((Below.refl _ _).alloc (Nat.le_refl _) _)).mono ?_
  rintro e w1 ⟨⟨rfl, rfl⟩ | ⟨hk, rfl⟩, hb⟩
  · have HB := Lib.hid hb
    have c1 : w1.cell? ⟨w.heap.size, 0, none⟩ = some (.int .i64 0) := (hb.cell (p := ⟨w.heap.size, 0, none⟩) (by simp)).trans (by simp [go_sem])
    have f1 : w1.frozen? ⟨w.heap.size, 0, none⟩ = false := (hb.frozen (p := ⟨w.heap.size, 0, none⟩) (by simp)).trans (by simp [go_sem])
    clear hb
    go_wp2
    refine leaves_cons (f := 44) (args := #[.pointer (some ⟨w.heap.size, 0, none⟩)]) (by simp) (by simp [go_sem]) ?_
    refine (asked_idle _ _).mono ?_
    rintro e u' w'' ⟨rfl, rfl, rfl⟩
    simp [Leaves, settle, results, Tryd.results28, go_sem]
    have hsc : (w1.setCell ⟨w.heap.size, 0, none⟩ (.int .i64 0)).cell? ⟨w.heap.size, 0, none⟩ = some (.int .i64 0) := World.cell?_setCell_same _ _ _ c1
    simp only [hsc]
    exact ⟨_, rfl, rfl, (((Below.refl _ _).alloc (Nat.le_refl _) _).trans (HB.out.mono (by simp))).setCell (by simp) _⟩
  · have HK := Lib.hid hk
    have HB := Lib.hid hb
    have c1 : w1.cell? ⟨w.heap.size, 0, none⟩ = some (.int .i64 0) := (hb.cell (p := ⟨w.heap.size, 0, none⟩) (by simp)).trans (by simp [go_sem])
    have f1 : w1.frozen? ⟨w.heap.size, 0, none⟩ = false := (hb.frozen (p := ⟨w.heap.size, 0, none⟩) (by simp)).trans (by simp [go_sem])
    clear hb hk
    go_wp2
    refine leaves_cons (f := 44) (args := #[.pointer (some ⟨w.heap.size, 0, none⟩)]) (by simp) (by simp [go_sem]) ?_
    refine (asked_catch _ _ _ f1 ⟨_, c1⟩).mono ?_
    rintro e u' w'' ⟨rfl, rfl, rfl⟩
    simp [Leaves, settle, results, Tryd.results28, go_sem]
    have hsc : (w1.setCell ⟨w.heap.size, 0, none⟩ (.int .i64 k)).cell? ⟨w.heap.size, 0, none⟩ = some (.int .i64 k) := World.cell?_setCell_same _ _ _ c1
    simp only [hsc]
    exact ⟨_, rfl, rfl, (((Below.refl _ _).alloc (Nat.le_refl _) _).trans (HB.out.mono (by simp))).setCell (by simp) _⟩
end Go.Proofs.YtjhajlfkiafhgaaDoor
