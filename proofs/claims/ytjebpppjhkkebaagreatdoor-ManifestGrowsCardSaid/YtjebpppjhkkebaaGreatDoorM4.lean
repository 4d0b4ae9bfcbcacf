import Derived.Test.YtjebpppjhkkebaaGreatDoorM3
import Derived.Deep.RegionHeld3
import Derived.Sort.Grow
/-
  Manifest: what right asks of each file, of each note.
-/
set_option linter.unusedSimpArgs false
set_option linter.unusedVariables false
namespace Go.Proofs.YtjebpppjhkkebaaGreatDoor
open Go.RowKit

theorem right1_any (x : Fi) (w : World) : Calls Tryz.prog 79 #[.agg (Fi.cells x).toArray] w fun e w' => e = .returned (.bool (!validF x)) ∧ Below w.heap.size w w' := by
  show Calls Tryz.prog 79 #[.agg #[.int .i64 x.lv, .int .i64 x.nu, .int .i64 x.ct, .int .i64 x.sz, .string x.f, .string x.l]] w _
  go_enter Tryz.func79, Tryz.ntmps79
  go_wp2_with (go_at_call 17; refine (mvalid_any x _).mono ?_; rintro e w2 ⟨rfl, hb⟩; have HB := Lib.hid hb; clear hb)
  go_ret
  exact ⟨rfl, ((Below.refl _ _).alloc (Nat.le_refl _) _).trans (HB.out.mono (by simp))⟩
theorem emp_yes {s : ByteArray} (h : s.size = 0) : s.toList.isEmpty = true := by
  rw [ByteArray.toList_eq, List.isEmpty_iff]
  exact List.eq_nil_of_length_eq_zero (show s.data.toList.length = 0 from by rw [Array.length_toList]; exact h)
theorem emp_no {s : ByteArray} (h : s.size ≠ 0) : s.toList.isEmpty = false := by
  rw [ByteArray.toList_eq, Bool.eq_false_iff]
  intro e
  have h2 := congrArg List.length (List.isEmpty_iff.1 e)
  simp only [Array.length_toList, List.length_nil] at h2
  exact h h2
theorem right2_any (p : KV) (w : World) : Calls Tryz.prog 82 #[.agg (cNt p).toArray] w fun e w' => e = .returned (.bool (!noteB p)) ∧ Below w.heap.size w w' := by
  show Calls Tryz.prog 82 #[.agg #[.string p.1, .string p.2]] w _
  have hb : Below w.heap.size w (w.alloc (.cells #[.string p.1, .string p.2] 47)) := (Below.refl _ _).alloc (Nat.le_refl _) _
  have HB := Lib.hid hb
  clear hb
  by_cases h1 : p.1.size = 0
  · have s1 := emp_yes h1
    have hn : noteB p = false := by unfold noteB; simp [h1]
    rw [hn]
    clear hn
    go_enter Tryz.func82, Tryz.ntmps82
    go_wp2
    go_ret
    exact ⟨rfl, HB.out⟩
  · have s1 := emp_no h1
    by_cases h2 : p.1.size ≤ 32
    · have z2 : ¬ (32 : Int) < (p.1.size : Int) := by omega
      by_cases h3 : p.2.size ≤ 20000
      · have z3 : ¬ (20000 : Int) < (p.2.size : Int) := by omega
        have hn : noteB p = true := by unfold noteB; simp [h1, h2, h3]
        rw [hn]
        clear hn
        go_enter Tryz.func82, Tryz.ntmps82
        go_wp2
        go_ret
        exact ⟨rfl, HB.out⟩
      · have z3 : (20000 : Int) < (p.2.size : Int) := by omega
        have hn : noteB p = false := by unfold noteB; simp [h3]
        rw [hn]
        clear hn
        go_enter Tryz.func82, Tryz.ntmps82
        go_wp2
        go_ret
        exact ⟨rfl, HB.out⟩
    · have z2 : (32 : Int) < (p.1.size : Int) := by omega
      have hn : noteB p = false := by unfold noteB; simp [h2]
      rw [hn]
      clear hn
      go_enter Tryz.func82, Tryz.ntmps82
      go_wp2
      go_ret
      exact ⟨rfl, HB.out⟩
end Go.Proofs.YtjebpppjhkkebaaGreatDoor
/-
  A load may be taken first as long as the region's last store has not come up: the condition on the world is asked for only till then.
-/
set_option linter.unusedSimpArgs false
set_option linter.unusedVariables false
namespace Go.Proofs.YtjebpppjhkkebaaGreatDoor
open Go.RowKit
section
variable {P : Program} {ops : Array Oper} {Q : Exit → Act → World → Prop} {md : Region.Mode} {S : World → Prop} {k : Nat}

/-- Whatever order is picked from here on; behind every operation S holds, as long as operation k has not come up. -/
def wpAnyK (P : Program) (md : Region.Mode) (ops : Array Oper) (Q : Exit → Act → World → Prop) (S : World → Prop) (k : Nat) : Nat → Array Bool → Act → World → Prop
  | 0, listed, a, w => Region.ready md ops listed = [] ∧ Q .normal a w
  | fuel + 1, listed, a, w =>
    (Region.ready md ops listed = [] → Q .normal a w) ∧
    ∀ i ∈ Region.ready md ops listed, wpOp P ops Q i (fun a' w' => ((listed.setIfInBounds i true).getD k true = false → S w') ∧ wpAnyK P md ops Q S k fuel (listed.setIfInBounds i true) a' w') a w

theorem wpAny_of_K : ∀ (fuel : Nat) (listed : Array Bool) (a : Act) (w : World), wpAnyK P md ops Q S k fuel listed a w → wpAny P md ops Q fuel listed a w
  | 0, _, _, _, h => h
  | fuel + 1, _, _, _, h => ⟨h.1, fun i hi => wpOp_mono (fun a' w' h' => wpAny_of_K fuel _ a' w' h'.2) (h.2 i hi)⟩

/-- Operation b waits for a. -/
def Region.waits (md : Region.Mode) (ops : Array Oper) (a b : Nat) : Bool :=
  match ops[b]? with
  | some ob => ob.after.any fun e => Region.binds md e && e.on == a
  | none => false
/-- Each of a row of operations waits for the one ahead of it. -/
def Region.row (md : Region.Mode) (ops : Array Oper) : List Nat → Bool
  | a :: b :: l => Region.waits md ops a b && Region.row md ops (b :: l)
  | _ => true

theorem waits_spec {a b : Nat} (h : Region.waits md ops a b = true) (listed : Array Bool) (hl : listed.getD a true = false) : b ∉ Region.ready md ops listed := by
  intro hr
  obtain ⟨_, ok, hok, hall⟩ := mem_ready.1 hr
  unfold Region.waits at h
  simp only [hok] at h
  rw [← Array.any_toList] at h
  obtain ⟨e, he, hb⟩ := List.any_eq_true.1 h
  simp only [Bool.and_eq_true, beq_iff_eq] at hb
  have h1 := hall e (Array.mem_toList_iff.1 he) hb.1
  rw [hb.2] at h1
  rcases Nat.lt_or_ge a listed.size with h' | h'
  · simp [h'] at hl h1; rw [hl] at h1; cases h1
  · simp [Array.getElem?_eq_none h'] at h1

theorem row_spec : ∀ (l : List Nat) (i : Nat), Region.row md ops (i :: l) = true → ∀ listed : Array Bool, (∀ a ∈ i :: l, listed.getD a true = false) → ∀ a ∈ l, a ∉ Region.ready md ops listed
  | [], _, _, _, _, a, ha => by simp at ha
  | b :: l, i, hr, listed, hl, a, ha => by
    simp only [Region.row, Bool.and_eq_true] at hr
    rcases List.mem_cons.1 ha with rfl | ha
    · exact waits_spec hr.1 listed (hl i (by simp))
    · exact row_spec l b hr.2 listed (fun c hc => hl c (List.mem_cons_of_mem _ hc)) a ha

/-- An operation that may come up now, that yields its value in every world that meets S, and that k waits for, over a row of others, may be taken first. -/
theorem wpAnyK_first {i : Nat} {oi : Oper} {v : Value} {path : List Nat} (hi : ops[i]? = some oi) (hsel : ∀ (j : Nat) (o : Oper) cs b, ops[j]? = some o → o.op ≠ .select cs b)
    (hQ : ∀ c a w, Q (.panic c) (a.put oi.dst v) w → Q (.panic c) a w) (hik : i ∉ path) (hkp : k ∈ path) (hrow : Region.row md ops (i :: path) = true) :
    ∀ (fuel : Nat) (listed : Array Bool) (a : Act) (w : World),
      (∀ j oj, ops[j]? = some oj → j ≠ i → listed.getD j true = false → (∀ e ∈ oj.after, Region.binds md e = true → e.on ≠ i) → oi.apart ops oj = true) →
      i ∈ Region.ready md ops listed → (∀ b ∈ i :: path, listed.getD b true = false) → YieldsIf P ops S oi v a → S w →
      wpAnyK P md ops Q S k fuel (listed.setIfInBounds i true) (a.put oi.dst v) w → wpAnyK P md ops Q S k (fuel + 1) listed a w := by
  intro fuel
  have hike : i ≠ k := fun e => hik (e ▸ hkp)
  induction fuel with
  | zero =>
    intro listed a w _ hr hk hy hS H
    refine ⟨fun h => (by rw [h] at hr; cases hr), fun j hj => ?_⟩
    by_cases hji : j = i
    · subst hji; exact hy.wpOp hi hS ⟨fun _ => hS, H⟩
    · have := ready_mono hj hji
      rw [H.1] at this
      cases this
  | succ fuel ih =>
    intro listed a w hfree hr hk hy hS H
    refine ⟨fun h => (by rw [h] at hr; cases hr), fun j hj => ?_⟩
    by_cases hji : j = i
    · subst hji; exact hy.wpOp hi hS ⟨fun _ => hS, H⟩
    · have h1 := H.2 j (ready_mono hj hji)
      have hjp : j ∉ path := fun e => row_spec path i hrow listed hk j e hj
      have hjk : j ≠ k := fun e => hjp (e ▸ hkp)
      obtain ⟨hjun, oj, hoj, hall⟩ := mem_ready.1 hj
      have hnot : ∀ e ∈ oj.after, Region.binds md e = true → e.on ≠ i := fun e he hb heq => by
        have h1 := hall e he hb
        have h0 := (mem_ready.1 hr).1
        rw [heq] at h1
        rcases Nat.lt_or_ge i listed.size with h' | h'
        · simp [h'] at h0 h1; rw [h0] at h1; cases h1
        · simp [Array.getElem?_eq_none h'] at h1
      have h2 := wpOp_putIf hoj (hfree j oj hoj hji hjun hnot) (fun cs b => hsel i oi cs b hi) (fun cs b => hsel j oj cs b hoj) hQ hy h1
      have hfree' : ∀ k ok, ops[k]? = some ok → k ≠ i → (listed.setIfInBounds j true).getD k true = false →
          (∀ e ∈ ok.after, Region.binds md e = true → e.on ≠ i) → oi.apart ops ok = true := fun k ok hk hki hun hno => by
        refine hfree k ok hk hki ?_ hno
        by_cases hjk : j = k
        · subst hjk; exact hjun
        · rw [getD_set_ne true hjk] at hun; exact hun
      have hk0 : listed.getD k true = false := hk k (List.mem_cons_of_mem _ hkp)
      have hkij : ((listed.setIfInBounds i true).setIfInBounds j true).getD k true = false := by rw [getD_set_ne true hjk, getD_set_ne true hike]; exact hk0
      have hk' : ∀ b ∈ i :: path, (listed.setIfInBounds j true).getD b true = false := fun b hb => by
        rw [getD_set_ne true (fun e => by
          rcases List.mem_cons.1 hb with h | h
          · exact hji (e.trans h)
          · exact hjp (e ▸ h))]
        exact hk b hb
      refine wpOp_mono (fun a' w' h3 => ⟨fun _ => h3.2.1 hkij, ih (listed.setIfInBounds j true) a' w' hfree' (ready_mono hr (Ne.symm hji)) hk' h3.1 (h3.2.1 hkij) ?_⟩) h2
      rw [Array.setIfInBounds_comm _ _ hji]
      exact h3.2.2

/-- Take number i first; path: a row of operations from behind i to k, each waiting for the one ahead of it. -/
theorem wpAnyK_take {i : Nat} (path : List Nat) {t : Option Tmp} {op : Op} {ty : TypeId} {pos : String} {aft : Array Edge} {gd : Option (Nat × Bool)} {v : Value} {fuel : Nat} {listed : Array Bool} {a : Act} {w : World} (hi : ops[i]? = some ⟨t, op, ty, pos, aft, gd⟩)
    (hs : Region.noSelect ops = true) (hf : Region.free md ops listed i = true) (hr : (Region.ready md ops listed).contains i = true)
    (hk : (!path.contains i && path.contains k && Region.row md ops (i :: path) && (i :: path).all (fun b => listed.getD b true == false)) = true)
    (hQ : ∀ c a w, Q (.panic c) (a.put t v) w → Q (.panic c) a w) (hy : YieldsIf P ops S ⟨t, op, ty, pos, aft, gd⟩ v a) (hS : S w)
    (h : wpAnyK P md ops Q S k fuel (listed.setIfInBounds i true) (a.put t v) w) : wpAnyK P md ops Q S k (fuel + 1) listed a w := by
  simp only [Bool.and_eq_true, Bool.not_eq_true', List.all_eq_true, beq_iff_eq] at hk
  exact wpAnyK_first hi (Region.noSelect_spec hs) hQ (by simpa using hk.1.1.1) (by simpa using hk.1.1.2) hk.1.2 fuel listed a w (Region.free_spec hi hf) (by simpa using hr) hk.2 hy hS h

/-- Whichever of those that may come up comes up. -/
theorem wpAnyK_all {rs : List Nat} {fuel : Nat} {listed : Array Bool} {a : Act} {w : World} (hr : Region.ready md ops listed = rs) (hne : rs ≠ [])
    (h : ∀ i ∈ rs, wpOp P ops Q i (fun a' w' => ((listed.setIfInBounds i true).getD k true = false → S w') ∧ wpAnyK P md ops Q S k fuel (listed.setIfInBounds i true) a' w') a w) : wpAnyK P md ops Q S k (fuel + 1) listed a w :=
  ⟨fun h0 => absurd (hr ▸ h0) hne, hr ▸ h⟩

/-- One alone may come up, and it is not k. -/
theorem wpAnyK_one {i : Nat} {t : Option Tmp} {op : Op} {ty : TypeId} {pos : String} {aft : Array Edge} {gd : Option (Nat × Bool)} {fuel : Nat} {listed : Array Bool} {a : Act} {w : World} (hr : Region.ready md ops listed = [i]) (hi : ops[i]? = some ⟨t, op, ty, pos, aft, gd⟩)
    (h : ∀ K' : Act → World → Prop, Shut (∀ a w, S w → (S w → wpAnyK P md ops Q S k fuel (listed.setIfInBounds i true) a w) → K' a w) →
      if Region.wanted ⟨t, op, ty, pos, aft, gd⟩ (yielded ops a.tmps) = true then Oper.wp P ⟨t, op, ty, pos, aft, gd⟩ a w K' Q else K' (a.put t undef) w)
    (hk : (listed.setIfInBounds i true).getD k true = false) : wpAnyK P md ops Q S k (fuel + 1) listed a w :=
  wpAnyK_all hr (by simp) (fun j hj => by
    obtain rfl := List.mem_singleton.1 hj
    exact wpOp_step hi (fun K' hK => h K' (fun a w hS hW => hK a w ⟨fun _ => hS, hW hS⟩)))

/-- k comes up. -/
theorem wpAnyK_last {t : Option Tmp} {op : Op} {ty : TypeId} {pos : String} {aft : Array Edge} {gd : Option (Nat × Bool)} {fuel : Nat} {listed : Array Bool} {a : Act} {w : World} (hr : Region.ready md ops listed = [k]) (hi : ops[k]? = some ⟨t, op, ty, pos, aft, gd⟩)
    (h : ∀ K' : Act → World → Prop, Shut (∀ a w, wpAnyK P md ops Q S k fuel (listed.setIfInBounds k true) a w → K' a w) →
      if Region.wanted ⟨t, op, ty, pos, aft, gd⟩ (yielded ops a.tmps) = true then Oper.wp P ⟨t, op, ty, pos, aft, gd⟩ a w K' Q else K' (a.put t undef) w)
    (hk : (listed.setIfInBounds k true).getD k true = true) : wpAnyK P md ops Q S k (fuel + 1) listed a w :=
  wpAnyK_all hr (by simp) (fun j hj => by
    obtain rfl := List.mem_singleton.1 hj
    exact wpOp_step hi (fun K' hK => h K' (fun a w hW => hK a w ⟨fun e => absurd (hk.symm.trans e) (by decide), hW⟩)))

/-- All have come up. -/
theorem wpAnyK_done {listed : Array Bool} {a : Act} {w : World} (hr : Region.ready md ops listed = []) (h : Q .normal a w) :
    ∀ fuel, wpAnyK P md ops Q S k fuel listed a w
  | 0 => ⟨hr, h⟩
  | _ + 1 => ⟨fun _ => h, by rw [hr]; simp⟩

/-- The beginning. -/
theorem wp_region_K {id : Nat} {a : Act} {w : World} (S : World → Prop) (k n : Nat) (hm : P.follows .mixedOrders = true) (hn : ops.size = n) (hS : S w.drew)
    (h : S w.drew → wpAnyK P .any ops Q S k n (Array.replicate n false) a w.drew) : (Code.region id ops true).wp P Q a w := by
  subst hn
  exact wp_region_any hm (wpAny_of_K _ _ _ _ (h hS))
end
section
variable {P : Program} {ops : Array Oper} {Q : Exit → Act → World → Prop} {md : Region.Mode} {S : World → Prop} {k : Nat}
theorem tkK {i : Nat} (path : List Nat) {t : Option Tmp} {op : Op} {ty : TypeId} {pos : String} {aft : Array Edge} {gd : Option (Nat × Bool)} {v : Value} {fuel : Nat} {listed : Array Bool} {a : Act} {w : World} (hi : ops[i]? = some ⟨t, op, ty, pos, aft, gd⟩) (hS : S w)
    (h : wpAnyK P md ops Q S k fuel (listed.setIfInBounds i true) (a.put t v) w)
    (hy : ∀ w, S w → Sem.run P (execOp a.eval ⟨t, op, ty, pos, aft, gd⟩) w = .ok (.value v) w := by (intro w hSw; (try dsimp only at hSw); go_simp; with_reducible rfl))
    (hw : Region.wanted ⟨t, op, ty, pos, aft, gd⟩ (yielded ops a.tmps) = true := by rfl)
    (hs : Region.noSelect ops = true := by kernel_rfl) (hf : Region.free md ops listed i = true := by kernel_rfl) (hr : (Region.ready md ops listed).contains i = true := by kernel_rfl)
    (hk : (!path.contains i && path.contains k && Region.row md ops (i :: path) && (i :: path).all (fun b => listed.getD b true == false)) = true := by kernel_rfl)
    (hQ : ∀ c a w, Q (.panic c) (a.put t v) w → Q (.panic c) a w := by exact fun _ _ _ h => h) : wpAnyK P md ops Q S k (fuel + 1) listed a w :=
  wpAnyK_take path hi hs hf hr hk hQ (.inl ⟨hw, hy⟩) hS h
end
theorem tkA {α : Type} (l : List α) (i : Nat) (a : α) : l.toArray.setIfInBounds i a = (l.set i a).toArray := List.setIfInBounds_toArray _ _ _
theorem tkB {α : Type} (x : α) (l : List α) (a : α) : (x :: l).set 0 a = a :: l := rfl
theorem tkC {α : Type} (x : α) (l : List α) (n : Nat) (a : α) : (x :: l).set (n + 1) a = x :: l.set n a := rfl
end Go.Proofs.YtjebpppjhkkebaaGreatDoor
/-
  Manifest: the order of files and of notes.
-/
set_option linter.unusedSimpArgs false
set_option linter.unusedVariables false
namespace Go.Proofs.YtjebpppjhkkebaaGreatDoor
open Go.RowKit

/-- A world that is another one, but for draws and new blocks. -/
def GrW (w w' : World) : Prop := ∃ (q : Nat) (os : Array Obj), w' = Sort.grow (w.drewN q) os
theorem GrW.refl (w : World) : GrW w w := ⟨0, #[], by rw [Sort.grow_empty]; rfl⟩
theorem GrW.trans {a b c : World} (h : GrW a b) (k : GrW b c) : GrW a c := by
  obtain ⟨q, os, rfl⟩ := h
  obtain ⟨r, ps, rfl⟩ := k
  exact ⟨q + r, os ++ ps, by simp [Sort.grow, World.drewN, Nat.add_assoc]⟩
theorem GrW.alloc {a b : World} (h : GrW a b) (o : Obj) : GrW a (b.alloc o) := h.trans ⟨0, #[o], by rw [Sort.alloc_eq_grow]; rfl⟩
theorem GrW.drew {a b : World} (h : GrW a b) : GrW a b.drew := h.trans ⟨1, #[], by rw [Sort.grow_empty]; rfl⟩
theorem isnan_any (x : Int) (w : World) : Calls Tryz.prog 136 #[.int .i64 x] w fun e w' => e = .returned (.bool false) ∧ w' = w := by
  go_enter Tryz.func136, Tryz.ntmps136
  go_wp2
  go_ret
  exact ⟨by simp, rfl⟩
theorem cmpI_any (x y : Int) (w : World) : Calls Tryz.prog 88 #[.int .i64 x, .int .i64 y] w fun e w' => e = .returned (.int .i64 (cI x y)) ∧ w' = w := by
  unfold cI
  by_cases h1 : x < y
  · rw [if_pos h1]
    go_enter Tryz.func88, Tryz.ntmps88
    go_wp2_with (go_at_call 136; refine (isnan_any _ _).mono ?_; rintro e w' ⟨rfl, rfl⟩)
    go_ret
    exact ⟨rfl, rfl⟩
  · rw [if_neg h1]
    by_cases h2 : y < x
    · rw [if_pos h2]
      go_enter Tryz.func88, Tryz.ntmps88
      go_wp2_with (go_at_call 136; refine (isnan_any _ _).mono ?_; rintro e w' ⟨rfl, rfl⟩)
      go_ret
      exact ⟨rfl, rfl⟩
    · rw [if_neg h2]
      go_enter Tryz.func88, Tryz.ntmps88
      go_wp2_with (go_at_call 136; refine (isnan_any _ _).mono ?_; rintro e w' ⟨rfl, rfl⟩)
      go_ret
      exact ⟨rfl, rfl⟩
theorem or_any {x y : Int} {b c : Nat} {w : World} (c0 : w.cell? ⟨b, 0, none⟩ = some (.int .i64 x)) (c1 : w.cell? ⟨b, 1, none⟩ = some (.int .i64 y)) : Calls Tryz.prog 86 #[.slice (some ⟨b, 0, none⟩) 2 c] w fun e w' => e = .returned (.int .i64 (orI x y)) ∧ w' = w := by
  unfold orI
  by_cases h0 : x = 0
  · subst h0
    rw [if_neg (by simp)]
    go_enter Tryz.func86, Tryz.ntmps86
    go_wp2_with fail
    go_loopw [8] (fun y8 wr => wr = w ∧ (y8 = .int .i64 0 ∨ y8 = .int .i64 1 ∨ (y8 = .int .i64 2 ∧ y = 0))) (fun y8 _ => 3 - (intOf y8).toNat)
    case atStart => exact ⟨by first | rfl | trivial, .inl rfl⟩
    case round =>
      obtain ⟨rfl, rfl | rfl | ⟨rfl, rfl⟩⟩ := hrel
      · go_wp2_with fail
        go_roundw
        case rel => exact ⟨by first | rfl | trivial, .inr (.inl rfl)⟩
        case measure => simp [intOf]
      · by_cases hy : y = 0
        · subst hy
          go_wp2_with fail
          go_roundw
          case rel => exact ⟨by first | rfl | trivial, .inr (.inr ⟨rfl, by first | rfl | trivial⟩)⟩
          case measure => simp [intOf]
        · have t1 : (y != 0) = true := by simpa using hy
          go_wp2_with fail
          go_ret
          exact ⟨rfl, rfl⟩
      · go_wp2_with fail
        go_ret
        exact ⟨rfl, rfl⟩
  · have t1 : (x != 0) = true := by simpa using h0
    rw [if_pos h0]
    go_enter Tryz.func86, Tryz.ntmps86
    go_wp2_with fail
    go_loopw [8] (fun y8 wr => wr = w ∧ y8 = .int .i64 0) (fun y8 _ => 3 - (intOf y8).toNat)
    case atStart => first | exact ⟨trivial, trivial⟩ | exact ⟨rfl, rfl⟩ | simp
    case round =>
      obtain ⟨rfl, rfl⟩ := hrel
      go_wp2_with fail
      go_ret
      exact ⟨rfl, rfl⟩
theorem notes1_any (p q : KV) (w : World) : Calls Tryz.prog 91 #[.agg (cNt p).toArray, .agg (cNt q).toArray] w fun e w' => e = .returned (.int .i64 (kc p.1 q.1)) ∧ GrW w w' := by
  show Calls Tryz.prog 91 #[.agg #[.string p.1, .string p.2], .agg #[.string q.1, .string q.2]] w _
  go_enter Tryz.func91, Tryz.ntmps91
  go_wp2_with (go_at_call 45; refine (kcompare_any _ _ _).mono ?_; rintro e w' ⟨rfl, rfl⟩)
  go_ret
  exact ⟨rfl, ((GrW.refl _).alloc _).alloc _⟩
end Go.Proofs.YtjebpppjhkkebaaGreatDoor
/-
  Manifest: the order of files.
-/
set_option linter.unusedSimpArgs false
set_option linter.unusedVariables false
namespace Go.Proofs.YtjebpppjhkkebaaGreatDoor
open Go.RowKit

theorem tn_drewN' {F : Nat → Prop} (w : World) (d : Nat) : Tn F w (w.drewN d) := ⟨rfl, rfl, rfl, Nat.le_refl _, fun _ _ _ => rfl⟩
theorem grow_below (w : World) (os : Array Obj) : Below w.heap.size w (Sort.grow w os) :=
  ⟨rfl, rfl, rfl, by simp [Sort.grow], fun i hi => by
    show (w.heap ++ os)[i]? = w.heap[i]?
    exact Array.getElem?_append_left hi⟩
set_option maxRecDepth 100000 in
set_option maxHeartbeats 1000000 in
theorem order_any (a b : Fi) (w : World) : Calls Tryz.prog 87 #[.agg #[.int .i64 a.lv, .int .i64 a.nu, .int .i64 a.ct, .int .i64 a.sz, .string a.f, .string a.l], .agg #[.int .i64 b.lv, .int .i64 b.nu, .int .i64 b.ct, .int .i64 b.sz, .string b.f, .string b.l]] w fun e w' => e = .returned (.int .i64 (ordF a b)) ∧ GrW w w' := by
  by_cases h0 : a.lv = 0
  · have t0 : (a.lv == 0) = true := beq_iff_eq.2 h0
    by_cases h1 : b.lv = 0
    · have t1 : (b.lv == 0) = true := beq_iff_eq.2 h1
      have he : ordF a b = cI a.nu b.nu := by unfold ordF; rw [if_pos ⟨h0, h1⟩]
      rw [he]
      clear he h0 h1
      go_enter Tryz.func87, Tryz.ntmps87
      go_wp2_with (go_at_call 88; refine (cmpI_any _ _ _).mono ?_; rintro e w' ⟨rfl, rfl⟩)
      go_ret
      exact ⟨rfl, ((GrW.refl _).alloc _).alloc _⟩
    · have t1 : (b.lv == 0) = false := beq_eq_false_iff_ne.2 h1
      have he : ordF a b = orI (cI a.lv b.lv) (kc a.f b.f) := by unfold ordF; rw [if_neg (fun h => h1 h.2)]
      rw [he]
      clear he h0 h1
      go_enter Tryz.func87, Tryz.ntmps87
      go_wp2_with fail
      obtain ⟨w2, hw2⟩ : ∃ w2, w2 = (w.alloc (.cells #[.int .i64 a.lv, .int .i64 a.nu, .int .i64 a.ct, .int .i64 a.sz, .string a.f, .string a.l] 54)).alloc (.cells #[.int .i64 b.lv, .int .i64 b.nu, .int .i64 b.ct, .int .i64 b.sz, .string b.f, .string b.l] 54) := ⟨_, rfl⟩
      have g0 : w2.drew.cell? ⟨w.heap.size, 0, none⟩ = some (.int .i64 a.lv) := by rw [hw2]; simp [go_sem]
      have g1 : w2.drew.cell? ⟨w.heap.size + 1, 0, none⟩ = some (.int .i64 b.lv) := by rw [hw2]; simp [go_sem]
      have g2 : w2.drew.cell? ⟨w.heap.size, 4, none⟩ = some (.string a.f) := by rw [hw2]; simp [go_sem]
      have g3 : w2.drew.cell? ⟨w.heap.size + 1, 4, none⟩ = some (.string b.f) := by rw [hw2]; simp [go_sem]
      have hgr : GrW w w2 := by rw [hw2]; exact ((GrW.refl _).alloc _).alloc _
      have HGR := Lib.hid hgr
      rw [← hw2]
      clear hw2 hgr
      refine wp_region_K (fun w' => w'.cell? ⟨w.heap.size, 0, none⟩ = some (.int .i64 a.lv) ∧ w'.cell? ⟨w.heap.size + 1, 0, none⟩ = some (.int .i64 b.lv) ∧ w'.cell? ⟨w.heap.size, 4, none⟩ = some (.string a.f) ∧ w'.cell? ⟨w.heap.size + 1, 4, none⟩ = some (.string b.f)) 12 13 (by kernel_rfl) (by kernel_rfl) ⟨g0, g1, g2, g3⟩ (fun hH => ?_)
      refine tkK (i := 0) [12] rfl hH ?_
      try simp only [Act.put, tkA, tkB, tkC]
      refine tkK (i := 1) [12] rfl hH ?_
      try simp only [Act.put, tkA, tkB, tkC]
      refine tkK (i := 2) [12] rfl hH ?_
      try simp only [Act.put, tkA, tkB, tkC]
      refine tkK (i := 3) [12] rfl hH ?_
      try simp only [Act.put, tkA, tkB, tkC]
      refine tkK (i := 5) [12] rfl hH ?_
      try simp only [Act.put, tkA, tkB, tkC]
      refine tkK (i := 6) [12] rfl hH ?_
      try simp only [Act.put, tkA, tkB, tkC]
      refine tkK (i := 7) [12] rfl hH ?_
      try simp only [Act.put, tkA, tkB, tkC]
      refine tkK (i := 8) [12] rfl hH ?_
      try simp only [Act.put, tkA, tkB, tkC]
      refine wpAnyK_one (i := 4) (by kernel_rfl) rfl (fun K hK => ?_) (by kernel_rfl)
      go_simp
      go_at_call 88
      refine (cmpI_any _ _ _).mono ?_
      rintro e v ⟨rfl, rfl⟩
      refine hK.out _ _ ⟨g0, g1, g2, g3⟩ (fun hH => ?_)
      clear hK K
      try simp only [Act.put, tkA, tkB, tkC]
      refine wpAnyK_one (i := 9) (by kernel_rfl) rfl (fun K hK => ?_) (by kernel_rfl)
      go_simp
      go_at_call 45
      refine (kcompare_any _ _ _).mono ?_
      rintro e v ⟨rfl, rfl⟩
      refine hK.out _ _ ⟨g0, g1, g2, g3⟩ (fun hH => ?_)
      clear hK K
      try simp only [Act.put, tkA, tkB, tkC]
      refine wpAnyK_one (i := 10) (by kernel_rfl) rfl (fun K hK => ?_) (by kernel_rfl)
      go_simp
      obtain ⟨w3, hw3⟩ : ∃ w3, w3 = (w2.alloc (.cells #[.int .i64 (cI a.lv b.lv), .int .i64 (kc a.f b.f)] 3)).drew := ⟨_, rfl⟩
      have s0 : w3.cell? ⟨w2.heap.size, 0, none⟩ = some (.int .i64 (cI a.lv b.lv)) := by rw [hw3]; simp [go_sem]
      have s1 : w3.cell? ⟨w2.heap.size, 1, none⟩ = some (.int .i64 (kc a.f b.f)) := by rw [hw3]; simp [go_sem]
      have hb3 : Below w2.drew.heap.size w2.drew w3 := by rw [hw3]; exact (((Below.refl w2.drew.heap.size w2.drew).alloc (Nat.le_refl _) _) : Below w2.drew.heap.size w2.drew (w2.drew.alloc _))
      have hg3 : GrW w w3 := by rw [hw3]; exact (HGR.out.alloc _).drew
      have HG3 := Lib.hid hg3
      have q0 := (hb3.cell (p := ⟨w.heap.size, 0, none⟩) (World.block_lt_of_cell? _ _ g0)).trans g0
      have q1 := (hb3.cell (p := ⟨w.heap.size + 1, 0, none⟩) (World.block_lt_of_cell? _ _ g1)).trans g1
      have q2 := (hb3.cell (p := ⟨w.heap.size, 4, none⟩) (World.block_lt_of_cell? _ _ g2)).trans g2
      have q3 := (hb3.cell (p := ⟨w.heap.size + 1, 4, none⟩) (World.block_lt_of_cell? _ _ g3)).trans g3
      rw [← hw3]
      clear hw3 hb3 hg3 g0 g1 g2 g3
      refine hK.out _ _ ⟨q0, q1, q2, q3⟩ (fun hH => ?_)
      clear hK K
      try simp only [Act.put, tkA, tkB, tkC]
      refine wpAnyK_one (i := 11) (by kernel_rfl) rfl (fun K hK => ?_) (by kernel_rfl)
      go_simp
      go_at_call 86
      refine (or_any s0 s1).mono ?_
      rintro e v ⟨rfl, rfl⟩
      refine hK.out _ _ ⟨q0, q1, q2, q3⟩ (fun hH => ?_)
      clear hK K
      try simp only [Act.put, tkA, tkB, tkC]
      refine wpAnyK_last (by kernel_rfl) rfl (fun K hK => ?_) (by kernel_rfl)
      go_simp
      refine hK.out _ _ (wpAnyK_done (by kernel_rfl) ?_ _)
      clear hK K hH
      go_wp2_with fail
      go_ret
      exact ⟨rfl, HG3.out⟩
  · have t0 : (a.lv == 0) = false := beq_eq_false_iff_ne.2 h0
    have he : ordF a b = orI (cI a.lv b.lv) (kc a.f b.f) := by unfold ordF; rw [if_neg (fun h => h0 h.1)]
    rw [he]
    clear he h0
    go_enter Tryz.func87, Tryz.ntmps87
    go_wp2_with fail
    obtain ⟨w2, hw2⟩ : ∃ w2, w2 = (w.alloc (.cells #[.int .i64 a.lv, .int .i64 a.nu, .int .i64 a.ct, .int .i64 a.sz, .string a.f, .string a.l] 54)).alloc (.cells #[.int .i64 b.lv, .int .i64 b.nu, .int .i64 b.ct, .int .i64 b.sz, .string b.f, .string b.l] 54) := ⟨_, rfl⟩
    have g0 : w2.drew.cell? ⟨w.heap.size, 0, none⟩ = some (.int .i64 a.lv) := by rw [hw2]; simp [go_sem]
    have g1 : w2.drew.cell? ⟨w.heap.size + 1, 0, none⟩ = some (.int .i64 b.lv) := by rw [hw2]; simp [go_sem]
    have g2 : w2.drew.cell? ⟨w.heap.size, 4, none⟩ = some (.string a.f) := by rw [hw2]; simp [go_sem]
    have g3 : w2.drew.cell? ⟨w.heap.size + 1, 4, none⟩ = some (.string b.f) := by rw [hw2]; simp [go_sem]
    have hgr : GrW w w2 := by rw [hw2]; exact ((GrW.refl _).alloc _).alloc _
    have HGR := Lib.hid hgr
    rw [← hw2]
    clear hw2 hgr
    refine wp_region_K (fun w' => w'.cell? ⟨w.heap.size, 0, none⟩ = some (.int .i64 a.lv) ∧ w'.cell? ⟨w.heap.size + 1, 0, none⟩ = some (.int .i64 b.lv) ∧ w'.cell? ⟨w.heap.size, 4, none⟩ = some (.string a.f) ∧ w'.cell? ⟨w.heap.size + 1, 4, none⟩ = some (.string b.f)) 12 13 (by kernel_rfl) (by kernel_rfl) ⟨g0, g1, g2, g3⟩ (fun hH => ?_)
    refine tkK (i := 0) [12] rfl hH ?_
    try simp only [Act.put, tkA, tkB, tkC]
    refine tkK (i := 1) [12] rfl hH ?_
    try simp only [Act.put, tkA, tkB, tkC]
    refine tkK (i := 2) [12] rfl hH ?_
    try simp only [Act.put, tkA, tkB, tkC]
    refine tkK (i := 3) [12] rfl hH ?_
    try simp only [Act.put, tkA, tkB, tkC]
    refine tkK (i := 5) [12] rfl hH ?_
    try simp only [Act.put, tkA, tkB, tkC]
    refine tkK (i := 6) [12] rfl hH ?_
    try simp only [Act.put, tkA, tkB, tkC]
    refine tkK (i := 7) [12] rfl hH ?_
    try simp only [Act.put, tkA, tkB, tkC]
    refine tkK (i := 8) [12] rfl hH ?_
    try simp only [Act.put, tkA, tkB, tkC]
    refine wpAnyK_one (i := 4) (by kernel_rfl) rfl (fun K hK => ?_) (by kernel_rfl)
    go_simp
    go_at_call 88
    refine (cmpI_any _ _ _).mono ?_
    rintro e v ⟨rfl, rfl⟩
    refine hK.out _ _ ⟨g0, g1, g2, g3⟩ (fun hH => ?_)
    clear hK K
    try simp only [Act.put, tkA, tkB, tkC]
    refine wpAnyK_one (i := 9) (by kernel_rfl) rfl (fun K hK => ?_) (by kernel_rfl)
    go_simp
    go_at_call 45
    refine (kcompare_any _ _ _).mono ?_
    rintro e v ⟨rfl, rfl⟩
    refine hK.out _ _ ⟨g0, g1, g2, g3⟩ (fun hH => ?_)
    clear hK K
    try simp only [Act.put, tkA, tkB, tkC]
    refine wpAnyK_one (i := 10) (by kernel_rfl) rfl (fun K hK => ?_) (by kernel_rfl)
    go_simp
    obtain ⟨w3, hw3⟩ : ∃ w3, w3 = (w2.alloc (.cells #[.int .i64 (cI a.lv b.lv), .int .i64 (kc a.f b.f)] 3)).drew := ⟨_, rfl⟩
    have s0 : w3.cell? ⟨w2.heap.size, 0, none⟩ = some (.int .i64 (cI a.lv b.lv)) := by rw [hw3]; simp [go_sem]
    have s1 : w3.cell? ⟨w2.heap.size, 1, none⟩ = some (.int .i64 (kc a.f b.f)) := by rw [hw3]; simp [go_sem]
    have hb3 : Below w2.drew.heap.size w2.drew w3 := by rw [hw3]; exact (((Below.refl w2.drew.heap.size w2.drew).alloc (Nat.le_refl _) _) : Below w2.drew.heap.size w2.drew (w2.drew.alloc _))
    have hg3 : GrW w w3 := by rw [hw3]; exact (HGR.out.alloc _).drew
    have HG3 := Lib.hid hg3
    have q0 := (hb3.cell (p := ⟨w.heap.size, 0, none⟩) (World.block_lt_of_cell? _ _ g0)).trans g0
    have q1 := (hb3.cell (p := ⟨w.heap.size + 1, 0, none⟩) (World.block_lt_of_cell? _ _ g1)).trans g1
    have q2 := (hb3.cell (p := ⟨w.heap.size, 4, none⟩) (World.block_lt_of_cell? _ _ g2)).trans g2
    have q3 := (hb3.cell (p := ⟨w.heap.size + 1, 4, none⟩) (World.block_lt_of_cell? _ _ g3)).trans g3
    rw [← hw3]
    clear hw3 hb3 hg3 g0 g1 g2 g3
    refine hK.out _ _ ⟨q0, q1, q2, q3⟩ (fun hH => ?_)
    clear hK K
    try simp only [Act.put, tkA, tkB, tkC]
    refine wpAnyK_one (i := 11) (by kernel_rfl) rfl (fun K hK => ?_) (by kernel_rfl)
    go_simp
    go_at_call 86
    refine (or_any s0 s1).mono ?_
    rintro e v ⟨rfl, rfl⟩
    refine hK.out _ _ ⟨q0, q1, q2, q3⟩ (fun hH => ?_)
    clear hK K
    try simp only [Act.put, tkA, tkB, tkC]
    refine wpAnyK_last (by kernel_rfl) rfl (fun K hK => ?_) (by kernel_rfl)
    go_simp
    refine hK.out _ _ (wpAnyK_done (by kernel_rfl) ?_ _)
    clear hK K hH
    go_wp2_with fail
    go_ret
    exact ⟨rfl, HG3.out⟩
theorem GrW.below {w w' : World} (h : GrW w w') : Below w.heap.size w w' := by
  obtain ⟨q, os, rfl⟩ := h
  exact ((tn_drewN' (F := fun _ => False) w q).below (Nat.le_refl _) (fun _ e => e.elim)).trans (grow_below (w.drewN q) os)
set_option maxRecDepth 100000 in
set_option maxHeartbeats 2000000 in
theorem tables1_any (a b : Fi) (w : World) : Calls Tryz.prog 85 #[.agg (Fi.cells a).toArray, .agg (Fi.cells b).toArray] w fun e w' => e = .returned (.int .i64 (cfF a b)) ∧ GrW w w' := by
  show Calls Tryz.prog 85 #[.agg #[.int .i64 a.lv, .int .i64 a.nu, .int .i64 a.ct, .int .i64 a.sz, .string a.f, .string a.l], .agg #[.int .i64 b.lv, .int .i64 b.nu, .int .i64 b.ct, .int .i64 b.sz, .string b.f, .string b.l]] w _
  unfold cfF
  go_enter Tryz.func85, Tryz.ntmps85
  go_wp2_with fail
  obtain ⟨w2, hw2⟩ : ∃ w2, w2 = (w.alloc (.cells #[.int .i64 a.lv, .int .i64 a.nu, .int .i64 a.ct, .int .i64 a.sz, .string a.f, .string a.l] 54)).alloc (.cells #[.int .i64 b.lv, .int .i64 b.nu, .int .i64 b.ct, .int .i64 b.sz, .string b.f, .string b.l] 54) := ⟨_, rfl⟩
  have g00 : w2.drew.cell? ⟨w.heap.size, 0, none⟩ = some (.int .i64 a.lv) := by rw [hw2]; simp [go_sem]
  have g01 : w2.drew.cell? ⟨w.heap.size, 1, none⟩ = some (.int .i64 a.nu) := by rw [hw2]; simp [go_sem]
  have g02 : w2.drew.cell? ⟨w.heap.size, 2, none⟩ = some (.int .i64 a.ct) := by rw [hw2]; simp [go_sem]
  have g03 : w2.drew.cell? ⟨w.heap.size, 3, none⟩ = some (.int .i64 a.sz) := by rw [hw2]; simp [go_sem]
  have g04 : w2.drew.cell? ⟨w.heap.size, 4, none⟩ = some (.string a.f) := by rw [hw2]; simp [go_sem]
  have g05 : w2.drew.cell? ⟨w.heap.size, 5, none⟩ = some (.string a.l) := by rw [hw2]; simp [go_sem]
  have g10 : w2.drew.cell? ⟨w.heap.size + 1, 0, none⟩ = some (.int .i64 b.lv) := by rw [hw2]; simp [go_sem]
  have g11 : w2.drew.cell? ⟨w.heap.size + 1, 1, none⟩ = some (.int .i64 b.nu) := by rw [hw2]; simp [go_sem]
  have g12 : w2.drew.cell? ⟨w.heap.size + 1, 2, none⟩ = some (.int .i64 b.ct) := by rw [hw2]; simp [go_sem]
  have g13 : w2.drew.cell? ⟨w.heap.size + 1, 3, none⟩ = some (.int .i64 b.sz) := by rw [hw2]; simp [go_sem]
  have g14 : w2.drew.cell? ⟨w.heap.size + 1, 4, none⟩ = some (.string b.f) := by rw [hw2]; simp [go_sem]
  have g15 : w2.drew.cell? ⟨w.heap.size + 1, 5, none⟩ = some (.string b.l) := by rw [hw2]; simp [go_sem]
  have hgr : GrW w w2 := by rw [hw2]; exact ((GrW.refl _).alloc _).alloc _
  have HGR := Lib.hid hgr
  rw [← hw2]
  clear hw2 hgr
  refine wp_region_K (fun w' => w'.cell? ⟨w.heap.size, 0, none⟩ = some (.int .i64 a.lv) ∧ w'.cell? ⟨w.heap.size, 1, none⟩ = some (.int .i64 a.nu) ∧ w'.cell? ⟨w.heap.size, 2, none⟩ = some (.int .i64 a.ct) ∧ w'.cell? ⟨w.heap.size, 3, none⟩ = some (.int .i64 a.sz) ∧ w'.cell? ⟨w.heap.size, 4, none⟩ = some (.string a.f) ∧ w'.cell? ⟨w.heap.size, 5, none⟩ = some (.string a.l) ∧ w'.cell? ⟨w.heap.size + 1, 0, none⟩ = some (.int .i64 b.lv) ∧ w'.cell? ⟨w.heap.size + 1, 1, none⟩ = some (.int .i64 b.nu) ∧ w'.cell? ⟨w.heap.size + 1, 2, none⟩ = some (.int .i64 b.ct) ∧ w'.cell? ⟨w.heap.size + 1, 3, none⟩ = some (.int .i64 b.sz) ∧ w'.cell? ⟨w.heap.size + 1, 4, none⟩ = some (.string b.f) ∧ w'.cell? ⟨w.heap.size + 1, 5, none⟩ = some (.string b.l)) 10 11 (by kernel_rfl) (by kernel_rfl) ⟨g00, g01, g02, g03, g04, g05, g10, g11, g12, g13, g14, g15⟩ (fun hH => ?_)
  refine tkK (i := 0) [10] rfl hH ?_
  try simp only [Act.put, tkA, tkB, tkC]
  refine tkK (i := 1) [10] rfl hH ?_
  try simp only [Act.put, tkA, tkB, tkC]
  refine tkK (i := 3) [10] rfl hH ?_
  try simp only [Act.put, tkA, tkB, tkC]
  refine tkK (i := 4) [10] rfl hH ?_
  try simp only [Act.put, tkA, tkB, tkC]
  refine tkK (i := 5) [10] rfl hH ?_
  try simp only [Act.put, tkA, tkB, tkC]
  refine tkK (i := 6) [10] rfl hH ?_
  try simp only [Act.put, tkA, tkB, tkC]
  refine wpAnyK_one (i := 2) (by kernel_rfl) rfl (fun K hK => ?_) (by kernel_rfl)
  go_simp
  go_at_call 87
  refine (order_any a b _).mono ?_
  rintro e v ⟨rfl, hv⟩
  have hbv := hv.below
  have q00 := (hbv.cell (p := ⟨w.heap.size, 0, none⟩) (World.block_lt_of_cell? _ _ g00)).trans g00
  have q01 := (hbv.cell (p := ⟨w.heap.size, 1, none⟩) (World.block_lt_of_cell? _ _ g01)).trans g01
  have q02 := (hbv.cell (p := ⟨w.heap.size, 2, none⟩) (World.block_lt_of_cell? _ _ g02)).trans g02
  have q03 := (hbv.cell (p := ⟨w.heap.size, 3, none⟩) (World.block_lt_of_cell? _ _ g03)).trans g03
  have q04 := (hbv.cell (p := ⟨w.heap.size, 4, none⟩) (World.block_lt_of_cell? _ _ g04)).trans g04
  have q05 := (hbv.cell (p := ⟨w.heap.size, 5, none⟩) (World.block_lt_of_cell? _ _ g05)).trans g05
  have q10 := (hbv.cell (p := ⟨w.heap.size + 1, 0, none⟩) (World.block_lt_of_cell? _ _ g10)).trans g10
  have q11 := (hbv.cell (p := ⟨w.heap.size + 1, 1, none⟩) (World.block_lt_of_cell? _ _ g11)).trans g11
  have q12 := (hbv.cell (p := ⟨w.heap.size + 1, 2, none⟩) (World.block_lt_of_cell? _ _ g12)).trans g12
  have q13 := (hbv.cell (p := ⟨w.heap.size + 1, 3, none⟩) (World.block_lt_of_cell? _ _ g13)).trans g13
  have q14 := (hbv.cell (p := ⟨w.heap.size + 1, 4, none⟩) (World.block_lt_of_cell? _ _ g14)).trans g14
  have q15 := (hbv.cell (p := ⟨w.heap.size + 1, 5, none⟩) (World.block_lt_of_cell? _ _ g15)).trans g15
  have HV := Lib.hid (HGR.out.drew.trans hv)
  clear hbv hv g00 g01 g02 g03 g04 g05 g10 g11 g12 g13 g14 g15
  refine hK.out _ _ ⟨q00, q01, q02, q03, q04, q05, q10, q11, q12, q13, q14, q15⟩ (fun hH => ?_)
  clear hK K
  try simp only [Act.put, tkA, tkB, tkC]
  refine wpAnyK_one (i := 7) (by kernel_rfl) rfl (fun K hK => ?_) (by kernel_rfl)
  go_simp
  go_at_call 88
  refine (cmpI_any _ _ _).mono ?_
  rintro e v7 ⟨rfl, rfl⟩
  refine hK.out _ _ ⟨q00, q01, q02, q03, q04, q05, q10, q11, q12, q13, q14, q15⟩ (fun hH => ?_)
  clear hK K
  try simp only [Act.put, tkA, tkB, tkC]
  refine wpAnyK_one (i := 8) (by kernel_rfl) rfl (fun K hK => ?_) (by kernel_rfl)
  go_simp
  obtain ⟨w3, hw3⟩ : ∃ w3, w3 = v7.alloc (.cells #[.int .i64 (ordF a b), .int .i64 (cI a.nu b.nu)] 3) := ⟨_, rfl⟩
  have s0 : w3.cell? ⟨v7.heap.size, 0, none⟩ = some (.int .i64 (ordF a b)) := by rw [hw3]; simp [go_sem]
  have s1 : w3.cell? ⟨v7.heap.size, 1, none⟩ = some (.int .i64 (cI a.nu b.nu)) := by rw [hw3]; simp [go_sem]
  have hb3 : Below v7.heap.size v7 w3 := by rw [hw3]; exact (Below.refl _ _).alloc (Nat.le_refl _) _
  have hg3 : GrW w w3 := by rw [hw3]; exact HV.out.alloc _
  have HG3 := Lib.hid hg3
  have r00 := (hb3.cell (p := ⟨w.heap.size, 0, none⟩) (World.block_lt_of_cell? _ _ q00)).trans q00
  have r01 := (hb3.cell (p := ⟨w.heap.size, 1, none⟩) (World.block_lt_of_cell? _ _ q01)).trans q01
  have r02 := (hb3.cell (p := ⟨w.heap.size, 2, none⟩) (World.block_lt_of_cell? _ _ q02)).trans q02
  have r03 := (hb3.cell (p := ⟨w.heap.size, 3, none⟩) (World.block_lt_of_cell? _ _ q03)).trans q03
  have r04 := (hb3.cell (p := ⟨w.heap.size, 4, none⟩) (World.block_lt_of_cell? _ _ q04)).trans q04
  have r05 := (hb3.cell (p := ⟨w.heap.size, 5, none⟩) (World.block_lt_of_cell? _ _ q05)).trans q05
  have r10 := (hb3.cell (p := ⟨w.heap.size + 1, 0, none⟩) (World.block_lt_of_cell? _ _ q10)).trans q10
  have r11 := (hb3.cell (p := ⟨w.heap.size + 1, 1, none⟩) (World.block_lt_of_cell? _ _ q11)).trans q11
  have r12 := (hb3.cell (p := ⟨w.heap.size + 1, 2, none⟩) (World.block_lt_of_cell? _ _ q12)).trans q12
  have r13 := (hb3.cell (p := ⟨w.heap.size + 1, 3, none⟩) (World.block_lt_of_cell? _ _ q13)).trans q13
  have r14 := (hb3.cell (p := ⟨w.heap.size + 1, 4, none⟩) (World.block_lt_of_cell? _ _ q14)).trans q14
  have r15 := (hb3.cell (p := ⟨w.heap.size + 1, 5, none⟩) (World.block_lt_of_cell? _ _ q15)).trans q15
  rw [← hw3]
  clear hw3 hb3 hg3 q00 q01 q02 q03 q04 q05 q10 q11 q12 q13 q14 q15
  refine hK.out _ _ ⟨r00, r01, r02, r03, r04, r05, r10, r11, r12, r13, r14, r15⟩ (fun hH => ?_)
  clear hK K
  try simp only [Act.put, tkA, tkB, tkC]
  refine wpAnyK_one (i := 9) (by kernel_rfl) rfl (fun K hK => ?_) (by kernel_rfl)
  go_simp
  go_at_call 86
  refine (or_any s0 s1).mono ?_
  rintro e v ⟨rfl, rfl⟩
  refine hK.out _ _ ⟨r00, r01, r02, r03, r04, r05, r10, r11, r12, r13, r14, r15⟩ (fun hH => ?_)
  clear hK K
  try simp only [Act.put, tkA, tkB, tkC]
  refine wpAnyK_last (by kernel_rfl) rfl (fun K hK => ?_) (by kernel_rfl)
  go_simp
  refine hK.out _ _ (wpAnyK_done (by kernel_rfl) ?_ _)
  clear hK K hH
  go_wp2_with fail
  go_ret
  exact ⟨rfl, HG3.out⟩
end Go.Proofs.YtjebpppjhkkebaaGreatDoor
