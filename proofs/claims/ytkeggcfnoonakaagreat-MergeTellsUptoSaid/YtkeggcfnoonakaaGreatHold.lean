
/-
  A load may be taken first as long as the region's last store has not come up: the condition on the world is asked for only till then.
-/
import Derived.Test.YtkeggcfnoonakaaGreatApp
import Derived.Deep.RegionHeld3
set_option linter.unusedSimpArgs false
set_option linter.unusedVariables false
namespace Go.Proofs.YtkeggcfnoonakaaGreat
open Go.RowKit
section
variable {P : Program} {ops : Array Oper} {Q : Exit → Act → World → Prop} {md : Region.Mode} {S : World → Prop} {k : Nat}

/-- Whatever order is picked from here on; behind every operation S holds, as long as operation k has not come up. -/
def wpAnyK (P : Program) (md : Region.Mode) (ops : Array Oper) (Q : Exit → Act → World → Prop) (S : World → Prop) (k : Nat) : Nat → Array Bool → Act → World → Prop
  | 0, listed, a, w => Region.ready md ops listed = [] ∧ Q .normal a w
  | fuel + 1, listed, a, w =>
    (Region.ready md ops listed = [] → Q .normal a w) ∧
    ∀ i ∈ Region.ready md ops listed, wpOp P ops Q i (fun a' w' => ((listed.setIfInBounds i true).getD k true = false → S w') ∧ wpAnyK P md ops Q S k fuel (listed.setIfInBounds i true) a' w') a w

theorem wpAny_of_K : ∀ (fuel : Nat) (listed : Array Bool) (a : Act) (w : World), wpAnyK P md ops Q S k fuel listed a w → wpAny P md ops Q fuel listed a w
  | 0, _, _, _, h => h
  | fuel + 1, _, _, _, h => ⟨h.1, fun i hi => wpOp_mono (fun a' w' h' => wpAny_of_K fuel _ a' w' h'.2) (h.2 i hi)⟩

/-- Operation b waits for a. -/
def Region.waits (md : Region.Mode) (ops : Array Oper) (a b : Nat) : Bool :=
  match ops[b]? with
  | some ob => ob.after.any fun e => Region.binds md e && e.on == a
  | none => false
/-- Each of a row of operations waits for the one ahead of it. -/
def Region.row (md : Region.Mode) (ops : Array Oper) : List Nat → Bool
  | a :: b :: l => Region.waits md ops a b && Region.row md ops (b :: l)
  | _ => true

theorem waits_spec {a b : Nat} (h : Region.waits md ops a b = true) (listed : Array Bool) (hl : listed.getD a true = false) : b ∉ Region.ready md ops listed := by
  intro hr
  obtain ⟨_, ok, hok, hall⟩ := mem_ready.1 hr
  unfold Region.waits at h
  simp only [hok] at h
  rw [← Array.any_toList] at h
  obtain ⟨e, he, hb⟩ := List.any_eq_true.1 h
  simp only [Bool.and_eq_true, beq_iff_eq] at hb
  have h1 := hall e (Array.mem_toList_iff.1 he) hb.1
  rw [hb.2] at h1
  rcases Nat.lt_or_ge a listed.size with h' | h'
  · simp [h'] at hl h1; rw [hl] at h1; cases h1
  · simp [Array.getElem?_eq_none h'] at h1

theorem row_spec : ∀ (l : List Nat) (i : Nat), Region.row md ops (i :: l) = true → ∀ listed : Array Bool, (∀ a ∈ i :: l, listed.getD a true = false) → ∀ a ∈ l, a ∉ Region.ready md ops listed
  | [], _, _, _, _, a, ha => by simp at ha
  | b :: l, i, hr, listed, hl, a, ha => by
    simp only [Region.row, Bool.and_eq_true] at hr
    rcases List.mem_cons.1 ha with rfl | ha
    · exact waits_spec hr.1 listed (hl i (by simp))
    · exact row_spec l b hr.2 listed (fun c hc => hl c (List.mem_cons_of_mem _ hc)) a ha

/-- An operation that may come up now, that yields its value in every world that meets S, and that k waits for, over a row of others, may be taken first. -/
theorem wpAnyK_first {i : Nat} {oi : Oper} {v : Value} {path : List Nat} (hi : ops[i]? = some oi) (hsel : ∀ (j : Nat) (o : Oper) cs b, ops[j]? = some o → o.op ≠ .select cs b)
    (hQ : ∀ c a w, Q (.panic c) (a.put oi.dst v) w → Q (.panic c) a w) (hik : i ∉ path) (hkp : k ∈ path) (hrow : Region.row md ops (i :: path) = true) :
    ∀ (fuel : Nat) (listed : Array Bool) (a : Act) (w : World),
      (∀ j oj, ops[j]? = some oj → j ≠ i → listed.getD j true = false → (∀ e ∈ oj.after, Region.binds md e = true → e.on ≠ i) → oi.apart ops oj = true) →
      i ∈ Region.ready md ops listed → (∀ b ∈ i :: path, listed.getD b true = false) → YieldsIf P ops S oi v a → S w →
      wpAnyK P md ops Q S k fuel (listed.setIfInBounds i true) (a.put oi.dst v) w → wpAnyK P md ops Q S k (fuel + 1) listed a w := by
  intro fuel
  have hike : i ≠ k := fun e => hik (e ▸ hkp)
  induction fuel with
  | zero =>
    intro listed a w _ hr hk hy hS H
    refine ⟨fun h => (by rw [h] at hr; cases hr), fun j hj => ?_⟩
    by_cases hji : j = i
    · subst hji; exact hy.wpOp hi hS ⟨fun _ => hS, H⟩
    · have := ready_mono hj hji
      rw [H.1] at this
      cases this
  | succ fuel ih =>
    intro listed a w hfree hr hk hy hS H
    refine ⟨fun h => (by rw [h] at hr; cases hr), fun j hj => ?_⟩
    by_cases hji : j = i
    · subst hji; exact hy.wpOp hi hS ⟨fun _ => hS, H⟩
    · have h1 := H.2 j (ready_mono hj hji)
      have hjp : j ∉ path := fun e => row_spec path i hrow listed hk j e hj
      have hjk : j ≠ k := fun e => hjp (e ▸ hkp)
      obtain ⟨hjun, oj, hoj, hall⟩ := mem_ready.1 hj
      have hnot : ∀ e ∈ oj.after, Region.binds md e = true → e.on ≠ i := fun e he hb heq => by
        have h1 := hall e he hb
        have h0 := (mem_ready.1 hr).1
        rw [heq] at h1
        rcases Nat.lt_or_ge i listed.size with h' | h'
        · simp [h'] at h0 h1; rw [h0] at h1; cases h1
        · simp [Array.getElem?_eq_none h'] at h1
      have h2 := wpOp_putIf hoj (hfree j oj hoj hji hjun hnot) (fun cs b => hsel i oi cs b hi) (fun cs b => hsel j oj cs b hoj) hQ hy h1
      have hfree' : ∀ k ok, ops[k]? = some ok → k ≠ i → (listed.setIfInBounds j true).getD k true = false →
          (∀ e ∈ ok.after, Region.binds md e = true → e.on ≠ i) → oi.apart ops ok = true := fun k ok hk hki hun hno => by
        refine hfree k ok hk hki ?_ hno
        by_cases hjk : j = k
        · subst hjk; exact hjun
        · rw [getD_set_ne true hjk] at hun; exact hun
      have hk0 : listed.getD k true = false := hk k (List.mem_cons_of_mem _ hkp)
      have hkij : ((listed.setIfInBounds i true).setIfInBounds j true).getD k true = false := by rw [getD_set_ne true hjk, getD_set_ne true hike]; exact hk0
      have hk' : ∀ b ∈ i :: path, (listed.setIfInBounds j true).getD b true = false := fun b hb => by
        rw [getD_set_ne true (fun e => by
          rcases List.mem_cons.1 hb with h | h
          · exact hji (e.trans h)
          · exact hjp (e ▸ h))]
        exact hk b hb
      refine wpOp_mono (fun a' w' h3 => ⟨fun _ => h3.2.1 hkij, ih (listed.setIfInBounds j true) a' w' hfree' (ready_mono hr (Ne.symm hji)) hk' h3.1 (h3.2.1 hkij) ?_⟩) h2
      rw [Array.setIfInBounds_comm _ _ hji]
      exact h3.2.2

/-- Take number i first; path: a row of operations from behind i to k, each waiting for the one ahead of it. -/
theorem wpAnyK_take {i : Nat} (path : List Nat) {t : Option Tmp} {op : Op} {ty : TypeId} {pos : String} {aft : Array Edge} {gd : Option (Nat × Bool)} {v : Value} {fuel : Nat} {listed : Array Bool} {a : Act} {w : World} (hi : ops[i]? = some ⟨t, op, ty, pos, aft, gd⟩)
    (hs : Region.noSelect ops = true) (hf : Region.free md ops listed i = true) (hr : (Region.ready md ops listed).contains i = true)
    (hk : (!path.contains i && path.contains k && Region.row md ops (i :: path) && (i :: path).all (fun b => listed.getD b true == false)) = true)
    (hQ : ∀ c a w, Q (.panic c) (a.put t v) w → Q (.panic c) a w) (hy : YieldsIf P ops S ⟨t, op, ty, pos, aft, gd⟩ v a) (hS : S w)
    (h : wpAnyK P md ops Q S k fuel (listed.setIfInBounds i true) (a.put t v) w) : wpAnyK P md ops Q S k (fuel + 1) listed a w := by
  simp only [Bool.and_eq_true, Bool.not_eq_true', List.all_eq_true, beq_iff_eq] at hk
  exact wpAnyK_first hi (Region.noSelect_spec hs) hQ (by simpa using hk.1.1.1) (by simpa using hk.1.1.2) hk.1.2 fuel listed a w (Region.free_spec hi hf) (by simpa using hr) hk.2 hy hS h

/-- Whichever of those that may come up comes up. -/
theorem wpAnyK_all {rs : List Nat} {fuel : Nat} {listed : Array Bool} {a : Act} {w : World} (hr : Region.ready md ops listed = rs) (hne : rs ≠ [])
    (h : ∀ i ∈ rs, wpOp P ops Q i (fun a' w' => ((listed.setIfInBounds i true).getD k true = false → S w') ∧ wpAnyK P md ops Q S k fuel (listed.setIfInBounds i true) a' w') a w) : wpAnyK P md ops Q S k (fuel + 1) listed a w :=
  ⟨fun h0 => absurd (hr ▸ h0) hne, hr ▸ h⟩

/-- One alone may come up, and it is not k. -/
theorem wpAnyK_one {i : Nat} {t : Option Tmp} {op : Op} {ty : TypeId} {pos : String} {aft : Array Edge} {gd : Option (Nat × Bool)} {fuel : Nat} {listed : Array Bool} {a : Act} {w : World} (hr : Region.ready md ops listed = [i]) (hi : ops[i]? = some ⟨t, op, ty, pos, aft, gd⟩)
    (h : ∀ K' : Act → World → Prop, Shut (∀ a w, S w → (S w → wpAnyK P md ops Q S k fuel (listed.setIfInBounds i true) a w) → K' a w) →
      if Region.wanted ⟨t, op, ty, pos, aft, gd⟩ (yielded ops a.tmps) = true then Oper.wp P ⟨t, op, ty, pos, aft, gd⟩ a w K' Q else K' (a.put t undef) w)
    (hk : (listed.setIfInBounds i true).getD k true = false) : wpAnyK P md ops Q S k (fuel + 1) listed a w :=
  wpAnyK_all hr (by simp) (fun j hj => by
    obtain rfl := List.mem_singleton.1 hj
    exact wpOp_step hi (fun K' hK => h K' (fun a w hS hW => hK a w ⟨fun _ => hS, hW hS⟩)))

/-- k comes up. -/
theorem wpAnyK_last {t : Option Tmp} {op : Op} {ty : TypeId} {pos : String} {aft : Array Edge} {gd : Option (Nat × Bool)} {fuel : Nat} {listed : Array Bool} {a : Act} {w : World} (hr : Region.ready md ops listed = [k]) (hi : ops[k]? = some ⟨t, op, ty, pos, aft, gd⟩)
    (h : ∀ K' : Act → World → Prop, Shut (∀ a w, wpAnyK P md ops Q S k fuel (listed.setIfInBounds k true) a w → K' a w) →
      if Region.wanted ⟨t, op, ty, pos, aft, gd⟩ (yielded ops a.tmps) = true then Oper.wp P ⟨t, op, ty, pos, aft, gd⟩ a w K' Q else K' (a.put t undef) w)
    (hk : (listed.setIfInBounds k true).getD k true = true) : wpAnyK P md ops Q S k (fuel + 1) listed a w :=
  wpAnyK_all hr (by simp) (fun j hj => by
    obtain rfl := List.mem_singleton.1 hj
    exact wpOp_step hi (fun K' hK => h K' (fun a w hW => hK a w ⟨fun e => absurd (hk.symm.trans e) (by decide), hW⟩)))

/-- All have come up. -/
theorem wpAnyK_done {listed : Array Bool} {a : Act} {w : World} (hr : Region.ready md ops listed = []) (h : Q .normal a w) :
    ∀ fuel, wpAnyK P md ops Q S k fuel listed a w
  | 0 => ⟨hr, h⟩
  | _ + 1 => ⟨fun _ => h, by rw [hr]; simp⟩

/-- The beginning. -/
theorem wp_region_K {id : Nat} {a : Act} {w : World} (S : World → Prop) (k n : Nat) (hm : P.follows .mixedOrders = true) (hn : ops.size = n) (hS : S w.drew)
    (h : S w.drew → wpAnyK P .any ops Q S k n (Array.replicate n false) a w.drew) : (Code.region id ops true).wp P Q a w := by
  subst hn
  exact wp_region_any hm (wpAny_of_K _ _ _ _ (h hS))
end
end Go.Proofs.YtkeggcfnoonakaaGreat
