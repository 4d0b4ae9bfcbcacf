/-
  Get.
-/
import Derived.Test.YtmodgjjlgobjcaaGreatSkK
namespace Go.Proofs.YtmodgjjlgobjcaaGreat
open Go.RowKit Go.Shelf

attribute [local go_sem] Oper.semAt_some

/-- What Get tells. -/
def getOf (L : List Nd) (k : ByteArray) : ByteArray × Int := match L[below L k]? with
  | some n => if n.k = k then (n.v, 0) else (⟨#[]⟩, 22)
  | none => (⟨#[]⟩, 22)

theorem cellB_new (W : World) (v : Value) (t : TypeId) : (W.alloc (.cells #[v] t)).cell? ⟨W.heap.size, 0, none⟩ = some v ∧ (W.alloc (.cells #[v] t)).frozen? ⟨W.heap.size, 0, none⟩ = false := by
  have h : (W.alloc (.cells #[v] t)).heap[W.heap.size]? = some (.cells #[v] t (0, 0)) := World.alloc_heap_new W _
  unfold World.cell? World.frozen?
  simp only [h]
  exact ⟨rfl, rfl⟩

/-- A box of a value. -/
def BoxAt (W : World) (b : Nat) (v : Value) : Prop := W.cell? ⟨b, 0, none⟩ = some v ∧ W.frozen? ⟨b, 0, none⟩ = false
theorem BoxAt.alloc {W : World} {b : Nat} {v : Value} (h : BoxAt W b v) (o : Obj) : BoxAt (W.alloc o) b v :=
  ⟨(Tn.alloc (F := fun _ => False) W o).cell h.1 (fun e => e), ((Tn.alloc (F := fun _ => False) W o).frozen (World.block_lt_of_cell? _ _ h.1) (fun e => e)).trans h.2⟩
theorem BoxAt.new (W : World) (v : Value) (t : TypeId) : BoxAt (W.alloc (.cells #[v] t)) W.heap.size v := cellB_new W v t
theorem BoxAt.own {W A : World} {b : Nat} {v : Value} {row : Option Nat} (h : BoxAt W b v) (hg : W.grownBy A row) (hr : ∀ r, row = some r → ∃ o : Obj, W.heap[r]? = some o ∧ o.isCells = false) : BoxAt A b v :=
  ⟨cell_kept h.1 hg hr, (frozen_kept h.1 hg hr).trans h.2⟩
theorem BoxAt.set {W : World} {b : Nat} {v : Value} (h : BoxAt W b v) (u : Value) : BoxAt (W.setCell ⟨b, 0, none⟩ u) b u :=
  ⟨World.cell?_setCell_same' _ _ _ (by rw [h.1]; rfl), by rw [World.frozen?_setCell]; exact h.2⟩
theorem BoxAt.other {W : World} {b : Nat} {v : Value} (h : BoxAt W b v) {p : Addr} (u : Value) (hp : b ≠ p.block) : BoxAt (W.setCell p u) b v :=
  ⟨(Tn.setCell (F := fun q => q = p.block) W p u rfl).cell h.1 hp, by rw [World.frozen?_setCell]; exact h.2⟩

set_option maxRecDepth 100000 in
theorem get_end {w V : World} {D B : Nat} {v : ByteArray} {c : Int} {T : Array Value}
    (hK : V.heap[D]? = some (.deferred (some []))) (h1 : BoxAt V (B + 1) (.string v)) (h2 : BoxAt V (B + 1 + 1) (.int .i64 c)) (hb : Below w.heap.size w V) (hD : w.heap.size ≤ D) {x : ByteArray × Int} (hx : x = (v, c)) 
    (t4 : T[4]? = some (.pointer (some ⟨B + 1, 0, none⟩))) (t5 : T[5]? = some (.pointer (some ⟨B + 1 + 1, 0, none⟩))) : bodyPostM Fence.wide 9 Tryz.prog Tryz.f8 (fun e w' => e = .returned (.tuple #[.string x.1, .int .i64 x.2]) ∧ Below w.heap.size w w') Exit.ret
    { tmps := T, defers := [{ target := Target.collected D, args := #[] }] } V := by
  subst hx
  have k1 := h1.own (grownBy_putObj' _ D (.deferred none)) (fun r e => by cases e; exact ⟨_, hK, rfl⟩)
  have k2 := h2.own (grownBy_putObj' _ D (.deferred none)) (fun r e => by cases e; exact ⟨_, hK, rfl⟩)
  have l1 := k1.1
  have l2 := k2.1
  refine ⟨by simp, .inl ⟨_, _, rfl, run_takeDeferred hK, ?_⟩⟩
  refine ⟨.tuple #[.string v, .int .i64 c], ?_, rfl, hb.trans (belowK_b (w := w) (Nat.le_refl _) V D _ _ hD hK rfl rfl)⟩
  simp [results, Tryz.f8, go_sem, t4, t5, l1, l2]

/-- What a range over all wants of a list, or of none. -/
structure ListAt (w : World) (o : Option Addr) (L : List Nd) (k : ByteArray) : Prop where
  node : ∀ W, Below w.heap.size w W → ∀ n ∈ L, NdAt W n
  stops : ∀ (W : World) (B1 B2 : Nat), Below w.heap.size w W → B1 < W.heap.size → B2 < W.heap.size → W.cell? ⟨B1, 0, none⟩ = some (.pointer o) → W.cell? ⟨B2, 0, none⟩ = some (.string k) →
    SeqStopsK Fence.wide 8 Tryz.prog 98 #[.pointer (some ⟨B1, 0, none⟩), .pointer (some ⟨B2, 0, none⟩)] encN (Below w.heap.size) (fun ys => ys = from_ L (below L k)) (fun pre => pre <+: from_ L (below L k)) (from_ L (below L k)).length W
theorem SkAt.listAt {w : World} {sb : Nat} {L : List Nd} {fr : Bool} (s : SkAt w sb L fr) (k : ByteArray) : ListAt w (some ⟨sb, 0, none⟩) L k where
  node W hb n hn := by
    obtain ⟨i, hi, rfl⟩ := List.mem_iff_getElem.1 hn
    exact (s.below hb).node i hi
  stops W B1 B2 hb h1 h2 c1 c2 := all_stops 8 (by decide) B1 B2 w.heap.size (s.below hb) s.feet_lt k h1 h2 c1 c2

set_option maxRecDepth 100000 in
set_option maxHeartbeats 1000000 in
theorem nil1_in (n : Nat) (l B1 B2 : Nat) {W : World} (hB1 : W.cell? ⟨B1, 0, none⟩ = some (.pointer none)) :
    CallsIn Fence.wide n Tryz.prog 98 #[.func (.yield l) #[] #[], .pointer (some ⟨B1, 0, none⟩), .pointer (some ⟨B2, 0, none⟩)] W fun e W' => (∃ v, e = .returned v) ∧ W = W' := by
  refine callsIn_of_wp Tryz.func98 rfl trivial ?_ rfl
  simp only [Tryz.ntmps98, List.size_toArray, List.length_cons, List.length_nil, Nat.reduceAdd, Nat.reduceSub, Array.replicate_succ, Array.replicate_zero, List.push_toArray, List.append_toArray, List.nil_append, List.cons_append]
  gi_wp2
  refine bodyPost_ret (results_none rfl _ _ _) rfl ?_
  exact ⟨⟨_, rfl⟩, rfl⟩
theorem nilAt (w : World) (k : ByteArray) : ListAt w none [] k where
  node W hb n hn := by cases hn
  stops W B1 B2 hb h1 h2 c1 c2 := by
    intro l J Jx V hV hJ _ hY hj0
    refine (nil1_in 8 l B1 B2 ((hV.cell (p := ⟨B1, 0, none⟩) h1).trans c1)).mono ?_
    rintro e w' ⟨hv, rfl⟩
    exact ⟨hv, Or.inl ⟨[], rfl, hj0⟩⟩

set_option maxRecDepth 100000 in
set_option maxHeartbeats 2000000 in
theorem get_core {w : World} {o : Option Addr} {L : List Nd} {k : ByteArray} (s : ListAt w o L k) :
    Calls Tryz.prog 8 #[.pointer o, .string k] w fun e w' =>
      e = .returned (.tuple #[.string (getOf L k).1, .int .i64 (getOf L k).2]) ∧ Below w.heap.size w w' := by
  have HS := Lib.hid s
  clear s
  refine (callsIn_wide (n := 9)).1 ?_
  refine callsIn_of_wp_marks Tryz.func8 rfl trivial ?_ rfl
  simp only [Tryz.ntmps8, List.size_toArray, List.length_cons, List.length_nil, Nat.reduceAdd, Nat.reduceSub, Array.replicate_succ, Array.replicate_zero, List.push_toArray, List.append_toArray, List.nil_append, List.cons_append]
  gi_wp2_with (refine ⟨trivial, ?_⟩; gi_at_call 31; refine (callsIn_wide.2 (all_any _ _ _)).mono ?_; rintro e w' ⟨rfl, rfl⟩)
  obtain ⟨W5, hW5, c0, c1, c2, c3, c4, hb5, hz5⟩ : ∃ W5, ((((w.alloc (.cells #[.string k] 9)).alloc (.cells #[.string ⟨#[]⟩] 9)).alloc (.cells #[.int .i64 0] 55)).alloc (.cells #[.pointer o] 24)).alloc (.cells #[.string k] 9) = W5 ∧ BoxAt W5 w.heap.size (.string k) ∧ BoxAt W5 (w.heap.size + 1) (.string ⟨#[]⟩) ∧ BoxAt W5 (w.heap.size + 1 + 1) (.int .i64 0) ∧ BoxAt W5 (w.heap.size + 1 + 1 + 1) (.pointer o) ∧ BoxAt W5 (w.heap.size + 1 + 1 + 1 + 1) (.string k) ∧ Below w.heap.size w W5 ∧ W5.heap.size = w.heap.size + 5 := by
    refine ⟨_, rfl, ?_, ?_, ?_, ?_, ?_, ?_, by simp⟩
    · exact ((((BoxAt.new w _ _).alloc _).alloc _).alloc _).alloc _
    · have := ((((BoxAt.new (w.alloc (.cells #[.string k] 9)) (.string ⟨#[]⟩) 9).alloc (.cells #[.int .i64 0] 55)).alloc (.cells #[.pointer o] 24)).alloc (.cells #[.string k] 9))
      simpa using this
    · have := (((BoxAt.new ((w.alloc (.cells #[.string k] 9)).alloc (.cells #[.string ⟨#[]⟩] 9)) (.int .i64 0) 55).alloc (.cells #[.pointer o] 24)).alloc (.cells #[.string k] 9))
      simpa using this
    · have := ((BoxAt.new (((w.alloc (.cells #[.string k] 9)).alloc (.cells #[.string ⟨#[]⟩] 9)).alloc (.cells #[.int .i64 0] 55)) (.pointer o) 24).alloc (.cells #[.string k] 9))
      simpa using this
    · have := (BoxAt.new ((((w.alloc (.cells #[.string k] 9)).alloc (.cells #[.string ⟨#[]⟩] 9)).alloc (.cells #[.int .i64 0] 55)).alloc (.cells #[.pointer o] 24)) (.string k) 9)
      simpa using this
    · exact (((((Below.refl _ w).alloc (Nat.le_refl _) _).alloc (by simp) _).alloc (by simp; omega) _).alloc (by simp; omega) _).alloc (by simp; omega) _
  rw [hW5]
  clear hW5
  have hs5 := HS.out.stops W5 (w.heap.size + 1 + 1 + 1) (w.heap.size + 1 + 1 + 1 + 1) hb5 (by omega) (by omega) c3.1 c4.1
  refine wpIn_rangeFunc_ownF rfl (by decide) (gf := 98) (lb := #[.pointer (some ⟨w.heap.size + 1 + 1 + 1, 0, none⟩), .pointer (some ⟨w.heap.size + 1 + 1 + 1 + 1, 0, none⟩)]) rfl trivial (enters_of Tryz.func98 (by kernel_rfl) rfl)
    hs5 belowK_t (belowK_b (by omega)) (Below.refl _ _) (fun _ => rfl)
    (fun pre W => (pre = [] ∧ BoxAt W w.heap.size (.string k) ∧ BoxAt W (w.heap.size + 1) (.string ⟨#[]⟩) ∧ BoxAt W (w.heap.size + 1 + 1) (.int .i64 0)) ∧ Below w.heap.size w W)
    (fun c pre W => (∃ x, pre = [x] ∧ ((c = .ret ∧ x.1.k = k ∧ BoxAt W (w.heap.size + 1) (.string x.1.v) ∧ BoxAt W (w.heap.size + 1 + 1) (.int .i64 0)) ∨ (c = .exit 0 ∧ x.1.k ≠ k ∧ BoxAt W (w.heap.size + 1) (.string ⟨#[]⟩) ∧ BoxAt W (w.heap.size + 1 + 1) (.int .i64 0)))) ∧ Below w.heap.size w W)
    (OwnFrom.and (Own.from (fun s A B row hs hg hr => ⟨hs.1, hs.2.1.own hg hr, hs.2.2.1.own hg hr, hs.2.2.2.own hg hr⟩) _) (ownFrom_below (Nat.le_refl _) (by omega)))
    (fun c => OwnFrom.and (Own.from (fun s A B row hs hg hr => by
      obtain ⟨x, hx, h | h⟩ := hs
      · exact ⟨x, hx, Or.inl ⟨h.1, h.2.1, h.2.2.1.own hg hr, h.2.2.2.own hg hr⟩⟩
      · exact ⟨x, hx, Or.inr ⟨h.1, h.2.1, h.2.2.1.own hg hr, h.2.2.2.own hg hr⟩⟩) _) (ownFrom_below (Nat.le_refl _) (by omega)))
    ⟨⟨rfl, c0, c1, c2⟩, hb5⟩
    (fun x => { tmps := #[.pointer o, .string k, undef, .pointer (some ⟨w.heap.size, 0, none⟩), .pointer (some ⟨w.heap.size + 1, 0, none⟩), .pointer (some ⟨w.heap.size + 1 + 1, 0, none⟩), .pointer (some ⟨x.1.b, 0, none⟩), .pointer o, .string k, .func (.func 98) #[] #[.pointer (some ⟨w.heap.size + 1 + 1 + 1, 0, none⟩), .pointer (some ⟨w.heap.size + 1 + 1 + 1 + 1, 0, none⟩)], .pointer (some ⟨x.1.b, 0, none⟩), undef, undef, undef, undef, undef, undef, undef, undef, undef, undef], defers := [] }) ?assign ?body ?done ?stop
  case assign =>
    intro l x W K hK
    unfold encN
    gi_wp2
    exact hK
  case body =>
    rintro l pre x W ⟨⟨rfl, d0, d1, d2⟩, hB⟩ _
    obtain ⟨x, hx⟩ := x
    have hnd := HS.out.node W hB x hx
    have n0 := hnd.c0
    have n1 := hnd.c1
    have d01 := d0.1
    have d11 := d1.1
    have d12 := d1.2
    have d21 := d2.1
    have d22 := d2.2
    gi_wp2
    have e01 : W.drew.cell? ⟨w.heap.size, 0, none⟩ = some (.string k) := d01
    have en0 : W.drew.cell? ⟨x.b, 0, none⟩ = some (.string x.k) := n0
    have en1 : W.drew.cell? ⟨x.b, 1, none⟩ = some (.string x.v) := n1
    have e11 : W.drew.cell? ⟨w.heap.size + 1, 0, none⟩ = some (.string ⟨#[]⟩) := d11
    have e12 : W.drew.frozen? ⟨w.heap.size + 1, 0, none⟩ = false := d12
    have e21 : W.drew.cell? ⟨w.heap.size + 1 + 1, 0, none⟩ = some (.int .i64 0) := d21
    have e22 : W.drew.frozen? ⟨w.heap.size + 1 + 1, 0, none⟩ = false := d22
    have hmx : Tryz.prog.follows .mixedOrders = true := by kernel_rfl
    have HX := Lib.hid (And.intro hB (And.intro d1 d2))
    clear hnd n0 d01 d0 d1 d2 hB
    by_cases hk : x.k = k
    · have te : (x.k.toList == k.toList) = true := by rw [hk]; exact beq_self_eq_true _
      have HK := Lib.hid hk
      clear hk
      gi_region_o
      all_goals gi_wp2
      all_goals (
        refine ⟨((KeepsOthers.drew _).trans (KeepsOthers.setCell _ _ _)).trans (KeepsOthers.setCell _ _ _), ⟨⟨x, hx⟩, rfl, Or.inl ⟨rfl, HK.out, ?_, ?_⟩⟩, ((HX.out.1.drew).setCell (p := ⟨w.heap.size + 1, 0, none⟩) (by simp) _).setCell (p := ⟨w.heap.size + 1 + 1, 0, none⟩) (by simp; omega) _⟩
        · exact (BoxAt.set (W := W.drew) HX.out.2.1 _).other _ (by simp)
        · exact (BoxAt.other (W := W.drew) HX.out.2.2 _ (by simp)).set _)
    · have te : (x.k.toList == k.toList) = false := by
        simp only [beq_eq_false_iff_ne, ne_eq]
        intro e
        rw [ByteArray.toList_eq, ByteArray.toList_eq] at e
        exact hk (by
          cases hxk : x.k with | mk a => cases hkk : k with | mk b =>
            rw [hxk, hkk] at e
            simp only [ByteArray.mk.injEq]
            exact Array.toList_inj.1 e)
      have HK := Lib.hid hk
      clear hk
      gi_region_o
      all_goals gi_wp2
      all_goals exact ⟨KeepsOthers.drew _, ⟨⟨x, hx⟩, rfl, Or.inr ⟨rfl, HK.out, HX.out.2.1, HX.out.2.2⟩⟩, HX.out.1.drew⟩
  case done =>
    rintro D ys W hD hys ⟨⟨rfl, d0, d1, d2⟩, hB⟩ hK
    have hnone : L[below L k]? = none := by
      have := congrArg List.length hys
      rw [from_len] at this
      exact List.getElem?_eq_none (by simp at this; omega)
    have hg : getOf L k = (⟨#[]⟩, 22) := by unfold getOf; rw [hnone]
    have HG := Lib.hid hg
    have d11 := d1.1
    have d12 := d1.2
    have d21 := d2.1
    have d22 := d2.2
    have HX := Lib.hid (And.intro hB (And.intro d1 d2))
    clear hys hnone hg d1 d2 hB d0
    gi_wp2
    have HV := KeepsOthers.same ((KeepsOthers.setCell W ⟨w.heap.size + 1, 0, none⟩ (.string ⟨#[]⟩)).trans (KeepsOthers.setCell _ ⟨w.heap.size + 1 + 1, 0, none⟩ (.int .i64 22))) D _ hK rfl
    refine get_end HV ((HX.out.2.1.set _).other _ (by simp)) ((HX.out.2.2.other _ (by simp)).set _) ((HX.out.1.setCell (p := ⟨w.heap.size + 1, 0, none⟩) (by simp) _).setCell (p := ⟨w.heap.size + 1 + 1, 0, none⟩) (by simp; omega) _) (by omega) HG.out rfl rfl
  case stop =>
    rintro D c pre W hD hpre ⟨⟨x, rfl, h⟩, hB⟩ hK
    obtain ⟨t, ht⟩ := hpre
    have hge : L[below L k]? = some x.1 := by
      have h1 : (L.drop (below L k))[0]? = some x.1 := by
        rw [← from_val (L := L), ← ht]
        rfl
      rw [List.getElem?_drop] at h1
      exact h1
    rcases h with ⟨rfl, hxk, d1, d2⟩ | ⟨rfl, hxk, d1, d2⟩
    · have hg : getOf L k = (x.1.v, 0) := by unfold getOf; rw [hge]; simp only []; rw [if_pos hxk]
      have HG := Lib.hid hg
      have HX := Lib.hid (And.intro hB (And.intro d1 d2))
      clear hge hg d1 d2 hB
      gi_wp2
      refine get_end hK HX.out.2.1 HX.out.2.2 HX.out.1 (by omega) HG.out rfl rfl
    · have hg : getOf L k = (⟨#[]⟩, 22) := by unfold getOf; rw [hge]; simp only []; rw [if_neg hxk]
      have HG := Lib.hid hg
      have HX := Lib.hid (And.intro hB (And.intro d1 d2))
      have d11 := d1.1
      have d12 := d1.2
      have d21 := d2.1
      have d22 := d2.2
      clear hge hg d1 d2 hB
      gi_wp2
      have HV := KeepsOthers.same ((KeepsOthers.setCell W ⟨w.heap.size + 1, 0, none⟩ (.string ⟨#[]⟩)).trans (KeepsOthers.setCell _ ⟨w.heap.size + 1 + 1, 0, none⟩ (.int .i64 22))) D _ hK rfl
      refine get_end HV ((HX.out.2.1.set _).other _ (by simp)) ((HX.out.2.2.other _ (by simp)).set _) ((HX.out.1.setCell (p := ⟨w.heap.size + 1, 0, none⟩) (by simp) _).setCell (p := ⟨w.heap.size + 1 + 1, 0, none⟩) (by simp; omega) _) (by omega) HG.out rfl rfl

theorem get_any {w : World} {sb : Nat} {L : List Nd} {fr : Bool} (s : SkAt w sb L fr) (k : ByteArray) :
    Calls Tryz.prog 8 #[.pointer (some ⟨sb, 0, none⟩), .string k] w fun e w' =>
      e = .returned (.tuple #[.string (getOf L k).1, .int .i64 (getOf L k).2]) ∧ Below w.heap.size w w' := get_core (s.listAt k)
theorem nilget_any (k : ByteArray) (w : World) :
    Calls Tryz.prog 8 #[.pointer none, .string k] w fun e w' => e = .returned (.tuple #[.string ⟨#[]⟩, .int .i64 22]) ∧ Below w.heap.size w w' := get_core (nilAt w k)
end Go.Proofs.YtmodgjjlgobjcaaGreat
