/-
  Lease: leases that were made behind a world; the first calls; a lease is renewed time and again.
-/
import Derived.Test.YtmdhegmnfcodbaaLsK
namespace Go.Proofs.Ytmdhegmnfcodbaa
open Go.RowKit
variable {w w' w0 w1 w2 w3 w4 : World} {mb lb B : Nat} {ob : Option Nat} {m : Lm} {last : Int}

/-- Leases that were made behind the world w0. -/
structure LsW (B : Nat) (w0 w : World) (lb : Nat) (ob : Option Nat) (m : Lm) (last : Int) : Prop where
  a : LsAt w lb ob m last
  b : Below B w0 w
  hl : B ≤ lb
  hm : ∀ q, ob = some q → B ≤ q
  hz : B ≤ w.heap.size
theorem LsW.stay (h : LsW B w0 w lb ob m last) (hb : Below w.heap.size w w') : LsW B w0 w' lb ob m last := ⟨h.a.below hb, h.b.trans (hb.mono h.hz), h.hl, h.hm, Nat.le_trans h.hz hb.size⟩
theorem LsW.go (h : LsW B w0 w lb ob m last) {m' : Lm} (h2 : LsAt w' lb ob m' last) (ht : Tn (fun q => ob = some q) w w') : LsW B w0 w' lb ob m' last :=
  ⟨h2, h.b.trans (ht.below h.hz (fun k hk => h.hm k hk)), h.hl, h.hm, Nat.le_trans h.hz ht.size⟩
theorem LsW.acq (h : LsW B w0 w lb ob m last) {now t : Int} {vs : List Int} (h2 : AcqOk w w' lb ob m last now vs t) :
    ∃ mb x, LsW B w0 w' lb (some mb) (live now m ++ [(last + 1, x)]) (last + 1) ∧ core x = (last + 1, vs, t) := by
  obtain ⟨mb, x, h3, h4, h5, h6, _⟩ := h2
  refine ⟨mb, x, ⟨h3, h.b.trans (h6.below h.hz (fun k hk => ?_)), h.hl, fun q hq => ?_, Nat.le_trans h.hz h6.size⟩, h4⟩
  · rcases hk with e | e
    · rw [e]; exact h.hl
    · exact h.hm k e
  · obtain rfl := Option.some.inj hq
    rcases h5 with e | e
    · exact h.hm _ e
    · exact Nat.le_trans h.hz e
theorem c_new (hb : Below B w0 w) (hz : B ≤ w.heap.size) : Calls Try.prog 7 #[] w fun e w' => e = .returned (.pointer (some ⟨w.heap.size, 0, none⟩)) ∧ LsW B w0 w' w.heap.size none [] 0 :=
  (new_any w).mono (by
    rintro e w' ⟨h1, h2, h3⟩
    exact ⟨h1, h2, hb.trans (h3.mono hz), hz, fun q hq => (by cases hq), Nat.le_trans hz h3.size⟩)
theorem rdX_new (h : LsAt w lb ob m last) {cs : Array Value} {t : TypeId} {vs : List Int} (hc : cs = (vs.map (fun k => Value.int .i64 k)).toArray) : RdX (foot lb ob) (w.alloc (.cells cs t)) ⟨0, some ⟨w.heap.size, 0, none⟩, vs.length, vs, 0⟩ := by
  refine .inr ⟨w.heap.size, 0, rfl, ?_, by simp, fun i hi => ?_⟩
  · rintro (e | e)
    · have := h.ltd; omega
    · have := h.mp.lt e; omega
  · subst hc
    have hi2 : i < vs.length := hi
    simp [go_sem, hi2]
/-- One is made, where there is room. -/
theorem c_acq (h : LsW B w0 w lb ob m last) (hl : last < 1000000) {xa : Option Addr} {xc n : Nat} {vs : List Int} (hn : vs.length = n) (hx : RdX (foot lb ob) w ⟨0, xa, xc, vs, 0⟩) (hv : validB vs = true) (ttl now : Int) (hr : rightB ttl now = true) {t i : Int} (ht : tillZ ttl now = t) (hi : last + 1 = i) {m' : Lm} (hm : live now m = m') (hlv : m'.length < 16) :
    Calls Try.prog 8 #[.pointer (some ⟨lb, 0, none⟩), .slice xa n xc, .int .i64 ttl, .int .i64 now] w fun e w' =>
      e = .returned (.tuple #[.int .i64 i, .int .i64 0]) ∧ ∃ mb x, LsW B w0 w' lb (some mb) (m' ++ [(i, x)]) i ∧ core x = (i, vs, t) := by
  subst hn hi
  have hA : Calls Try.prog 8 #[.pointer (some ⟨lb, 0, none⟩), .slice xa vs.length xc, .int .i64 ttl, .int .i64 now] w fun e w' =>
      (16 ≤ (live now m).length ∧ e = .returned (.tuple #[.int .i64 0, .int .i64 24]) ∧ Below w.heap.size w w') ∨
      ((live now m).length < 16 ∧ e = .returned (.tuple #[.int .i64 (last + 1), .int .i64 0]) ∧ AcqOk w w' lb ob m last now vs (tillZ ttl now)) := by
    cases ob with
    | none => exact acquire_go_none h.a hl hx hv ttl now hr
    | some mb => exact acquire_go_some h.a hl hx hv ttl now hr
  refine hA.mono ?_
  rintro e w' (⟨h1, _⟩ | ⟨_, rfl, h2⟩)
  · rw [hm] at h1; omega
  · rw [ht] at h2
    have h3 := h.acq h2
    rw [hm] at h3
    exact ⟨rfl, h3⟩
theorem c_exp (h : LsW B w0 w lb ob m last) (now : Int) {l : List Int} {n : Nat} (hl : expI now ((sortM m).map core) = l) (hn : l.length = n) {m' : Lm} (hm : live now m = m') : Calls Try.prog 10 #[.pointer (some ⟨lb, 0, none⟩), .int .i64 now] w fun e w' =>
    ∃ a c, e = .returned (.slice a n c) ∧ Own eInt w' w.heap.size (.slice a n c) l ∧ LsW B w0 w' lb ob m' last := by
  refine (expire_any h.a now).mono ?_
  rintro e w' ⟨a, k, c, rfl, h1, h2, h3, h4⟩
  rw [hl, hn] at h1
  subst h1
  rw [exp_live h.a.ok h.a.nodup, hm] at h3
  rw [hl] at h2
  exact ⟨a, c, rfl, h2, h.go h3 h4⟩
theorem c_meet (h : LsW B w0 w lb ob m last) {k : Nat} (hk0 : 1 ≤ k) (hk8 : k ≤ 8) (hk : ∀ p ∈ m, p.2.vs.length = k) {l : List Int} (hl : meetAll ((sortM m).map (·.vs)) = l) {n : Nat} (hn : l.length = n) : Calls Try.prog 11 #[.pointer (some ⟨lb, 0, none⟩)] w fun e w' =>
    ∃ a c, e = .returned (.slice a n c) ∧ RdI w' (.slice a n c) l ∧ LsW B w0 w' lb ob m last := by
  subst hn
  refine (meetAll_any h.a hk0 hk8 hk).mono ?_
  rintro e w' ⟨v, rfl, h1, h2⟩
  rw [hl] at h1
  obtain ⟨a, c, rfl, h3⟩ := h1
  exact ⟨a, c, rfl, ⟨a, c, rfl, h3⟩, h.stay h2⟩

theorem c_there (h : LsW B w0 w lb ob m last) (id now : Int) {k : Int} (hk : (getL m id = none ∧ k = 22) ∨ (∃ x, getL m id = some x ∧ x.till ≤ now ∧ k = 51)) :
    Calls Try.prog 25 #[.pointer (some ⟨lb, 0, none⟩), .int .i64 id, .int .i64 now] w fun e w' => e = .returned (.tuple #[.agg #[.int .i64 0, .slice none 0 0, .int .i64 0], .int .i64 k]) ∧ Below w.heap.size w w' := by
  rcases hk with ⟨hg, rfl⟩ | ⟨x, hg, hx, rfl⟩
  · exact there_none h.a id now hg
  · have := there_some h.a id now hg
    rw [if_pos hx] at this
    exact this
theorem c_renew_no (h : LsW B w0 w lb ob m last) (id ttl now : Int) (hr : rightB ttl now = true) {k : Int} (hk : (getL m id = none ∧ k = 22) ∨ (∃ x, getL m id = some x ∧ x.till ≤ now ∧ k = 51)) :
    Calls Try.prog 13 #[.pointer (some ⟨lb, 0, none⟩), .int .i64 id, .int .i64 ttl, .int .i64 now] w fun e w' => e = .returned (.int .i64 k) ∧ LsW B w0 w' lb ob m last :=
  (renew_no lb id ttl now hr (by rcases hk with ⟨_, rfl⟩ | ⟨_, _, _, rfl⟩ <;> simp) (c_there h id now hk)).mono fun _ _ ⟨h1, h2⟩ => ⟨h1, h.stay h2⟩
theorem c_release_no (h : LsW B w0 w lb ob m last) (id now : Int) {k : Int} (hk : (getL m id = none ∧ k = 22) ∨ (∃ x, getL m id = some x ∧ x.till ≤ now ∧ k = 51)) :
    Calls Try.prog 14 #[.pointer (some ⟨lb, 0, none⟩), .int .i64 id, .int .i64 now] w fun e w' => e = .returned (.int .i64 k) ∧ LsW B w0 w' lb ob m last :=
  (release_no lb id now (by rcases hk with ⟨_, rfl⟩ | ⟨_, _, _, rfl⟩ <;> simp) (c_there h id now hk)).mono fun _ _ ⟨h1, h2⟩ => ⟨h1, h.stay h2⟩
theorem c_renew (h : LsW B w0 w lb ob m last) (id ttl now : Int) (hr : rightB ttl now = true) {x : Lv} (hg : getL m id = some x) (hl : now < x.till) {t : Int} (ht : max x.till (tillZ ttl now) = t) {m' : Lm} (hm : setL m id { x with till := t } = m') :
    Calls Try.prog 13 #[.pointer (some ⟨lb, 0, none⟩), .int .i64 id, .int .i64 ttl, .int .i64 now] w fun e w' => e = .returned (.int .i64 0) ∧ LsW B w0 w' lb ob m' last := by
  subst ht hm
  exact (renew_ok h.a id ttl now hg hr hl).mono fun _ _ ⟨h1, h2, h3⟩ => ⟨h1, h.go h2 h3⟩
theorem c_release (h : LsW B w0 w lb ob m last) (id now : Int) {x : Lv} (hg : getL m id = some x) (hl : now < x.till) {m' : Lm} (hm : delL m id = m') :
    Calls Try.prog 14 #[.pointer (some ⟨lb, 0, none⟩), .int .i64 id, .int .i64 now] w fun e w' => e = .returned (.int .i64 0) ∧ LsW B w0 w' lb ob m' last := by
  subst hm
  exact (release_ok h.a id now hg hl).mono fun _ _ ⟨h1, h2, h3⟩ => ⟨h1, h.go h2 h3⟩
theorem c_get (h : LsW B w0 w lb ob m last) (id : Int) {x : Lv} (hg : getL m id = some x) {i t : Int} {vs : List Int} (hc : core x = (i, vs, t)) {n : Nat} (hn : vs.length = n) :
    Calls Try.prog 9 #[.pointer (some ⟨lb, 0, none⟩), .int .i64 id] w fun e w' => ∃ a c, e = .returned (.tuple #[.agg #[.int .i64 i, .slice a n c, .int .i64 t], .int .i64 0]) ∧ Own eVec w' w.heap.size (.slice a n c) vs ∧ LsW B w0 w' lb ob m last ∧ Below w.heap.size w w' := by
  obtain ⟨xi, xa, xc, xv, xt⟩ := x
  have e1 : xi = i := congrArg (fun c => c.1) hc
  have e2 : xv = vs := congrArg (fun c => c.2.1) hc
  have e3 : xt = t := congrArg (fun c => c.2.2) hc
  subst e1 e2 e3 hn
  exact (get_some h.a id hg).mono fun _ _ ⟨a, c, h1, h2, h3⟩ => ⟨a, c, h1, h2, h.stay h3, h3⟩
theorem c_get_none (h : LsW B w0 w lb ob m last) (id : Int) (hg : getL m id = none) :
    Calls Try.prog 9 #[.pointer (some ⟨lb, 0, none⟩), .int .i64 id] w fun e w' => e = .returned (.tuple #[.agg #[.int .i64 0, .slice none 0 0, .int .i64 0], .int .i64 22]) ∧ LsW B w0 w' lb ob m last ∧ Below w.heap.size w w' :=
  (get_none h.a id hg).mono fun _ _ ⟨h1, h2⟩ => ⟨h1, h.stay h2, h2⟩

theorem rdI_new {cs : Array Value} {t : TypeId} {vs : List Int} (hc : cs = (vs.map (fun k => Value.int .i64 k)).toArray) : RdI (w.alloc (.cells cs t)) (.slice (some ⟨w.heap.size, 0, none⟩) vs.length vs.length) vs := by
  refine ⟨_, _, rfl, .inr ⟨w.heap.size, 0, rfl, by simp, fun i hi => ?_⟩⟩
  subst hc
  simp [go_sem, hi]
theorem RdI.drewN {x : Value} {l : List Int} (h : RdI w x l) (k : Nat) : RdI (w.drewN k) x l := h
theorem drewN_below (w : World) (k : Nat) : Below w.heap.size w (w.drewN k) := ⟨rfl, rfl, rfl, Nat.le_refl _, fun _ _ => rfl⟩
theorem leqV_refl (a : List Int) : leqV a a := ⟨rfl, fun i _ _ => Int.le_refl _⟩
set_option maxHeartbeats 1000000 in
theorem same_any {x y : Value} {a : List Int} (hx : RdI w x a) (hy : RdI w y a) (hl : a.length ≤ 1000000) :
    Calls Try.prog 15 #[x, y] w fun e w' => e = .returned (.bool true) ∧ Below w.heap.size w w' := by
  have h1 := leq_any hx hy (leqV_refl a) hl
  have h2 : ∀ k, Calls Try.prog 12 #[y, x] (w.drewN k) fun e w' => e = .returned (.bool true) ∧ ∃ k2, w' = (w.drewN k).drewN k2 := fun k => leq_any (hy.drewN k) (hx.drewN k) (leqV_refl a) hl
  obtain ⟨xa, xc, rfl, -⟩ := hx
  obtain ⟨ya, yc, rfl, -⟩ := hy
  obtain ⟨n, hn⟩ : ∃ n, a.length = n := ⟨_, rfl⟩
  rw [hn] at h1 h2 ⊢
  clear hn hl
  go_enter Try.func15, Try.ntmps15
  go_wp2_with (first
    | (go_at_call 12; with_reducible refine (h2 k).mono ?_; rintro e v2 ⟨rfl, k2, hk2⟩; have hbk : Below (w.drewN k).heap.size (w.drewN k) v2 := (by rw [hk2]; exact drewN_below _ _); have HK := Lib.hid hbk; clear hk2 hbk)
    | (go_at_call 12; go_loud (with_reducible refine h1.mono ?_); rintro e v1 ⟨rfl, k, rfl⟩; have HJ := Lib.hid (drewN_below w k)))
  go_ret
  exact ⟨rfl, HJ.out.trans (HK.out.mono HJ.out.size)⟩

theorem sortZ_sorted {l : List Int} (h : l.Pairwise (· ≤ ·)) : sortZ l = l := List.mergeSort_of_pairwise (h.imp (fun h => by simpa using h))
/-- Where the ids rise: the leases as they lie. -/
theorem sortM_rise (hs : (m.map (·.1)).Pairwise (· < ·)) : sortM m = m.map (·.2) := by
  have hn : (m.map (·.1)).Nodup := hs.imp (fun h => by omega)
  unfold sortM
  rw [sortZ_sorted (hs.imp (fun h => by omega))]
  rw [List.filterMap_map]
  have : ∀ p ∈ m, (getL m ∘ fun x => x.1) p = some p.2 := fun p hp => getL_mem hn hp
  clear hs hn
  have key : ∀ l : Lm, (∀ p ∈ l, (getL m ∘ fun x => x.1) p = some p.2) → l.filterMap (getL m ∘ fun x => x.1) = l.map (fun x => x.2) := by
    intro l
    induction l with
    | nil => intro _; rfl
    | cons p l ih =>
      intro h
      rw [List.filterMap_cons_some (h p List.mem_cons_self), List.map_cons, ih (fun q hq => h q (List.mem_cons_of_mem _ hq))]
  exact key m this

theorem own_one {B : Nat} {a : Option Addr} {c : Nat} {x : Int} (h : Own eInt w B (.slice a 1 c) [x]) : ∃ g, a = some ⟨g, 0, none⟩ ∧ w.cell? ⟨g, 0, none⟩ = some (.int .i64 x) := by
  have h0 := h
  rcases h.2 with ⟨e, e0⟩ | ⟨g, cap', cur, e, hg, hh, hn', hc, hcl, htk⟩
  · simp at e0
  · have e1 := (Value.slice.inj e).1
    have e2 := (Value.slice.inj e).2.2
    subst e1
    exact ⟨g, rfl, h0.cellAt 0 (by simp)⟩
set_option maxRecDepth 100000 in
set_option maxHeartbeats 4000000 in
theorem alive_any (w : World) : Calls Try.prog 6 #[] w fun e w' => e = .returned (.bool true) ∧ Below w.heap.size w w' := by
  go_enter Try.func6, Try.ntmps6
  go_wp2_with (first
    | (go_at_call 15
       have hr5 : RdI (v5.alloc (.cells #[.int .i64 3] 3)) (.slice ma 1 mc) [3] := RdI.below H5.out.1 ((Below.refl _ _).alloc (Nat.le_refl _) _)
       have hr6 : RdI (v5.alloc (.cells #[.int .i64 3] 3)) (.slice (some ⟨v5.heap.size, 0, none⟩) 1 1) [3] := rdI_new (vs := [3]) rfl
       have hb6 := H5.out.2.stay ((Below.refl _ _).alloc (Nat.le_refl _) (.cells #[.int .i64 3] 3))
       go_loud (refine (same_any hr5 hr6 (by simp)).mono ?_); rintro e v6 ⟨rfl, hb⟩; have H6 := Lib.hid (hb6.stay hb); clear hb hb6 hr5 hr6)
    | (go_at_call 11; go_loud (refine (c_meet H4.out.2.2.2 (k := 1) (by omega) (by omega) (fun p hp => by rw [List.mem_singleton.1 hp]; show x2.vs.length = 1; rw [H4.out.2.2.1]; rfl) (l := [3]) (by rw [sortM_rise (by simp)]; show x2.vs = _; exact H4.out.2.2.1) rfl).mono ?_); rintro e v5 ⟨ma, mc, rfl, h5⟩; have H5 := Lib.hid h5; clear h5)
    | (go_at_call 10
       have hs3 : sortM [(1, x1), (2, x2)] = [x1, x2] := sortM_rise (m := [(1, x1), (2, x2)]) (by simp)
       have e1 : x1.till = 10 := congrArg (fun c => c.2.2) H2.out.2.1
       have e2 : x2.till = 15 := congrArg (fun c => c.2.2) H3.out.2
       go_loud (refine (c_exp H3.out.1 10 (l := [1]) (n := 1) (by show expI 10 ((sortM [(1, x1), (2, x2)]).map core) = [1]; rw [hs3]; show expI 10 [core x1, core x2] = [1]; rw [H2.out.2.1, H3.out.2]; rfl) rfl (m' := [(2, x2)]) (by show List.filter _ [(1, x1), (2, x2)] = _; simp [List.filter_cons, e1, e2])).mono ?_); rintro e v4 ⟨ea, ec, rfl, h4, h5⟩
       obtain ⟨g, rfl, hg⟩ := own_one h4
       have H4 := Lib.hid (And.intro trivial (And.intro trivial (And.intro (show x2.vs = [3] from congrArg (fun c => c.2.1) H3.out.2) h5))); clear h4 h5)
    | (go_at_call 8
       have e1 : x1.till = 10 := congrArg (fun c => c.2.2) H2.out.2.1
       have hw := H2.out.1.stay ((Below.refl _ _).alloc (Nat.le_refl _) (.cells #[.int .i64 3] 3))
       go_loud (refine (c_acq hw (by omega) (vs := [3]) rfl (rdX_new H2.out.1.a rfl) (by decide) 10 5 (by decide) (t := 15) (by decide) (i := 2) (by decide) (m' := [(1, x1)]) (by show List.filter _ [(1, x1)] = _; simp [List.filter_cons, e1]) (by simp)).mono ?_); rintro e v3 ⟨rfl, mb3, x2, h3⟩; have H3 := Lib.hid h3; clear h3 hw e1)
    | (go_at_call 8
       have hw := H1.out.stay ((Below.refl _ _).alloc (Nat.le_refl _) (.cells #[.int .i64 5] 3))
       go_loud (refine (c_acq hw (by omega) (vs := [5]) rfl (rdX_new H1.out.a rfl) (by decide) 10 0 (by decide) (t := 10) (by decide) (i := 1) (by decide) (m' := []) rfl (by simp)).mono ?_); rintro e v2 ⟨rfl, mb2, x1, h2, h2c⟩; have H2 := Lib.hid (And.intro h2 (And.intro h2c trivial)); clear h2 h2c hw)
    | (go_at_call 7; refine (c_new (w0 := w) (Below.refl _ _) (Nat.le_refl _)).mono ?_; rintro e v1 ⟨rfl, h1⟩; have H1 := Lib.hid h1; clear h1))
  go_ret
  exact ⟨rfl, H6.out.b⟩

theorem and_in (x : Int) (k : Nat) (hk : k < 4611686018427387904) : 0 ≤ bits .and .i64 x (k : Int) ∧ bits .and .i64 x (k : Int) ≤ (k : Int) := by
  have h1 : (BitVec.ofInt 64 x &&& BitVec.ofInt 64 (k : Int)).toNat ≤ k := by
    rw [BitVec.toNat_and]
    refine Nat.le_trans Nat.and_le_right ?_
    rw [BitVec.toNat_ofInt]
    omega
  have h2 : bits .and .i64 x (k : Int) = IntKind.i64.wrap ((BitVec.ofInt 64 x &&& BitVec.ofInt 64 (k : Int)).toNat : Int) := rfl
  rw [h2, IntWalk.i64_in _ (by omega)]
  omega
end Go.Proofs.Ytmdhegmnfcodbaa
