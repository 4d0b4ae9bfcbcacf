/-
  Lease: one is made.
-/
import Derived.Test.YtmdhegmnfcodbaaLsJ
namespace Go.Proofs.Ytmdhegmnfcodbaa
open Go.RowKit
variable {w w' w0 w1 w2 w3 w4 : World} {mb lb B : Nat} {ob : Option Nat} {m : Lm} {last : Int}

theorem LOk.keyne (h : LOk m last) : ∀ p ∈ m, p.1 ≠ last + 1 := fun p hp e => by have := (h.key p hp).2; omega
theorem LsAt.grow (h : LsAt w lb (some mb) m last) (h1 : Tn (fun q => q = lb) w w1) (c0 : w1.cell? ⟨lb, 0, none⟩ = some (.map (some mb))) (c1 : w1.cell? ⟨lb, 1, none⟩ = some (.int .i64 (last + 1))) (fz : ∀ j, w1.frozen? ⟨lb, j, none⟩ = false)
    (hb : Below w1.heap.size w1 w3) {x : Lv} (ho : Own eVec w3 w1.heap.size x.sl x.vs) (hid : x.id = last + 1) (hv : validB x.vs = true) (hl : last < 1000000) (hm : m.length < 16)
    (h4 : MapL ckZ cvL w4 mb (setL m (last + 1) x)) (ht : Tn (fun q => q = mb) w3 w4) : LsAt w4 lb (some mb) (m ++ [(last + 1, x)]) (last + 1) := by
  have hlm : lb ≠ mb := fun e => h.ne (by rw [e])
  rw [setL_new h.ok.keyne] at h4
  have hlt := h.ltd
  have hz1 := h1.size
  have hzb := hb.size
  have hmb : mb < w.heap.size := h.mp.lt rfl
  refine ⟨ht.cell ((hb.cell (p := ⟨lb, 0, none⟩) (by show lb < _; omega)).trans c0) hlm, ht.cell ((hb.cell (p := ⟨lb, 1, none⟩) (by show lb < _; omega)).trans c1) hlm, h4, fun j => ?_, fun p hp => ?_, ⟨fun p hp => ?_, fun p hp => ?_, fun p hp => ?_, ?_, ?_⟩, fun e => hlm (Option.some.inj e).symm⟩
  · exact (ht.frozen (p := ⟨lb, j, none⟩) (by show lb < _; omega) hlm).trans ((hb.frozen (p := ⟨lb, j, none⟩) (by show lb < _; omega)).trans (fz j))
  · rcases List.mem_append.1 hp with hp | hp
    · exact (((h.rd p hp).tn h1 (fun q _ e => .inl e)).tn (Tn.ofBelow (F := fun _ => False) hb) (fun _ _ e => e.elim)).tn ht (fun q _ e => .inr (by rw [e]))
    · rw [List.mem_singleton.1 hp]
      have ho2 : Own eVec w4 w1.heap.size x.sl x.vs := ht.row ho (fun q hq e => by have := (ho.lt q hq).1; omega)
      rcases ho2.2 with ⟨e, e0⟩ | ⟨g, cap', cur, e, hg, hh, hn', hc, hcl, htk⟩
      · exact .inl (List.eq_nil_of_length_eq_zero e0)
      · have e1 := (Value.slice.inj e).1
        refine .inr ⟨g, 0, e1, ?_, (Array.getElem?_eq_some_iff.1 hh).1, fun i hi => ?_⟩
        · rintro (e2 | e2)
          · omega
          · have := Option.some.inj e2; omega
        · have e5 := rdI_own ho2
          obtain ⟨a, c, e6, e7⟩ := e5
          injection e6 with e8 e9 e10
          rcases e7 with e7 | ⟨b, off, e7, _, e11⟩
          · exact absurd hi (by show ¬ i < x.vs.length; rw [e7]; simp)
          · have e12 : (some (⟨g, 0, none⟩ : Addr)) = some ⟨b, off, none⟩ := by rw [← e1, e8, e7]
            injection e12 with e12
            injection e12 with e13 e14
            have e15 := e11 i hi
            rw [← e13, ← e14] at e15
            exact e15
  · rcases List.mem_append.1 hp with hp | hp
    · exact h.ok.id p hp
    · rw [List.mem_singleton.1 hp]; exact hid
  · have := h.ok.last
    rcases List.mem_append.1 hp with hp | hp
    · have := h.ok.key p hp; omega
    · rw [List.mem_singleton.1 hp]; show 1 ≤ last + 1 ∧ last + 1 ≤ last + 1; omega
  · rcases List.mem_append.1 hp with hp | hp
    · exact h.ok.vec p hp
    · rw [List.mem_singleton.1 hp]; exact hv
  · have := h.ok.last; omega
  · rw [List.length_append, List.length_singleton]; omega

theorem live_app (now : Int) (a b : Lm) : live now (a ++ b) = live now a ++ live now b := List.filter_append ..
theorem live_len (now : Int) (m : Lm) : (live now m).length ≤ m.length := List.length_filter_le _ _

theorem acquire_arg1 (lb : Nat) {x : Value} {vs : List Int} (h : RdI w x vs) (hv : validB vs = false) (ttl now : Int) : Calls Try.prog 8 #[.pointer (some ⟨lb, 0, none⟩), x, .int .i64 ttl, .int .i64 now] w fun e w' => e = .returned (.tuple #[.int .i64 0, .int .i64 1]) ∧ w = w' := by
  have hV := valid_any h
  rw [hv] at hV
  obtain ⟨a, c, rfl, -⟩ := h
  clear hv
  go_enter Try.func8, Try.ntmps8
  go_wp2_with (go_at_call 19; refine hV.mono ?_; rintro e v1 ⟨rfl, rfl⟩)
  go_ret2
  exact ⟨rfl, rfl⟩
theorem acquire_arg2 (lb : Nat) {x : Value} {vs : List Int} (h : RdI w x vs) (hv : validB vs = true) (ttl now : Int) (hr : rightB ttl now = false) : Calls Try.prog 8 #[.pointer (some ⟨lb, 0, none⟩), x, .int .i64 ttl, .int .i64 now] w fun e w' => e = .returned (.tuple #[.int .i64 0, .int .i64 1]) ∧ w = w' := by
  have hV := valid_any h
  rw [hv] at hV
  have hR := right_any ttl now
  rw [hr] at hR
  obtain ⟨a, c, rfl, -⟩ := h
  clear hv hr
  go_enter Try.func8, Try.ntmps8
  go_wp2_with (first
    | (go_at_call 20; refine (hR _).mono ?_; rintro e v2 ⟨rfl, rfl⟩)
    | (go_at_call 19; refine hV.mono ?_; rintro e v1 ⟨rfl, rfl⟩))
  go_ret2
  exact ⟨rfl, rfl⟩

/-- What Acquire leaves where there is room. -/
def AcqOk (w w' : World) (lb : Nat) (ob : Option Nat) (m : Lm) (last now : Int) (vs : List Int) (t : Int) : Prop :=
  ∃ mb x, LsAt w' lb (some mb) (live now m ++ [(last + 1, x)]) (last + 1) ∧ core x = (last + 1, vs, t) ∧ (ob = some mb ∨ w.heap.size ≤ mb) ∧ Tn (foot lb ob) w w' ∧ ∀ q off, x.sa = some ⟨q, off, none⟩ → w.heap.size ≤ q

theorem qMap (w : World) (r : Option Nat) : (binOp .eql tMap (.map r) (.map none)).run Try.prog w = .ok (.bool r.isNone) w := run_eql_map_nil w _ _ _ r und_map

set_option maxRecDepth 100000 in
set_option maxHeartbeats 4000000 in
theorem acquire_go_some (h : LsAt w lb (some mb) m last) (hl : last < 1000000) {xa : Option Addr} {xc : Nat} {vs : List Int} (hx : RdX (foot lb (some mb)) w ⟨0, xa, xc, vs, 0⟩) (hv : validB vs = true) (ttl now : Int) (hr : rightB ttl now = true) :
    Calls Try.prog 8 #[.pointer (some ⟨lb, 0, none⟩), .slice xa vs.length xc, .int .i64 ttl, .int .i64 now] w fun e w' =>
      (16 ≤ (live now m).length ∧ e = .returned (.tuple #[.int .i64 0, .int .i64 24]) ∧ Below w.heap.size w w') ∨
      ((live now m).length < 16 ∧ e = .returned (.tuple #[.int .i64 (last + 1), .int .i64 0]) ∧ AcqOk w w' lb (some mb) m last now vs (tillZ ttl now)) := by
  have hV := valid_any hx.rd
  rw [hv] at hV
  have hR := right_any ttl now
  rw [hr] at hR
  have hTl := till_any ttl now hr
  have hq := qMap
  have hmk : ∀ w, (Instr.makeMap 51 none).run Try.prog w = .ok (.map (some w.heap.size)) (w.alloc (.map #[] 0)) := fun _ => rfl
  have hE := exp_live h.ok h.nodup now
  have c0 := h.c0
  have hob : ∀ q, (some mb) = some q → q < w.heap.size := fun q hq => h.mp.lt hq
  have hlm : m.length ≤ 16 := h.ok.few
  have hl0 : 0 ≤ last := h.ok.last.1
  obtain ⟨tz, htz⟩ : ∃ tz, tillZ ttl now = tz := ⟨_, rfl⟩
  simp only [htz] at hTl ⊢
  obtain ⟨nv, hnv⟩ : ∃ nv, vs.length = nv := ⟨_, rfl⟩
  have hV2 : Calls Try.prog 19 #[.slice xa nv xc] w fun e w' => e = .returned (.bool true) ∧ w = w' := by rw [← hnv]; exact hV
  have hnv8 : vs.length ≤ 8 := by
    simp only [validB, Bool.and_eq_true, decide_eq_true_eq] at hv
    exact hv.1.2
  rw [hnv]
  have hw0 := h.ltd
  have H := Lib.hid (And.intro h (And.intro hx (And.intro hE (And.intro hnv (And.intro hv (And.intro hnv8 hob))))))
  clear hV h hx hr hv hE htz hnv hnv8 hob
  go_enter Try.func8, Try.ntmps8
  go_wp2_with (first
    | (at_range; refine wpl_range rfl _ rfl und_map rfl (show MapV ckZ cvL _ (some mb) m from H.out.1.mp) ?_; intro w1 hr hb1 hz1; have H1 := Lib.hid (And.intro hr hb1); clear hr hb1)
    | (go_at_call 20; refine (hR _).mono ?_; rintro e v2 ⟨rfl, rfl⟩)
    | (go_at_call 19; refine hV2.mono ?_; rintro e v1 ⟨rfl, rfl⟩))
  clear hV2 hR
  go_frame
  go_loopw [10, 12] (fun nv _ wr => ∃ todo acc, RngV ckZ cvL wr (some mb) w.heap.size m todo ∧ (live now m).length = acc + (live now todo).length ∧ nv = .int .i64 ((acc : Nat) : Int) ∧ Below w.heap.size w wr) (fun _ _ wr => leftN wr (some mb) w.heap.size)
  case atStart => exact ⟨m, 0, H1.out.1, by omega, rfl, H1.out.2⟩
  case round =>
    obtain ⟨todo, acc, hr, hacc, rfl, hb⟩ := hrel
    have hal : acc ≤ 16 := by have := live_len now m; omega
    have HR := Lib.hid (And.intro hr (And.intro hacc hb))
    have hrl := hr.lt
    clear hr hacc
    go_wp2_with (at_next; refine wpl_next rfl _ rfl rfl HR.out.1 ?_ ?_)
    · intro h0
      have HE := Lib.hid h0
      clear h0
      have hacc : (live now m).length = acc := by have h5 := HR.out.2.1; rw [HE.out] at h5; exact h5
      have hLr := H.out.1.below hb
      have d0 := (hb.cell (p := ⟨lb, 0, none⟩) hw0).trans c0
      clear HE
      by_cases hfull : 16 ≤ acc
      · have r1 : (16 : Int) ≤ (acc : Int) := by omega
        have HA := Lib.hid hacc
        clear hacc hLr hb
        go_wp2
        go_ret2
        exact .inl ⟨by rw [HA.out]; exact hfull, rfl, HR.out.2.2⟩
      · have r1 : ¬ (16 : Int) ≤ (acc : Int) := by omega
        have hX := expire_any hLr now
        rw [H.out.2.2.1] at hX
        have HA := Lib.hid (And.intro hacc hb)
        clear hacc hLr hb
        go_wp2_with (first
          | (go_at_call 10; go_loud (refine hX.mono ?_); rintro e w4 ⟨xa4, xn4, xc4, rfl, _, _, hl4, ht4⟩
             have f0 := hl4.c0
             have f1 := hl4.c1
             have ff := hl4.fz
             have hw4 : lb < w4.heap.size := hl4.ltd
             skip
             have H4 := Lib.hid (And.intro hl4 (And.intro ht4 trivial)); clear hl4 ht4))
        obtain ⟨W5, hW5⟩ : ∃ W5, w4.setCell ⟨lb, 1, none⟩ (.int .i64 (last + 1)) = W5 := ⟨_, rfl⟩
        rw [hW5]
        have g0 : W5.drew.cell? ⟨lb, 0, none⟩ = some (.map (some mb)) := by rw [← hW5]; exact cell_set f0 (by omega)
        have g1 : W5.drew.cell? ⟨lb, 1, none⟩ = some (.int .i64 (last + 1)) := by rw [← hW5]; exact World.cell?_setCell_same _ _ _ f1
        have gf : ∀ j, W5.drew.frozen? ⟨lb, j, none⟩ = false := fun j => by rw [← hW5]; simp [go_sem, ff]
        have t5 : Tn (fun q => q = lb) w4 W5 := by rw [← hW5]; exact Tn.setCell _ _ _ rfl
        have H5 := Lib.hid (And.intro H4.out.1 (And.intro t5 t5))
        clear t5 hW5 f0 f1 ff
        have hx5 : RdI W5.drew (.slice xa nv xc) vs := by
          rw [← H.out.2.2.2.1]
          exact (((H.out.2.1.tn (Tn.ofBelow (F := fun _ => False) HA.out.2) (fun _ _ e => e.elim)).tn H4.out.2.1 (fun q _ e => .inr e)).tn (H5.out.2.1.trans (Tn.drew (F := fun q => q = lb) W5)) (fun q _ e => .inl e)).rd
        have hC := clone_any hx5 (by have := H.out.2.2.2.2.2.1; omega)
        rw [H.out.2.2.2.1] at hC
        have HC := Lib.hid hC
        clear hC hx5
        refine wp_region_K (fun w' => w'.cell? ⟨lb, 0, none⟩ = some (.map (some mb)) ∧ w'.cell? ⟨lb, 1, none⟩ = some (.int .i64 (last + 1))) 18 19 (by kernel_rfl) (by kernel_rfl) ⟨g0, g1⟩ (fun hH => ?_)
        refine wpAnyK_take (i := 0) [18] (v := ?v1) rfl (by kernel_rfl) (by kernel_rfl) (by kernel_rfl) (by kernel_rfl) (fun _ _ _ h => h) (Or.inl ⟨by rfl, ?hy1⟩) hH ?rest1
        case hy1 => (intro w hSw; (try dsimp only at hSw); go_simp; with_reducible rfl)
        try simp only [Act.put, List.setIfInBounds_toArray, List.set_cons_zero, List.set_cons_succ]
        refine wpAnyK_take (i := 1) [18] (v := ?v2) rfl (by kernel_rfl) (by kernel_rfl) (by kernel_rfl) (by kernel_rfl) (fun _ _ _ h => h) (Or.inl ⟨by rfl, ?hy2⟩) hH ?rest2
        case hy2 => (intro w hSw; (try dsimp only at hSw); go_simp; with_reducible rfl)
        try simp only [Act.put, List.setIfInBounds_toArray, List.set_cons_zero, List.set_cons_succ]
        refine wpAnyK_take (i := 2) [18] (v := ?v3) rfl (by kernel_rfl) (by kernel_rfl) (by kernel_rfl) (by kernel_rfl) (fun _ _ _ h => h) (Or.inl ⟨by rfl, ?hy3⟩) hH ?rest3
        case hy3 => (intro w hSw; (try dsimp only at hSw); go_simp; with_reducible rfl)
        try simp only [Act.put, List.setIfInBounds_toArray, List.set_cons_zero, List.set_cons_succ]
        refine wpAnyK_take (i := 3) [18] (v := ?v4) rfl (by kernel_rfl) (by kernel_rfl) (by kernel_rfl) (by kernel_rfl) (fun _ _ _ h => h) (Or.inl ⟨by rfl, ?hy4⟩) hH ?rest4
        case hy4 => (intro w hSw; (try dsimp only at hSw); go_simp; with_reducible rfl)
        try simp only [Act.put, List.setIfInBounds_toArray, List.set_cons_zero, List.set_cons_succ]
        refine wpAnyK_take (i := 4) [18] (v := ?v5) rfl (by kernel_rfl) (by kernel_rfl) (by kernel_rfl) (by kernel_rfl) (fun _ _ _ h => h) (Or.inl ⟨by rfl, ?hy5⟩) hH ?rest5
        case hy5 => (intro w hSw; (try dsimp only at hSw); go_simp; with_reducible rfl)
        try simp only [Act.put, List.setIfInBounds_toArray, List.set_cons_zero, List.set_cons_succ]
        refine wpAnyK_take (i := 5) [18] (v := ?v6) rfl (by kernel_rfl) (by kernel_rfl) (by kernel_rfl) (by kernel_rfl) (fun _ _ _ h => h) (Or.inl ⟨by rfl, ?hy6⟩) hH ?rest6
        case hy6 => (intro w hSw; (try dsimp only at hSw); go_simp; with_reducible rfl)
        try simp only [Act.put, List.setIfInBounds_toArray, List.set_cons_zero, List.set_cons_succ]
        refine wpAnyK_take (i := 6) [18] (v := ?v7) rfl (by kernel_rfl) (by kernel_rfl) (by kernel_rfl) (by kernel_rfl) (fun _ _ _ h => h) (Or.inl ⟨by rfl, ?hy7⟩) hH ?rest7
        case hy7 => (intro w hSw; (try dsimp only at hSw); go_simp; with_reducible rfl)
        try simp only [Act.put, List.setIfInBounds_toArray, List.set_cons_zero, List.set_cons_succ]
        refine wpAnyK_take (i := 7) [18] (v := ?v8) rfl (by kernel_rfl) (by kernel_rfl) (by kernel_rfl) (by kernel_rfl) (fun _ _ _ h => h) (Or.inl ⟨by rfl, ?hy8⟩) hH ?rest8
        case hy8 => (intro w hSw; (try dsimp only at hSw); go_simp; with_reducible rfl)
        try simp only [Act.put, List.setIfInBounds_toArray, List.set_cons_zero, List.set_cons_succ]
        refine wpAnyK_take (i := 8) [18] (v := ?v9) rfl (by kernel_rfl) (by kernel_rfl) (by kernel_rfl) (by kernel_rfl) (fun _ _ _ h => h) (Or.inl ⟨by rfl, ?hy9⟩) hH ?rest9
        case hy9 => (intro w hSw; (try dsimp only at hSw); go_simp; with_reducible rfl)
        try simp only [Act.put, List.setIfInBounds_toArray, List.set_cons_zero, List.set_cons_succ]
        refine wpAnyK_take (i := 9) [18] (v := ?v10) rfl (by kernel_rfl) (by kernel_rfl) (by kernel_rfl) (by kernel_rfl) (fun _ _ _ h => h) (Or.inl ⟨by rfl, ?hy10⟩) hH ?rest10
        case hy10 => (intro w hSw; (try dsimp only at hSw); go_simp; with_reducible rfl)
        try simp only [Act.put, List.setIfInBounds_toArray, List.set_cons_zero, List.set_cons_succ]
        refine wpAnyK_take (i := 10) [18] (v := ?v11) rfl (by kernel_rfl) (by kernel_rfl) (by kernel_rfl) (by kernel_rfl) (fun _ _ _ h => h) (Or.inl ⟨by rfl, ?hy11⟩) hH ?rest11
        case hy11 => (intro w hSw; (try dsimp only at hSw); go_simp; with_reducible rfl)
        try simp only [Act.put, List.setIfInBounds_toArray, List.set_cons_zero, List.set_cons_succ]
        refine wpAnyK_take (i := 11) [18] (v := ?v12) rfl (by kernel_rfl) (by kernel_rfl) (by kernel_rfl) (by kernel_rfl) (fun _ _ _ h => h) (Or.inl ⟨by rfl, ?hy12⟩) hH ?rest12
        case hy12 => (intro w hSw; (try dsimp only at hSw); go_simp; with_reducible rfl)
        try simp only [Act.put, List.setIfInBounds_toArray, List.set_cons_zero, List.set_cons_succ]
        refine wpAnyK_take (i := 12) [18] (v := ?v13) rfl (by kernel_rfl) (by kernel_rfl) (by kernel_rfl) (by kernel_rfl) (fun _ _ _ h => h) (Or.inl ⟨by rfl, ?hy13⟩) hH ?rest13
        case hy13 => (intro w hSw; (try dsimp only at hSw); go_simp; with_reducible rfl)
        try simp only [Act.put, List.setIfInBounds_toArray, List.set_cons_zero, List.set_cons_succ]
        refine wpAnyK_take (i := 14) [18] (v := ?v14) rfl (by kernel_rfl) (by kernel_rfl) (by kernel_rfl) (by kernel_rfl) (fun _ _ _ h => h) (Or.inl ⟨by rfl, ?hy14⟩) hH ?rest14
        case hy14 => (intro w hSw; (try dsimp only at hSw); go_simp; with_reducible rfl)
        try simp only [Act.put, List.setIfInBounds_toArray, List.set_cons_zero, List.set_cons_succ]
        refine wpAnyK_take (i := 15) [18] (v := ?v15) rfl (by kernel_rfl) (by kernel_rfl) (by kernel_rfl) (by kernel_rfl) (fun _ _ _ h => h) (Or.inl ⟨by rfl, ?hy15⟩) hH ?rest15
        case hy15 => (intro w hSw; (try dsimp only at hSw); go_simp; with_reducible rfl)
        try simp only [Act.put, List.setIfInBounds_toArray, List.set_cons_zero, List.set_cons_succ]
        refine wpAnyK_one (i := 13) (by kernel_rfl) rfl (fun K hK => ?_) (by kernel_rfl)
        go_simp
        go_at_call 22
        refine HC.out.mono ?_
        rintro e w6 ⟨ca, cc, rfl, hco, hcb⟩
        have hW5z : W5.drew.heap.size = W5.heap.size := rfl
        have j0 : w6.cell? ⟨lb, 0, none⟩ = some (.map (some mb)) := (hcb.cell (p := ⟨lb, 0, none⟩) (World.block_lt_of_cell? _ _ g0)).trans g0
        have j1 : w6.cell? ⟨lb, 1, none⟩ = some (.int .i64 (last + 1)) := (hcb.cell (p := ⟨lb, 1, none⟩) (World.block_lt_of_cell? _ _ g1)).trans g1
        have H6 := Lib.hid (And.intro hco hcb)
        clear hco hcb
        refine hK.out _ _ ⟨j0, j1⟩ (fun hH => ?_)
        clear hK K
        try simp only [Act.put, List.setIfInBounds_toArray, List.set_cons_zero, List.set_cons_succ]
        refine wpAnyK_one (i := 16) (by kernel_rfl) rfl (fun K hK => ?_) (by kernel_rfl)
        go_simp
        go_at_call 23
        refine (hTl _).mono ?_
        rintro e v7 ⟨rfl, rfl⟩
        refine hK.out _ _ ⟨j0, j1⟩ (fun hH => ?_)
        clear hK K
        try simp only [Act.put, List.setIfInBounds_toArray, List.set_cons_zero, List.set_cons_succ]
        refine wpAnyK_take (i := 17) [18] (v := ?v16) rfl (by kernel_rfl) (by kernel_rfl) (by kernel_rfl) (by kernel_rfl) (fun _ _ _ h => h) (Or.inl ⟨by rfl, ?hy16⟩) hH ?rest16
        case hy16 => (intro w hSw; (try dsimp only at hSw); go_simp; with_reducible rfl)
        try simp only [Act.put, List.setIfInBounds_toArray, List.set_cons_zero, List.set_cons_succ]
        refine wpAnyK_last (by kernel_rfl) rfl (fun K hK => ?_) (by kernel_rfl)
        have hm6 : MapL ckZ cvL w6 mb (live now m) := (H5.out.1.mp.tn H5.out.2.2 (fun b hb e => H5.out.1.ne (by rw [hb, e]))).below ((Below.refl _ _).drew.trans H6.out.2)
        refine step_put rfl _ _ _ rfl keyZ und_map rfl hm6 (last + 1) rfl ⟨last + 1, ca, cc, vs, tz⟩ (by show _ = Value.agg #[.int .i64 (last + 1), .slice ca vs.length cc, .int .i64 tz]; rw [H.out.2.2.2.1]; rfl) ?_
        intro w8 hm8 ht8 hz8
        refine hK.out _ _ (wpAnyK_done (by kernel_rfl) ?_ _)
        clear hK K hH
        have hlen : (live now m).length < 16 := by rw [HA.out.1]; omega
        have hl8 : LsAt w8 lb (some mb) (live now m ++ [(last + 1, ⟨last + 1, ca, cc, vs, tz⟩)]) (last + 1) :=
          H5.out.1.grow (w1 := W5.drew) (H5.out.2.2.trans (Tn.drew (F := fun q => q = lb) W5)) g0 g1 (fun j => gf j) H6.out.2 (x := ⟨last + 1, ca, cc, vs, tz⟩) (by show Own eVec _ _ (.slice ca vs.length cc) vs; rw [H.out.2.2.2.1]; exact H6.out.1) rfl H.out.2.2.2.2.1 hl hlen hm8 ht8
        have T8 : Tn (foot lb (some mb)) w w8 := ((((Tn.ofBelow HA.out.2).trans (H4.out.2.1.mono (fun q e => .inr e))).trans ((H5.out.2.1.trans (Tn.drew (F := fun q => q = lb) W5)).mono (fun q e => .inl e))).trans (Tn.ofBelow H6.out.2)).andThen ht8 (fun q e => .inl (.inr (by rw [e])))
        have u1 := hl8.c1
        have HF := Lib.hid (And.intro hl8 (And.intro T8 hlen))
        clear hl8 T8 hm8 ht8 hz8 hm6 j0 j1 g0 g1 gf
        go_wp2_with fail
        go_ret2
        exact .inr ⟨HF.out.2.2, rfl, mb, _, HF.out.1, rfl, .inl rfl, HF.out.2.1, fun q off e => Nat.le_trans HA.out.2.size (Nat.le_trans H4.out.2.1.size (Nat.le_trans H5.out.2.1.size (H6.out.1.lt q (by rw [show ca = some ⟨q, off, none⟩ from e]; rfl)).1))⟩
    · intro pre k x post w2 htd hr2 ht2 hz2 hen
      obtain ⟨xi, ya, yc, xv, xt⟩ := x
      obtain ⟨yn, hyn⟩ : ∃ yn, xv.length = yn := ⟨_, rfl⟩
      have hcv : cvL ⟨xi, ya, yc, xv, xt⟩ = .agg #[.int .i64 xi, .slice ya yn yc, .int .i64 xt] := by rw [← hyn]; rfl
      rw [hcv] at hen ⊢
      simp only [ckZ] at hen ⊢
      have hsz : (live now todo).length = (if now < xt then 1 else 0) + (live now (pre ++ post)).length := by
        rw [htd, live_app, live_app]
        show (_ ++ List.filter _ (_ :: post)).length = _
        rw [List.filter_cons]
        by_cases hc : now < xt
        · rw [if_pos (by simpa using hc), if_pos hc, List.length_append, List.length_cons, List.length_append]; show _ + (_ + 1) = _; unfold live; omega
        · rw [if_neg (by simpa using hc), if_neg hc, List.length_append, List.length_append]; unfold live; omega
      have hb2 : Below w.heap.size w w2 := HR.out.2.2.trans ((ht2.below HR.out.2.2.size (fun k hk => by omega)))
      obtain ⟨W3, hW3⟩ : ∃ W3, w2.alloc (.cells #[.int .i64 xi, .slice ya yn yc, .int .i64 xt] 35) = W3 := ⟨_, rfl⟩
      have q0 : W3.cell? ⟨wr.heap.size, 0, none⟩ = some (.int .i64 xi) := by rw [← hW3, ← hz2]; simp [go_sem]
      have q1 : W3.cell? ⟨wr.heap.size, 1, none⟩ = some (.slice ya yn yc) := by rw [← hW3, ← hz2]; simp [go_sem]
      have q2 : W3.cell? ⟨wr.heap.size, 2, none⟩ = some (.int .i64 xt) := by rw [← hW3, ← hz2]; simp [go_sem]
      have hb3 : Below w2.heap.size w2 W3 := by rw [← hW3]; exact (Below.refl _ _).alloc (Nat.le_refl _) _
      have ho := over_any xi ya yn yc xt now
      have H2 := Lib.hid (And.intro hr2 (And.intro hsz (And.intro hb2 (And.intro htd hb3))))
      clear hr2 hsz hb2 htd ht2 hyn hcv hb3 hb
      by_cases hov : xt ≤ now
      · have t1 : decide (xt ≤ now) = true := decide_eq_true hov
        rw [t1] at ho
        clear t1
        go_wp2_with (go_at_call 21; refine (ho _).mono ?_; rintro e w5 ⟨rfl, hb5⟩; have H5 := Lib.hid (H2.out.2.2.2.2.trans (hb5.mono H2.out.2.2.2.2.size)); clear hb5)
        go_roundw
        case rel =>
          refine ⟨pre ++ post, acc, H2.out.1.tn (Tn.ofBelow (F := fun _ => False) H5.out) (fun _ _ e => e) (fun e => e), ?_, rfl, H2.out.2.2.1.trans (H5.out.mono H2.out.2.2.1.size)⟩
          have := HR.out.2.1
          have h7 := H2.out.2.1
          rw [if_neg (by omega)] at h7
          omega
        case measure =>
          have h7 := H2.out.1.tn (Tn.ofBelow (F := fun _ => False) H5.out) (fun _ _ e => e) (fun e => e)
          rw [h7.left, HR.out.1.left, H2.out.2.2.2.1]
          simp
      · have t1 : decide (xt ≤ now) = false := decide_eq_false hov
        rw [t1] at ho
        clear t1
        go_wp2_with (go_at_call 21; refine (ho _).mono ?_; rintro e w5 ⟨rfl, hb5⟩; have H5 := Lib.hid (H2.out.2.2.2.2.trans (hb5.mono H2.out.2.2.2.2.size)); clear hb5)
        go_roundw
        case rel =>
          refine ⟨pre ++ post, acc + 1, H2.out.1.tn (Tn.ofBelow (F := fun _ => False) H5.out) (fun _ _ e => e) (fun e => e), ?_, by go_num, H2.out.2.2.1.trans (H5.out.mono H2.out.2.2.1.size)⟩
          have := HR.out.2.1
          have h7 := H2.out.2.1
          rw [if_pos (by omega)] at h7
          omega
        case measure =>
          have h7 := H2.out.1.tn (Tn.ofBelow (F := fun _ => False) H5.out) (fun _ _ e => e) (fun e => e)
          rw [h7.left, HR.out.1.left, H2.out.2.2.2.1]
          simp

set_option maxRecDepth 100000 in
set_option maxHeartbeats 4000000 in
theorem acquire_go_none (h : LsAt w lb none m last) (hl : last < 1000000) {xa : Option Addr} {xc : Nat} {vs : List Int} (hx : RdX (foot lb none) w ⟨0, xa, xc, vs, 0⟩) (hv : validB vs = true) (ttl now : Int) (hr : rightB ttl now = true) :
    Calls Try.prog 8 #[.pointer (some ⟨lb, 0, none⟩), .slice xa vs.length xc, .int .i64 ttl, .int .i64 now] w fun e w' =>
      (16 ≤ (live now m).length ∧ e = .returned (.tuple #[.int .i64 0, .int .i64 24]) ∧ Below w.heap.size w w') ∨
      ((live now m).length < 16 ∧ e = .returned (.tuple #[.int .i64 (last + 1), .int .i64 0]) ∧ AcqOk w w' lb none m last now vs (tillZ ttl now)) := by
  have hV := valid_any hx.rd
  rw [hv] at hV
  have hR := right_any ttl now
  rw [hr] at hR
  have hTl := till_any ttl now hr
  have hq := qMap
  have hmk : ∀ w, (Instr.makeMap 51 none).run Try.prog w = .ok (.map (some w.heap.size)) (w.alloc (.map #[] 0)) := fun _ => rfl
  have hE := exp_live h.ok h.nodup now
  have c0 := h.c0
  have hob : ∀ q, none = some q → q < w.heap.size := fun q hq => h.mp.lt hq
  have hlm : m.length ≤ 16 := h.ok.few
  have hl0 : 0 ≤ last := h.ok.last.1
  obtain ⟨tz, htz⟩ : ∃ tz, tillZ ttl now = tz := ⟨_, rfl⟩
  simp only [htz] at hTl ⊢
  obtain ⟨nv, hnv⟩ : ∃ nv, vs.length = nv := ⟨_, rfl⟩
  have hV2 : Calls Try.prog 19 #[.slice xa nv xc] w fun e w' => e = .returned (.bool true) ∧ w = w' := by rw [← hnv]; exact hV
  have hnv8 : vs.length ≤ 8 := by
    simp only [validB, Bool.and_eq_true, decide_eq_true_eq] at hv
    exact hv.1.2
  rw [hnv]
  have hw0 := h.ltd
  have H := Lib.hid (And.intro h (And.intro hx (And.intro hE (And.intro hnv (And.intro hv (And.intro hnv8 hob))))))
  clear hV h hx hr hv hE htz hnv hnv8 hob
  go_enter Try.func8, Try.ntmps8
  go_wp2_with (first
    | (at_range; refine wpl_range rfl _ rfl und_map rfl (show MapV ckZ cvL _ none m from H.out.1.mp) ?_; intro w1 hr hb1 hz1; have H1 := Lib.hid (And.intro hr hb1); clear hr hb1)
    | (go_at_call 20; refine (hR _).mono ?_; rintro e v2 ⟨rfl, rfl⟩)
    | (go_at_call 19; refine hV2.mono ?_; rintro e v1 ⟨rfl, rfl⟩))
  clear hV2 hR
  go_frame
  go_loopw [10, 12] (fun nv _ wr => ∃ todo acc, RngV ckZ cvL wr none w.heap.size m todo ∧ (live now m).length = acc + (live now todo).length ∧ nv = .int .i64 ((acc : Nat) : Int) ∧ Below w.heap.size w wr) (fun _ _ wr => leftN wr none w.heap.size)
  case atStart => exact ⟨m, 0, H1.out.1, by omega, rfl, H1.out.2⟩
  case round =>
    obtain ⟨todo, acc, hr, hacc, rfl, hb⟩ := hrel
    have hal : acc ≤ 16 := by have := live_len now m; omega
    have HR := Lib.hid (And.intro hr (And.intro hacc hb))
    have hrl := hr.lt
    clear hr hacc
    go_wp2_with (at_next; refine wpl_next rfl _ rfl rfl HR.out.1 ?_ ?_)
    · intro h0
      have HE := Lib.hid h0
      clear h0
      have hacc : (live now m).length = acc := by have h5 := HR.out.2.1; rw [HE.out] at h5; exact h5
      have hLr := H.out.1.below hb
      have d0 := (hb.cell (p := ⟨lb, 0, none⟩) hw0).trans c0
      clear HE
      by_cases hfull : 16 ≤ acc
      · have r1 : (16 : Int) ≤ (acc : Int) := by omega
        have HA := Lib.hid hacc
        clear hacc hLr hb
        go_wp2
        go_ret2
        exact .inl ⟨by rw [HA.out]; exact hfull, rfl, HR.out.2.2⟩
      · have r1 : ¬ (16 : Int) ≤ (acc : Int) := by omega
        have hX := expire_any hLr now
        rw [H.out.2.2.1] at hX
        have HA := Lib.hid (And.intro hacc hb)
        clear hacc hLr hb
        go_wp2_with (first
          | (go_at_call 10; go_loud (refine hX.mono ?_); rintro e w4 ⟨xa4, xn4, xc4, rfl, _, _, hl4, ht4⟩
             have f0 := hl4.c0
             have f1 := hl4.c1
             have ff := hl4.fz
             have hw4 : lb < w4.heap.size := hl4.ltd
             have hm0 : m = [] := H.out.1.mp
             obtain ⟨W41, hW41⟩ : ∃ W41, w4.alloc (.map #[] 0) = W41 := ⟨_, rfl⟩
             have a4 : Below w4.heap.size w4 W41 := by rw [← hW41]; exact (Below.refl _ _).alloc (Nat.le_refl _) _
             have a0 : W41.cell? ⟨lb, 0, none⟩ = some (.map none) := (a4.cell (p := ⟨lb, 0, none⟩) hw4).trans f0
             have a1 : W41.cell? ⟨lb, 1, none⟩ = some (.int .i64 last) := (a4.cell (p := ⟨lb, 1, none⟩) hw4).trans f1
             have af : ∀ j, W41.frozen? ⟨lb, j, none⟩ = false := fun j => (a4.frozen (p := ⟨lb, j, none⟩) hw4).trans (ff j)
             obtain ⟨w5, hw5⟩ : ∃ w5, W41.setCell ⟨lb, 0, none⟩ (.map (some w4.heap.size)) = w5 := ⟨_, rfl⟩
             have b0 : w5.cell? ⟨lb, 0, none⟩ = some (.map (some w4.heap.size)) := by rw [← hw5]; exact World.cell?_setCell_same _ _ _ a0
             have b1 : w5.cell? ⟨lb, 1, none⟩ = some (.int .i64 last) := by rw [← hw5]; exact cell_set a1 (by omega)
             have bf : ∀ j, w5.frozen? ⟨lb, j, none⟩ = false := fun j => by rw [← hw5]; simp [go_sem, af]
             have T5 : Tn (fun q => q = lb) W41 w5 := by rw [← hw5]; exact Tn.setCell _ _ _ rfl
             have m5 : MapL ckZ cvL w5 w4.heap.size ([] : Lm) := by
               have h9 : MapL ckZ cvL W41 w4.heap.size ([] : Lm) := by rw [← hW41]; exact MapL.made w4
               exact h9.tn T5 (by omega)
             have l5 : LsAt w5 lb (some w4.heap.size) (live now m) last := by
               subst hm0
               exact ⟨b0, b1, m5, bf, fun p hp => (by cases hp), ⟨fun p hp => (by cases hp), fun p hp => (by cases hp), fun p hp => (by cases hp), hl4.ok.last, by simp [live]⟩, fun e => by have := Option.some.inj e; omega⟩
             have HM := Lib.hid (And.intro l5 (And.intro ((Tn.ofBelow (F := fun q => q = lb) a4).trans T5) trivial))
             clear l5 m5 T5 a4 hm0
             have H4 := Lib.hid (And.intro hl4 (And.intro ht4 trivial)); clear hl4 ht4))
        obtain ⟨W5, hW5⟩ : ∃ W5, w5.setCell ⟨lb, 1, none⟩ (.int .i64 (last + 1)) = W5 := ⟨_, rfl⟩
        rw [hW5]
        have g0 : W5.drew.cell? ⟨lb, 0, none⟩ = some (.map (some w4.heap.size)) := by rw [← hW5]; exact cell_set b0 (by omega)
        have g1 : W5.drew.cell? ⟨lb, 1, none⟩ = some (.int .i64 (last + 1)) := by rw [← hW5]; exact World.cell?_setCell_same _ _ _ b1
        have gf : ∀ j, W5.drew.frozen? ⟨lb, j, none⟩ = false := fun j => by rw [← hW5]; simp [go_sem, bf]
        have t55 : Tn (fun q => q = lb) w5 W5 := by rw [← hW5]; exact Tn.setCell _ _ _ rfl
        have H5 := Lib.hid (And.intro HM.out.1 (And.intro (HM.out.2.1.trans t55) t55))
        clear t55 hW5 f0 f1 ff b0 b1 bf
        have hx5 : RdI W5.drew (.slice xa nv xc) vs := by
          rw [← H.out.2.2.2.1]
          exact (((H.out.2.1.tn (Tn.ofBelow (F := fun _ => False) HA.out.2) (fun _ _ e => e.elim)).tn H4.out.2.1 (fun q _ e => .inr e)).tn (H5.out.2.1.trans (Tn.drew (F := fun q => q = lb) W5)) (fun q _ e => .inl e)).rd
        have hC := clone_any hx5 (by have := H.out.2.2.2.2.2.1; omega)
        rw [H.out.2.2.2.1] at hC
        have HC := Lib.hid hC
        clear hC hx5
        refine wp_region_K (fun w' => w'.cell? ⟨lb, 0, none⟩ = some (.map (some w4.heap.size)) ∧ w'.cell? ⟨lb, 1, none⟩ = some (.int .i64 (last + 1))) 18 19 (by kernel_rfl) (by kernel_rfl) ⟨g0, g1⟩ (fun hH => ?_)
        refine wpAnyK_take (i := 0) [18] (v := ?v17) rfl (by kernel_rfl) (by kernel_rfl) (by kernel_rfl) (by kernel_rfl) (fun _ _ _ h => h) (Or.inl ⟨by rfl, ?hy17⟩) hH ?rest17
        case hy17 => (intro w hSw; (try dsimp only at hSw); go_simp; with_reducible rfl)
        try simp only [Act.put, List.setIfInBounds_toArray, List.set_cons_zero, List.set_cons_succ]
        refine wpAnyK_take (i := 1) [18] (v := ?v18) rfl (by kernel_rfl) (by kernel_rfl) (by kernel_rfl) (by kernel_rfl) (fun _ _ _ h => h) (Or.inl ⟨by rfl, ?hy18⟩) hH ?rest18
        case hy18 => (intro w hSw; (try dsimp only at hSw); go_simp; with_reducible rfl)
        try simp only [Act.put, List.setIfInBounds_toArray, List.set_cons_zero, List.set_cons_succ]
        refine wpAnyK_take (i := 2) [18] (v := ?v19) rfl (by kernel_rfl) (by kernel_rfl) (by kernel_rfl) (by kernel_rfl) (fun _ _ _ h => h) (Or.inl ⟨by rfl, ?hy19⟩) hH ?rest19
        case hy19 => (intro w hSw; (try dsimp only at hSw); go_simp; with_reducible rfl)
        try simp only [Act.put, List.setIfInBounds_toArray, List.set_cons_zero, List.set_cons_succ]
        refine wpAnyK_take (i := 3) [18] (v := ?v20) rfl (by kernel_rfl) (by kernel_rfl) (by kernel_rfl) (by kernel_rfl) (fun _ _ _ h => h) (Or.inl ⟨by rfl, ?hy20⟩) hH ?rest20
        case hy20 => (intro w hSw; (try dsimp only at hSw); go_simp; with_reducible rfl)
        try simp only [Act.put, List.setIfInBounds_toArray, List.set_cons_zero, List.set_cons_succ]
        refine wpAnyK_take (i := 4) [18] (v := ?v21) rfl (by kernel_rfl) (by kernel_rfl) (by kernel_rfl) (by kernel_rfl) (fun _ _ _ h => h) (Or.inl ⟨by rfl, ?hy21⟩) hH ?rest21
        case hy21 => (intro w hSw; (try dsimp only at hSw); go_simp; with_reducible rfl)
        try simp only [Act.put, List.setIfInBounds_toArray, List.set_cons_zero, List.set_cons_succ]
        refine wpAnyK_take (i := 5) [18] (v := ?v22) rfl (by kernel_rfl) (by kernel_rfl) (by kernel_rfl) (by kernel_rfl) (fun _ _ _ h => h) (Or.inl ⟨by rfl, ?hy22⟩) hH ?rest22
        case hy22 => (intro w hSw; (try dsimp only at hSw); go_simp; with_reducible rfl)
        try simp only [Act.put, List.setIfInBounds_toArray, List.set_cons_zero, List.set_cons_succ]
        refine wpAnyK_take (i := 6) [18] (v := ?v23) rfl (by kernel_rfl) (by kernel_rfl) (by kernel_rfl) (by kernel_rfl) (fun _ _ _ h => h) (Or.inl ⟨by rfl, ?hy23⟩) hH ?rest23
        case hy23 => (intro w hSw; (try dsimp only at hSw); go_simp; with_reducible rfl)
        try simp only [Act.put, List.setIfInBounds_toArray, List.set_cons_zero, List.set_cons_succ]
        refine wpAnyK_take (i := 7) [18] (v := ?v24) rfl (by kernel_rfl) (by kernel_rfl) (by kernel_rfl) (by kernel_rfl) (fun _ _ _ h => h) (Or.inl ⟨by rfl, ?hy24⟩) hH ?rest24
        case hy24 => (intro w hSw; (try dsimp only at hSw); go_simp; with_reducible rfl)
        try simp only [Act.put, List.setIfInBounds_toArray, List.set_cons_zero, List.set_cons_succ]
        refine wpAnyK_take (i := 8) [18] (v := ?v25) rfl (by kernel_rfl) (by kernel_rfl) (by kernel_rfl) (by kernel_rfl) (fun _ _ _ h => h) (Or.inl ⟨by rfl, ?hy25⟩) hH ?rest25
        case hy25 => (intro w hSw; (try dsimp only at hSw); go_simp; with_reducible rfl)
        try simp only [Act.put, List.setIfInBounds_toArray, List.set_cons_zero, List.set_cons_succ]
        refine wpAnyK_take (i := 9) [18] (v := ?v26) rfl (by kernel_rfl) (by kernel_rfl) (by kernel_rfl) (by kernel_rfl) (fun _ _ _ h => h) (Or.inl ⟨by rfl, ?hy26⟩) hH ?rest26
        case hy26 => (intro w hSw; (try dsimp only at hSw); go_simp; with_reducible rfl)
        try simp only [Act.put, List.setIfInBounds_toArray, List.set_cons_zero, List.set_cons_succ]
        refine wpAnyK_take (i := 10) [18] (v := ?v27) rfl (by kernel_rfl) (by kernel_rfl) (by kernel_rfl) (by kernel_rfl) (fun _ _ _ h => h) (Or.inl ⟨by rfl, ?hy27⟩) hH ?rest27
        case hy27 => (intro w hSw; (try dsimp only at hSw); go_simp; with_reducible rfl)
        try simp only [Act.put, List.setIfInBounds_toArray, List.set_cons_zero, List.set_cons_succ]
        refine wpAnyK_take (i := 11) [18] (v := ?v28) rfl (by kernel_rfl) (by kernel_rfl) (by kernel_rfl) (by kernel_rfl) (fun _ _ _ h => h) (Or.inl ⟨by rfl, ?hy28⟩) hH ?rest28
        case hy28 => (intro w hSw; (try dsimp only at hSw); go_simp; with_reducible rfl)
        try simp only [Act.put, List.setIfInBounds_toArray, List.set_cons_zero, List.set_cons_succ]
        refine wpAnyK_take (i := 12) [18] (v := ?v29) rfl (by kernel_rfl) (by kernel_rfl) (by kernel_rfl) (by kernel_rfl) (fun _ _ _ h => h) (Or.inl ⟨by rfl, ?hy29⟩) hH ?rest29
        case hy29 => (intro w hSw; (try dsimp only at hSw); go_simp; with_reducible rfl)
        try simp only [Act.put, List.setIfInBounds_toArray, List.set_cons_zero, List.set_cons_succ]
        refine wpAnyK_take (i := 14) [18] (v := ?v30) rfl (by kernel_rfl) (by kernel_rfl) (by kernel_rfl) (by kernel_rfl) (fun _ _ _ h => h) (Or.inl ⟨by rfl, ?hy30⟩) hH ?rest30
        case hy30 => (intro w hSw; (try dsimp only at hSw); go_simp; with_reducible rfl)
        try simp only [Act.put, List.setIfInBounds_toArray, List.set_cons_zero, List.set_cons_succ]
        refine wpAnyK_take (i := 15) [18] (v := ?v31) rfl (by kernel_rfl) (by kernel_rfl) (by kernel_rfl) (by kernel_rfl) (fun _ _ _ h => h) (Or.inl ⟨by rfl, ?hy31⟩) hH ?rest31
        case hy31 => (intro w hSw; (try dsimp only at hSw); go_simp; with_reducible rfl)
        try simp only [Act.put, List.setIfInBounds_toArray, List.set_cons_zero, List.set_cons_succ]
        refine wpAnyK_one (i := 13) (by kernel_rfl) rfl (fun K hK => ?_) (by kernel_rfl)
        go_simp
        go_at_call 22
        refine HC.out.mono ?_
        rintro e w6 ⟨ca, cc, rfl, hco, hcb⟩
        have hW5z : W5.drew.heap.size = W5.heap.size := rfl
        have j0 : w6.cell? ⟨lb, 0, none⟩ = some (.map (some w4.heap.size)) := (hcb.cell (p := ⟨lb, 0, none⟩) (World.block_lt_of_cell? _ _ g0)).trans g0
        have j1 : w6.cell? ⟨lb, 1, none⟩ = some (.int .i64 (last + 1)) := (hcb.cell (p := ⟨lb, 1, none⟩) (World.block_lt_of_cell? _ _ g1)).trans g1
        have H6 := Lib.hid (And.intro hco hcb)
        clear hco hcb
        refine hK.out _ _ ⟨j0, j1⟩ (fun hH => ?_)
        clear hK K
        try simp only [Act.put, List.setIfInBounds_toArray, List.set_cons_zero, List.set_cons_succ]
        refine wpAnyK_one (i := 16) (by kernel_rfl) rfl (fun K hK => ?_) (by kernel_rfl)
        go_simp
        go_at_call 23
        refine (hTl _).mono ?_
        rintro e v7 ⟨rfl, rfl⟩
        refine hK.out _ _ ⟨j0, j1⟩ (fun hH => ?_)
        clear hK K
        try simp only [Act.put, List.setIfInBounds_toArray, List.set_cons_zero, List.set_cons_succ]
        refine wpAnyK_take (i := 17) [18] (v := ?v32) rfl (by kernel_rfl) (by kernel_rfl) (by kernel_rfl) (by kernel_rfl) (fun _ _ _ h => h) (Or.inl ⟨by rfl, ?hy32⟩) hH ?rest32
        case hy32 => (intro w hSw; (try dsimp only at hSw); go_simp; with_reducible rfl)
        try simp only [Act.put, List.setIfInBounds_toArray, List.set_cons_zero, List.set_cons_succ]
        refine wpAnyK_last (by kernel_rfl) rfl (fun K hK => ?_) (by kernel_rfl)
        have hm6 : MapL ckZ cvL w6 w4.heap.size (live now m) := (H5.out.1.mp.tn H5.out.2.2 (fun b hb e => H5.out.1.ne (by rw [hb, e]))).below ((Below.refl _ _).drew.trans H6.out.2)
        refine step_put rfl _ _ _ rfl keyZ und_map rfl hm6 (last + 1) rfl ⟨last + 1, ca, cc, vs, tz⟩ (by show _ = Value.agg #[.int .i64 (last + 1), .slice ca vs.length cc, .int .i64 tz]; rw [H.out.2.2.2.1]; rfl) ?_
        intro w8 hm8 ht8 hz8
        refine hK.out _ _ (wpAnyK_done (by kernel_rfl) ?_ _)
        clear hK K hH
        have hlen : (live now m).length < 16 := by rw [HA.out.1]; omega
        have hl8 : LsAt w8 lb (some w4.heap.size) (live now m ++ [(last + 1, ⟨last + 1, ca, cc, vs, tz⟩)]) (last + 1) :=
          H5.out.1.grow (w1 := W5.drew) (H5.out.2.2.trans (Tn.drew (F := fun q => q = lb) W5)) g0 g1 (fun j => gf j) H6.out.2 (x := ⟨last + 1, ca, cc, vs, tz⟩) (by show Own eVec _ _ (.slice ca vs.length cc) vs; rw [H.out.2.2.2.1]; exact H6.out.1) rfl H.out.2.2.2.2.1 hl hlen hm8 ht8
        have T8 : Tn (foot lb none) w w8 := ((((Tn.ofBelow HA.out.2).trans (H4.out.2.1.mono (fun q e => .inr e))).trans ((H5.out.2.1.trans (Tn.drew (F := fun q => q = lb) W5)).mono (fun q e => .inl e))).trans (Tn.ofBelow H6.out.2)).andThen ht8 (fun q e => .inr (by rw [e]; exact Nat.le_trans HA.out.2.size H4.out.2.1.size))
        have u1 := hl8.c1
        have HF := Lib.hid (And.intro hl8 (And.intro T8 hlen))
        clear hl8 T8 hm8 ht8 hz8 hm6 j0 j1 g0 g1 gf
        go_wp2_with fail
        go_ret2
        exact .inr ⟨HF.out.2.2, rfl, w4.heap.size, _, HF.out.1, rfl, .inr (Nat.le_trans HA.out.2.size H4.out.2.1.size), HF.out.2.1, fun q off e => Nat.le_trans HA.out.2.size (Nat.le_trans H4.out.2.1.size (Nat.le_trans H5.out.2.1.size (H6.out.1.lt q (by rw [show ca = some ⟨q, off, none⟩ from e]; rfl)).1))⟩
    · intro pre k x post w2 htd hr2 ht2 hz2 hen
      obtain ⟨xi, ya, yc, xv, xt⟩ := x
      obtain ⟨yn, hyn⟩ : ∃ yn, xv.length = yn := ⟨_, rfl⟩
      have hcv : cvL ⟨xi, ya, yc, xv, xt⟩ = .agg #[.int .i64 xi, .slice ya yn yc, .int .i64 xt] := by rw [← hyn]; rfl
      rw [hcv] at hen ⊢
      simp only [ckZ] at hen ⊢
      have hsz : (live now todo).length = (if now < xt then 1 else 0) + (live now (pre ++ post)).length := by
        rw [htd, live_app, live_app]
        show (_ ++ List.filter _ (_ :: post)).length = _
        rw [List.filter_cons]
        by_cases hc : now < xt
        · rw [if_pos (by simpa using hc), if_pos hc, List.length_append, List.length_cons, List.length_append]; show _ + (_ + 1) = _; unfold live; omega
        · rw [if_neg (by simpa using hc), if_neg hc, List.length_append, List.length_append]; unfold live; omega
      have hb2 : Below w.heap.size w w2 := HR.out.2.2.trans ((ht2.below HR.out.2.2.size (fun k hk => by omega)))
      obtain ⟨W3, hW3⟩ : ∃ W3, w2.alloc (.cells #[.int .i64 xi, .slice ya yn yc, .int .i64 xt] 35) = W3 := ⟨_, rfl⟩
      have q0 : W3.cell? ⟨wr.heap.size, 0, none⟩ = some (.int .i64 xi) := by rw [← hW3, ← hz2]; simp [go_sem]
      have q1 : W3.cell? ⟨wr.heap.size, 1, none⟩ = some (.slice ya yn yc) := by rw [← hW3, ← hz2]; simp [go_sem]
      have q2 : W3.cell? ⟨wr.heap.size, 2, none⟩ = some (.int .i64 xt) := by rw [← hW3, ← hz2]; simp [go_sem]
      have hb3 : Below w2.heap.size w2 W3 := by rw [← hW3]; exact (Below.refl _ _).alloc (Nat.le_refl _) _
      have ho := over_any xi ya yn yc xt now
      have H2 := Lib.hid (And.intro hr2 (And.intro hsz (And.intro hb2 (And.intro htd hb3))))
      clear hr2 hsz hb2 htd ht2 hyn hcv hb3 hb
      by_cases hov : xt ≤ now
      · have t1 : decide (xt ≤ now) = true := decide_eq_true hov
        rw [t1] at ho
        clear t1
        go_wp2_with (go_at_call 21; refine (ho _).mono ?_; rintro e w5 ⟨rfl, hb5⟩; have H5 := Lib.hid (H2.out.2.2.2.2.trans (hb5.mono H2.out.2.2.2.2.size)); clear hb5)
        go_roundw
        case rel =>
          refine ⟨pre ++ post, acc, H2.out.1.tn (Tn.ofBelow (F := fun _ => False) H5.out) (fun _ _ e => e) (fun e => e), ?_, rfl, H2.out.2.2.1.trans (H5.out.mono H2.out.2.2.1.size)⟩
          have := HR.out.2.1
          have h7 := H2.out.2.1
          rw [if_neg (by omega)] at h7
          omega
        case measure =>
          have h7 := H2.out.1.tn (Tn.ofBelow (F := fun _ => False) H5.out) (fun _ _ e => e) (fun e => e)
          rw [h7.left, HR.out.1.left, H2.out.2.2.2.1]
          simp
      · have t1 : decide (xt ≤ now) = false := decide_eq_false hov
        rw [t1] at ho
        clear t1
        go_wp2_with (go_at_call 21; refine (ho _).mono ?_; rintro e w5 ⟨rfl, hb5⟩; have H5 := Lib.hid (H2.out.2.2.2.2.trans (hb5.mono H2.out.2.2.2.2.size)); clear hb5)
        go_roundw
        case rel =>
          refine ⟨pre ++ post, acc + 1, H2.out.1.tn (Tn.ofBelow (F := fun _ => False) H5.out) (fun _ _ e => e) (fun e => e), ?_, by go_num, H2.out.2.2.1.trans (H5.out.mono H2.out.2.2.1.size)⟩
          have := HR.out.2.1
          have h7 := H2.out.2.1
          rw [if_pos (by omega)] at h7
          omega
        case measure =>
          have h7 := H2.out.1.tn (Tn.ofBelow (F := fun _ => False) H5.out) (fun _ _ e => e) (fun e => e)
          rw [h7.left, HR.out.1.left, H2.out.2.2.2.1]
          simp
end Go.Proofs.Ytmdhegmnfcodbaa
