import Derived.Test.YtnegappgdpeabaaGreatLe3
set_option linter.unusedSimpArgs false
set_option linter.unusedVariables false
/-
  Lease: one is renewed.
-/
namespace Go.Proofs.YtnegappgdpeabaaGreat
open Go.RowKit
variable {w w' w0 w1 w2 w3 : World} {mb lb B : Nat} {ob : Option Nat} {m : Lm} {last : Int}

theorem setL_mem {m : Lm} {k : Int} {v : Lv} {p : Int × Lv} (h : p ∈ setL m k v) : p = (k, v) ∨ (p ∈ m ∧ (p.1 ≠ k ∨ ∀ q ∈ m, q.1 ≠ k)) := by
  unfold setL at h
  split at h
  · obtain ⟨q, hq, rfl⟩ := List.mem_map.1 h
    by_cases hk : q.1 = k
    · rw [if_pos hk]; exact .inl rfl
    · rw [if_neg hk]; exact .inr ⟨hq, .inl hk⟩
  · rename_i hn
    rcases List.mem_append.1 h with h | h
    · exact .inr ⟨h, .inr fun q hq e => hn (List.any_eq_true.2 ⟨q, hq, by simpa using e⟩)⟩
    · exact .inl (List.mem_singleton.1 h)
theorem setL_len {m : Lm} {k : Int} {v x : Lv} (h : getL m k = some x) : (setL m k v).length = m.length := by
  have : m.any (fun p => decide (p.1 = k)) = true := List.any_eq_true.2 ⟨(k, x), getL_in h, by simp⟩
  unfold setL
  rw [if_pos this, List.length_map]
/-- A lease's end turns. -/
theorem LsAt.set (h : LsAt w lb ob m last) {id : Int} {x : Lv} (hg : getL m id = some x) (t : Int) (hm : MapV ckZ cvL w' ob (setL m id { x with till := t })) (ht : Tn (fun q => ob = some q) w w') : LsAt w' lb ob (setL m id { x with till := t }) last := by
  have hx := getL_in hg
  have hp : ∀ p ∈ setL m id { x with till := t }, ∃ q ∈ m, q.1 = p.1 ∧ q.2.id = p.2.id ∧ q.2.vs = p.2.vs ∧ q.2.sa = p.2.sa := fun p hp => by
    rcases setL_mem hp with rfl | ⟨h1, _⟩
    · exact ⟨_, hx, rfl, rfl, rfl, rfl⟩
    · exact ⟨p, h1, rfl, rfl, rfl, rfl⟩
  refine ⟨ht.cell h.c0 h.ne, ht.cell h.c1 h.ne, hm, fun j => (ht.frozen (p := ⟨lb, j, none⟩) h.ltd h.ne).trans (h.fz j), fun p h1 => ?_, ⟨fun p h1 => ?_, fun p h1 => ?_, fun p h1 => ?_, h.ok.last, by rw [setL_len hg]; exact h.ok.few⟩, h.ne⟩
  · obtain ⟨q, hq, e1, e2, e3, e4⟩ := hp p h1
    have h5 : RdX (foot lb ob) w p.2 := by unfold RdX; rw [← e3, ← e4]; exact h.rd q hq
    exact h5.tn ht (fun q _ hq => .inr hq)
  · obtain ⟨q, hq, e1, e2, e3, e4⟩ := hp p h1
    rw [← e1, ← e2]; exact h.ok.id q hq
  · obtain ⟨q, hq, e1, e2, e3, e4⟩ := hp p h1
    rw [← e1]; exact h.ok.key q hq
  · obtain ⟨q, hq, e1, e2, e3, e4⟩ := hp p h1
    rw [← e3]; exact h.ok.vec q hq

theorem renew_arg (lb : Nat) (id ttl now : Int) (hr : rightB ttl now = false) (w : World) : Calls Tryz.prog 10 #[.pointer (some ⟨lb, 0, none⟩), .int .i64 id, .int .i64 ttl, .int .i64 now] w fun e w' => e = .returned (.int .i64 1) ∧ w = w' := by
  have hR := right_any ttl now w
  rw [hr] at hR
  clear hr
  go_enter Tryz.func10, Tryz.ntmps10
  go_wp2_with (go_at_call 28; refine hR.mono ?_; rintro e v1 ⟨rfl, rfl⟩)
  go_ret
  exact ⟨rfl, rfl⟩
set_option maxRecDepth 100000 in
set_option maxHeartbeats 1000000 in
theorem renew_no (lb : Nat) (id ttl now : Int) (hr : rightB ttl now = true) {k : Int} (hk : k = 22 ∨ k = 51)
    (hT : Calls Tryz.prog 37 #[.pointer (some ⟨lb, 0, none⟩), .int .i64 id, .int .i64 now] w fun e w' => e = .returned (.tuple #[.agg #[.int .i64 0, .slice none 0 0, .int .i64 0], .int .i64 k]) ∧ Below w.heap.size w w') :
    Calls Tryz.prog 10 #[.pointer (some ⟨lb, 0, none⟩), .int .i64 id, .int .i64 ttl, .int .i64 now] w fun e w' => e = .returned (.int .i64 k) ∧ Below w.heap.size w w' := by
  have hR := right_any ttl now w
  rw [hr] at hR
  have k0 : ¬ k = 0 := by omega
  clear hr hk
  go_enter Tryz.func10, Tryz.ntmps10
  go_wp2_with (first
    | (go_at_call 37; refine hT.mono ?_; rintro e w1 ⟨rfl, hb1⟩; have H1 := Lib.hid hb1; clear hb1)
    | (go_at_call 28; refine hR.mono ?_; rintro e v1 ⟨rfl, rfl⟩))
  go_ret
  exact ⟨rfl, H1.out.alloc H1.out.size _⟩

set_option maxRecDepth 100000 in
set_option maxHeartbeats 1000000 in
theorem release_no (lb : Nat) (id now : Int) {k : Int} (hk : k = 22 ∨ k = 51)
    (hT : Calls Tryz.prog 37 #[.pointer (some ⟨lb, 0, none⟩), .int .i64 id, .int .i64 now] w fun e w' => e = .returned (.tuple #[.agg #[.int .i64 0, .slice none 0 0, .int .i64 0], .int .i64 k]) ∧ Below w.heap.size w w') :
    Calls Tryz.prog 12 #[.pointer (some ⟨lb, 0, none⟩), .int .i64 id, .int .i64 now] w fun e w' => e = .returned (.int .i64 k) ∧ Below w.heap.size w w' := by
  have k0 : ¬ k = 0 := by omega
  clear hk
  go_enter Tryz.func12, Tryz.ntmps12
  go_wp2_with (go_at_call 37; refine hT.mono ?_; rintro e w1 ⟨rfl, hb1⟩; have H1 := Lib.hid hb1; clear hb1)
  go_ret
  exact ⟨rfl, H1.out.alloc H1.out.size _⟩
set_option maxRecDepth 100000 in
set_option maxHeartbeats 1000000 in
theorem release_ok (h : LsAt w lb ob m last) (id now : Int) {x : Lv} (hg : getL m id = some x) (hl : now < x.till) :
    Calls Tryz.prog 12 #[.pointer (some ⟨lb, 0, none⟩), .int .i64 id, .int .i64 now] w fun e w' =>
      e = .returned (.int .i64 0) ∧ LsAt w' lb ob (delL m id) last ∧ Tn (fun q => ob = some q) w w' := by
  have hT := there_some h id now hg
  rw [if_neg (by omega)] at hT
  have c0 := h.c0
  have H := Lib.hid h
  obtain ⟨xi, xa, xc, xv, xt⟩ := x
  obtain ⟨nv, hnv⟩ : ∃ nv, xv.length = nv := ⟨_, rfl⟩
  have hcv : cvL ⟨xi, xa, xc, xv, xt⟩ = .agg #[.int .i64 xi, .slice xa nv xc, .int .i64 xt] := by rw [← hnv]; rfl
  rw [hcv] at hT
  clear h hg hl hnv hcv
  go_enter Tryz.func12, Tryz.ntmps12
  go_wp2_with (
      (go_at_call 37; refine hT.mono ?_; rintro e w1 ⟨rfl, hb1⟩
       obtain ⟨W2, hW2⟩ : ∃ W2, w1.alloc (.cells #[.int .i64 xi, .slice xa nv xc, .int .i64 xt] 65) = W2 := ⟨_, rfl⟩
       have b2 : Below w.heap.size w W2 := by rw [← hW2]; exact hb1.alloc hb1.size _
       have d0 := (b2.cell (p := ⟨lb, 0, none⟩) H.out.ltd).trans c0
       obtain ⟨w3, hdel, hm3, ht3, hz3⟩ := MapV.del (H.out.below b2).mp keyZ und_map 0 id
       have hdel' : (Builtin.delete_ #[30, 3] 0 #[.map ob, .int .i64 id]).run Tryz.prog W2 = .ok (.tuple #[]) w3 := hdel
       have H1 := Lib.hid b2; have H3 := Lib.hid (And.intro hm3 ht3); clear hb1 b2 hm3 ht3 hdel hz3))
  go_ret
  exact ⟨rfl, (H.out.below H1.out).del H3.out.1 H3.out.2, (Tn.ofBelow H1.out).trans H3.out.2⟩

set_option maxRecDepth 100000 in
set_option maxHeartbeats 1000000 in
theorem renew_ok (h : LsAt w lb ob m last) (id ttl now : Int) {x : Lv} (hg : getL m id = some x) (hr : rightB ttl now = true) (hl : now < x.till) :
    Calls Tryz.prog 10 #[.pointer (some ⟨lb, 0, none⟩), .int .i64 id, .int .i64 ttl, .int .i64 now] w fun e w' =>
      e = .returned (.int .i64 0) ∧ LsAt w' lb ob (setL m id { x with till := max x.till (tillZ ttl now) }) last ∧ Tn (fun q => ob = some q) w w' := by
  have hT := there_some h id now hg
  rw [if_neg (by omega)] at hT
  have hR := right_any ttl now w
  rw [hr] at hR
  have hTl := till_any ttl now hr
  obtain ⟨tz, htz⟩ : ∃ tz, tillZ ttl now = tz := ⟨_, rfl⟩
  simp only [htz] at hTl ⊢
  have c0 := h.c0
  obtain ⟨mb, rfl⟩ : ∃ mb, ob = some mb := by
    have h1 := h.mp
    cases ob with
    | none => rw [show m = [] from h1] at hg; cases hg
    | some mb => exact ⟨mb, rfl⟩
  have H := Lib.hid (And.intro h hg)
  obtain ⟨xi, xa, xc, xv, xt⟩ := x
  obtain ⟨nv, hnv⟩ : ∃ nv, xv.length = nv := ⟨_, rfl⟩
  have hcv : ∀ t, cvL ⟨xi, xa, xc, xv, t⟩ = .agg #[.int .i64 xi, .slice xa nv xc, .int .i64 t] := fun t => by rw [← hnv]; rfl
  rw [hcv] at hT
  have HCV := Lib.hid hcv
  clear h hg hr hl htz hnv hcv
  go_enter Tryz.func10, Tryz.ntmps10
  go_wp2_with (first
    | (go_at_call 37; refine hT.mono ?_; rintro e w1 ⟨rfl, hb1⟩
       have d0 := (hb1.cell (p := ⟨lb, 0, none⟩) H.out.1.ltd).trans c0
       obtain ⟨W2, hW2⟩ : ∃ W2, w1.alloc (.cells #[.int .i64 xi, .slice xa nv xc, .int .i64 xt] 65) = W2 := ⟨_, rfl⟩
       have q0 : W2.cell? ⟨w1.heap.size, 0, none⟩ = some (.int .i64 xi) := by rw [← hW2]; simp [go_sem]
       have q1 : W2.cell? ⟨w1.heap.size, 1, none⟩ = some (.slice xa nv xc) := by rw [← hW2]; simp [go_sem]
       have q2 : W2.cell? ⟨w1.heap.size, 2, none⟩ = some (.int .i64 xt) := by rw [← hW2]; simp [go_sem]
       have qf : ∀ j, W2.frozen? ⟨w1.heap.size, j, none⟩ = false := fun j => by rw [← hW2]; simp [go_sem]
       have e0 : W2.cell? ⟨lb, 0, none⟩ = some (.map (some mb)) := by rw [← hW2]; exact (((Below.refl _ _).alloc (Nat.le_refl _) _).cell (p := ⟨lb, 0, none⟩) (World.block_lt_of_cell? _ _ d0)).trans d0
       have b2 : Below w1.heap.size w1 W2 := by rw [← hW2]; exact (Below.refl _ _).alloc (Nat.le_refl _) _
       have H1 := Lib.hid (And.intro hb1 b2); clear hb1 b2)
    | (go_at_call 28; refine hR.mono ?_; rintro e v1 ⟨rfl, rfl⟩))
  have kd0 : W2.drew.cell? ⟨w1.heap.size, 0, none⟩ = some (.int .i64 xi) := q0
  have kd1 : W2.drew.cell? ⟨w1.heap.size, 1, none⟩ = some (.slice xa nv xc) := q1
  have kd2 : W2.drew.cell? ⟨w1.heap.size, 2, none⟩ = some (.int .i64 xt) := q2
  have kd3 : W2.drew.cell? ⟨lb, 0, none⟩ = some (.map (some mb)) := e0
  have kf : ∀ j, W2.drew.frozen? ⟨w1.heap.size, j, none⟩ = false := qf
  have hz2 : W2.heap.size = w1.heap.size + 1 := by rw [← hW2]; simp
  have HZ := Lib.hid (And.intro hz2 qf)
  clear q0 q1 q2 e0 qf hz2
  refine wp_region_K (fun w' => w'.cell? ⟨w1.heap.size, 2, none⟩ = some (.int .i64 xt)) 7 8 (by kernel_rfl) (by kernel_rfl) kd2 (fun hH => ?_)
  refine wpAnyK_take (i := 0) [7] (v := ?v1) rfl (by kernel_rfl) (by kernel_rfl) (by kernel_rfl) (by kernel_rfl) (fun _ _ _ h => h) (Or.inl ⟨by rfl, ?hy1⟩) hH ?rest1
  case hy1 => (intro w hSw; (try dsimp only at hSw); go_simp; with_reducible rfl)
  try simp only [Act.put, List.setIfInBounds_toArray, List.set_cons_zero, List.set_cons_succ]
  refine wpAnyK_take (i := 1) [7] (v := ?v2) rfl (by kernel_rfl) (by kernel_rfl) (by kernel_rfl) (by kernel_rfl) (fun _ _ _ h => h) (Or.inl ⟨by rfl, ?hy2⟩) hH ?rest2
  case hy2 => (intro w hSw; (try dsimp only at hSw); go_simp; with_reducible rfl)
  try simp only [Act.put, List.setIfInBounds_toArray, List.set_cons_zero, List.set_cons_succ]
  refine wpAnyK_take (i := 2) [7] (v := ?v3) rfl (by kernel_rfl) (by kernel_rfl) (by kernel_rfl) (by kernel_rfl) (fun _ _ _ h => h) (Or.inl ⟨by rfl, ?hy3⟩) hH ?rest3
  case hy3 => (intro w hSw; (try dsimp only at hSw); go_simp; with_reducible rfl)
  try simp only [Act.put, List.setIfInBounds_toArray, List.set_cons_zero, List.set_cons_succ]
  refine wpAnyK_take (i := 3) [7] (v := ?v4) rfl (by kernel_rfl) (by kernel_rfl) (by kernel_rfl) (by kernel_rfl) (fun _ _ _ h => h) (Or.inl ⟨by rfl, ?hy4⟩) hH ?rest4
  case hy4 => (intro w hSw; (try dsimp only at hSw); go_simp; with_reducible rfl)
  try simp only [Act.put, List.setIfInBounds_toArray, List.set_cons_zero, List.set_cons_succ]
  refine wpAnyK_one (i := 4) (by kernel_rfl) rfl (fun K hK => ?_) (by kernel_rfl)
  go_simp
  go_at_call 31
  refine (hTl _).mono ?_
  rintro e v3 ⟨rfl, rfl⟩
  refine hK.out _ _ kd2 (fun hH => ?_)
  clear hK K
  try simp only [Act.put, List.setIfInBounds_toArray, List.set_cons_zero, List.set_cons_succ]
  refine wpAnyK_take (i := 5) [7] (v := ?v5) rfl (by kernel_rfl) (by kernel_rfl) (by kernel_rfl) (by kernel_rfl) (fun _ _ _ h => h) (Or.inl ⟨by rfl, ?hy5⟩) hH ?rest5
  case hy5 => (intro w hSw; (try dsimp only at hSw); go_simp; with_reducible rfl)
  try simp only [Act.put, List.setIfInBounds_toArray, List.set_cons_zero, List.set_cons_succ]
  refine wpAnyK_take (i := 6) [7] (v := ?v6) rfl (by kernel_rfl) (by kernel_rfl) (by kernel_rfl) (by kernel_rfl) (fun _ _ _ h => h) (Or.inl ⟨by rfl, ?hy6⟩) hH ?rest6
  case hy6 => (intro w hSw; (try dsimp only at hSw); go_simp; with_reducible rfl)
  try simp only [Act.put, List.setIfInBounds_toArray, List.set_cons_zero, List.set_cons_succ]
  refine wpAnyK_last (by kernel_rfl) rfl (fun K hK => ?_) (by kernel_rfl)
  go_simp
  refine hK.out _ _ (wpAnyK_done (by kernel_rfl) ?_ _)
  clear hK K hH
  obtain ⟨tm, htm⟩ : ∃ tm, max xt tz = tm := ⟨_, rfl⟩
  rw [htm]
  have hlbne : lb ≠ w1.heap.size := by have h9 : lb < w1.heap.size := World.block_lt_of_cell? _ _ d0; omega
  obtain ⟨W3, hW3⟩ : ∃ W3, W2.setCell ⟨w1.heap.size, 2, none⟩ (.int .i64 tm) = W3 := ⟨_, rfl⟩
  have s0 : W3.cell? ⟨w1.heap.size, 0, none⟩ = some (.int .i64 xi) := by rw [← hW3]; exact cell_set kd0 (by omega)
  have s1 : W3.cell? ⟨w1.heap.size, 1, none⟩ = some (.slice xa nv xc) := by rw [← hW3]; exact cell_set kd1 (by omega)
  have s2 : W3.cell? ⟨w1.heap.size, 2, none⟩ = some (.int .i64 tm) := by rw [← hW3]; exact World.cell?_setCell_same _ _ _ kd2
  have s3 : W3.cell? ⟨lb, 0, none⟩ = some (.map (some mb)) := by
    rw [← hW3]
    exact (Tn.setCell (F := fun q => q = w1.heap.size) W2 ⟨w1.heap.size, 2, none⟩ _ rfl).cell kd3 (fun e => hlbne e)
  have b3 : Below w.heap.size w W3 := by rw [← hW3]; exact (H1.out.1.trans (H1.out.2.mono H1.out.1.size)).setCell H1.out.1.size _
  have H3 := Lib.hid (And.intro b3 htm)
  rw [hW3]
  clear b3 htm hlbne hW3 kd0 kd1 kd2 kd3 kf HZ hW2 d0 c0
  go_wp2_with fail
  have u0 : W3.drew.drew.cell? ⟨w1.heap.size, 0, none⟩ = some (.int .i64 xi) := s0
  have u1 : W3.drew.drew.cell? ⟨w1.heap.size, 1, none⟩ = some (.slice xa nv xc) := s1
  have u2 : W3.drew.drew.cell? ⟨w1.heap.size, 2, none⟩ = some (.int .i64 tm) := s2
  have u3 : W3.drew.drew.cell? ⟨lb, 0, none⟩ = some (.map (some mb)) := s3
  refine wp_region_K (fun w' => w'.cell? ⟨lb, 0, none⟩ = some (.map (some mb)) ∧ w'.cell? ⟨w1.heap.size, 0, none⟩ = some (.int .i64 xi) ∧ w'.cell? ⟨w1.heap.size, 1, none⟩ = some (.slice xa nv xc) ∧ w'.cell? ⟨w1.heap.size, 2, none⟩ = some (.int .i64 tm)) 6 7 (by kernel_rfl) (by kernel_rfl) ⟨u3, u0, u1, u2⟩ (fun hH => ?_)
  refine wpAnyK_take (i := 0) [6] (v := ?v7) rfl (by kernel_rfl) (by kernel_rfl) (by kernel_rfl) (by kernel_rfl) (fun _ _ _ h => h) (Or.inl ⟨by rfl, ?hy7⟩) hH ?rest7
  case hy7 => (intro w hSw; (try dsimp only at hSw); go_simp; with_reducible rfl)
  try simp only [Act.put, List.setIfInBounds_toArray, List.set_cons_zero, List.set_cons_succ]
  refine wpAnyK_take (i := 1) [6] (v := ?v8) rfl (by kernel_rfl) (by kernel_rfl) (by kernel_rfl) (by kernel_rfl) (fun _ _ _ h => h) (Or.inl ⟨by rfl, ?hy8⟩) hH ?rest8
  case hy8 => (intro w hSw; (try dsimp only at hSw); go_simp; with_reducible rfl)
  try simp only [Act.put, List.setIfInBounds_toArray, List.set_cons_zero, List.set_cons_succ]
  refine wpAnyK_take (i := 2) [6] (v := ?v9) rfl (by kernel_rfl) (by kernel_rfl) (by kernel_rfl) (by kernel_rfl) (fun _ _ _ h => h) (Or.inl ⟨by rfl, ?hy9⟩) hH ?rest9
  case hy9 => (intro w hSw; (try dsimp only at hSw); go_simp; with_reducible rfl)
  try simp only [Act.put, List.setIfInBounds_toArray, List.set_cons_zero, List.set_cons_succ]
  refine wpAnyK_take (i := 3) [6] (v := ?v10) rfl (by kernel_rfl) (by kernel_rfl) (by kernel_rfl) (by kernel_rfl) (fun _ _ _ h => h) (Or.inl ⟨by rfl, ?hy10⟩) hH ?rest10
  case hy10 => (intro w hSw; (try dsimp only at hSw); go_simp; with_reducible rfl)
  try simp only [Act.put, List.setIfInBounds_toArray, List.set_cons_zero, List.set_cons_succ]
  refine wpAnyK_take (i := 4) [6] (v := ?v11) rfl (by kernel_rfl) (by kernel_rfl) (by kernel_rfl) (by kernel_rfl) (fun _ _ _ h => h) (Or.inl ⟨by rfl, ?hy11⟩) hH ?rest11
  case hy11 => (intro w hSw; (try dsimp only at hSw); go_simp; with_reducible rfl)
  try simp only [Act.put, List.setIfInBounds_toArray, List.set_cons_zero, List.set_cons_succ]
  refine wpAnyK_take (i := 5) [6] (v := ?v12) rfl (by kernel_rfl) (by kernel_rfl) (by kernel_rfl) (by kernel_rfl) (fun _ _ _ h => h) (Or.inl ⟨by rfl, ?hy12⟩) hH ?rest12
  case hy12 => (intro w hSw; (try dsimp only at hSw); go_simp; with_reducible rfl)
  try simp only [Act.put, List.setIfInBounds_toArray, List.set_cons_zero, List.set_cons_succ]
  refine wpAnyK_last (by kernel_rfl) rfl (fun K hK => ?_) (by kernel_rfl)
  have b5 : Below w.heap.size w W3.drew.drew := H3.out.1.drew.drew
  refine step_put rfl _ _ _ rfl keyZ und_map rfl (show MapL ckZ cvL W3.drew.drew mb m from (H.out.1.below b5).mp) id rfl ⟨xi, xa, xc, xv, tm⟩ (HCV.out tm).symm ?_
  intro w6 hm6 ht6 hz6
  refine hK.out _ _ (wpAnyK_done (by kernel_rfl) ?_ _)
  clear hK K hH
  have l6 := (H.out.1.below b5).set (w' := w6) H.out.2 tm hm6 (ht6.mono (fun q hq => by rw [hq]))
  have HF := Lib.hid (And.intro l6 ((Tn.ofBelow (F := fun q => some mb = some q) b5).trans (ht6.mono (fun q hq => by rw [hq]))))
  clear l6 hm6 ht6 hz6 b5 u0 u1 u2 u3 s0 s1 s2 s3
  go_wp2_with fail
  go_ret
  exact ⟨rfl, by rw [H3.out.2]; exact HF.out.1, HF.out.2.mono (fun q hq => by simpa using hq)⟩
end Go.Proofs.YtnegappgdpeabaaGreat
/-
  Lease: one is made.
-/
namespace Go.Proofs.YtnegappgdpeabaaGreat
open Go.RowKit
variable {w w' w0 w1 w2 w3 w4 : World} {mb lb B : Nat} {ob : Option Nat} {m : Lm} {last : Int}

theorem LOk.keyne (h : LOk m last) : ∀ p ∈ m, p.1 ≠ last + 1 := fun p hp e => by have := (h.key p hp).2; omega
theorem LsAt.grow (h : LsAt w lb (some mb) m last) (h1 : Tn (fun q => q = lb) w w1) (c0 : w1.cell? ⟨lb, 0, none⟩ = some (.map (some mb))) (c1 : w1.cell? ⟨lb, 1, none⟩ = some (.int .i64 (last + 1))) (fz : ∀ j, w1.frozen? ⟨lb, j, none⟩ = false)
    (hb : Below w1.heap.size w1 w3) {x : Lv} (ho : Own eVec w3 w1.heap.size x.sl x.vs) (hid : x.id = last + 1) (hv : validB x.vs = true) (hl : last < 1000000) (hm : m.length < 16)
    (h4 : MapL ckZ cvL w4 mb (setL m (last + 1) x)) (ht : Tn (fun q => q = mb) w3 w4) : LsAt w4 lb (some mb) (m ++ [(last + 1, x)]) (last + 1) := by
  have hlm : lb ≠ mb := fun e => h.ne (by rw [e])
  rw [setL_new h.ok.keyne] at h4
  have hlt := h.ltd
  have hz1 := h1.size
  have hzb := hb.size
  have hmb : mb < w.heap.size := h.mp.lt rfl
  refine ⟨ht.cell ((hb.cell (p := ⟨lb, 0, none⟩) (by show lb < _; omega)).trans c0) hlm, ht.cell ((hb.cell (p := ⟨lb, 1, none⟩) (by show lb < _; omega)).trans c1) hlm, h4, fun j => ?_, fun p hp => ?_, ⟨fun p hp => ?_, fun p hp => ?_, fun p hp => ?_, ?_, ?_⟩, fun e => hlm (Option.some.inj e).symm⟩
  · exact (ht.frozen (p := ⟨lb, j, none⟩) (by show lb < _; omega) hlm).trans ((hb.frozen (p := ⟨lb, j, none⟩) (by show lb < _; omega)).trans (fz j))
  · rcases List.mem_append.1 hp with hp | hp
    · exact (((h.rd p hp).tn h1 (fun q _ e => .inl e)).tn (Tn.ofBelow (F := fun _ => False) hb) (fun _ _ e => e.elim)).tn ht (fun q _ e => .inr (by rw [e]))
    · rw [List.mem_singleton.1 hp]
      have ho2 : Own eVec w4 w1.heap.size x.sl x.vs := ht.row ho (fun q hq e => by have := (ho.lt q hq).1; omega)
      rcases ho2.2 with ⟨e, e0⟩ | ⟨g, cap', cur, e, hg, hh, hn', hc, hcl, htk⟩
      · exact .inl (List.eq_nil_of_length_eq_zero e0)
      · have e1 := (Value.slice.inj e).1
        refine .inr ⟨g, 0, e1, ?_, (Array.getElem?_eq_some_iff.1 hh).1, fun i hi => ?_⟩
        · rintro (e2 | e2)
          · omega
          · have := Option.some.inj e2; omega
        · have e5 := rdI_own ho2
          obtain ⟨a, c, e6, e7⟩ := e5
          injection e6 with e8 e9 e10
          rcases e7 with e7 | ⟨b, off, e7, _, e11⟩
          · exact absurd hi (by show ¬ i < x.vs.length; rw [e7]; simp)
          · have e12 : (some (⟨g, 0, none⟩ : Addr)) = some ⟨b, off, none⟩ := by rw [← e1, e8, e7]
            injection e12 with e12
            injection e12 with e13 e14
            have e15 := e11 i hi
            rw [← e13, ← e14] at e15
            exact e15
  · rcases List.mem_append.1 hp with hp | hp
    · exact h.ok.id p hp
    · rw [List.mem_singleton.1 hp]; exact hid
  · have := h.ok.last
    rcases List.mem_append.1 hp with hp | hp
    · have := h.ok.key p hp; omega
    · rw [List.mem_singleton.1 hp]; show 1 ≤ last + 1 ∧ last + 1 ≤ last + 1; omega
  · rcases List.mem_append.1 hp with hp | hp
    · exact h.ok.vec p hp
    · rw [List.mem_singleton.1 hp]; exact hv
  · have := h.ok.last; omega
  · rw [List.length_append, List.length_singleton]; omega

theorem live_app (now : Int) (a b : Lm) : live now (a ++ b) = live now a ++ live now b := List.filter_append ..
theorem live_len (now : Int) (m : Lm) : (live now m).length ≤ m.length := List.length_filter_le _ _

theorem acquire_arg1 (lb : Nat) {x : Value} {vs : List Int} (h : RdI w x vs) (hv : validB vs = false) (ttl now : Int) : Calls Tryz.prog 7 #[.pointer (some ⟨lb, 0, none⟩), x, .int .i64 ttl, .int .i64 now] w fun e w' => e = .returned (.tuple #[.int .i64 0, .int .i64 1]) ∧ w = w' := by
  have hV := valid_any h
  rw [hv] at hV
  obtain ⟨a, c, rfl, -⟩ := h
  clear hv
  go_enter Tryz.func7, Tryz.ntmps7
  go_wp2_with (go_at_call 27; refine hV.mono ?_; rintro e v1 ⟨rfl, rfl⟩)
  go_ret2
  exact ⟨rfl, rfl⟩
theorem acquire_arg2 (lb : Nat) {x : Value} {vs : List Int} (h : RdI w x vs) (hv : validB vs = true) (ttl now : Int) (hr : rightB ttl now = false) : Calls Tryz.prog 7 #[.pointer (some ⟨lb, 0, none⟩), x, .int .i64 ttl, .int .i64 now] w fun e w' => e = .returned (.tuple #[.int .i64 0, .int .i64 1]) ∧ w = w' := by
  have hV := valid_any h
  rw [hv] at hV
  have hR := right_any ttl now
  rw [hr] at hR
  obtain ⟨a, c, rfl, -⟩ := h
  clear hv hr
  go_enter Tryz.func7, Tryz.ntmps7
  go_wp2_with (first
    | (go_at_call 28; refine (hR _).mono ?_; rintro e v2 ⟨rfl, rfl⟩)
    | (go_at_call 27; refine hV.mono ?_; rintro e v1 ⟨rfl, rfl⟩))
  go_ret2
  exact ⟨rfl, rfl⟩

/-- What Acquire leaves where there is room. -/
def AcqOk (w w' : World) (lb : Nat) (ob : Option Nat) (m : Lm) (last now : Int) (vs : List Int) (t : Int) : Prop :=
  ∃ mb x, LsAt w' lb (some mb) (live now m ++ [(last + 1, x)]) (last + 1) ∧ core x = (last + 1, vs, t) ∧ (ob = some mb ∨ w.heap.size ≤ mb) ∧ Tn (foot lb ob) w w' ∧ ∀ q off, x.sa = some ⟨q, off, none⟩ → w.heap.size ≤ q

theorem qMap (w : World) (r : Option Nat) : (binOp .eql tMap (.map r) (.map none)).run Tryz.prog w = .ok (.bool r.isNone) w := run_eql_map_nil w _ _ _ r und_map

set_option maxRecDepth 100000 in
set_option maxHeartbeats 4000000 in
theorem acquire_go_some (h : LsAt w lb (some mb) m last) (hl : last < 1000000) {xa : Option Addr} {xc : Nat} {vs : List Int} (hx : RdX (foot lb (some mb)) w ⟨0, xa, xc, vs, 0⟩) (hv : validB vs = true) (ttl now : Int) (hr : rightB ttl now = true) :
    Calls Tryz.prog 7 #[.pointer (some ⟨lb, 0, none⟩), .slice xa vs.length xc, .int .i64 ttl, .int .i64 now] w fun e w' =>
      (16 ≤ (live now m).length ∧ e = .returned (.tuple #[.int .i64 0, .int .i64 24]) ∧ Below w.heap.size w w') ∨
      ((live now m).length < 16 ∧ e = .returned (.tuple #[.int .i64 (last + 1), .int .i64 0]) ∧ AcqOk w w' lb (some mb) m last now vs (tillZ ttl now)) := by
  have hV := valid_any hx.rd
  rw [hv] at hV
  have hR := right_any ttl now
  rw [hr] at hR
  have hTl := till_any ttl now hr
  have hq := qMap
  have hmk : ∀ w, (Instr.makeMap 30 none).run Tryz.prog w = .ok (.map (some w.heap.size)) (w.alloc (.map #[] 0)) := fun _ => rfl
  have hE := exp_live h.ok h.nodup now
  have c0 := h.c0
  have hob : ∀ q, (some mb) = some q → q < w.heap.size := fun q hq => h.mp.lt hq
  have hlm : m.length ≤ 16 := h.ok.few
  have hl0 : 0 ≤ last := h.ok.last.1
  obtain ⟨tz, htz⟩ : ∃ tz, tillZ ttl now = tz := ⟨_, rfl⟩
  simp only [htz] at hTl ⊢
  obtain ⟨nv, hnv⟩ : ∃ nv, vs.length = nv := ⟨_, rfl⟩
  have hV2 : Calls Tryz.prog 27 #[.slice xa nv xc] w fun e w' => e = .returned (.bool true) ∧ w = w' := by rw [← hnv]; exact hV
  have hnv8 : vs.length ≤ 8 := by
    simp only [validB, Bool.and_eq_true, decide_eq_true_eq] at hv
    exact hv.1.2
  rw [hnv]
  have hw0 := h.ltd
  have H := Lib.hid (And.intro h (And.intro hx (And.intro hE (And.intro hnv (And.intro hv (And.intro hnv8 hob))))))
  clear hV h hx hr hv hE htz hnv hnv8 hob
  go_enter Tryz.func7, Tryz.ntmps7
  go_wp2_with (first
    | (at_range; refine wpl_range rfl _ rfl und_map rfl (show MapV ckZ cvL _ (some mb) m from H.out.1.mp) ?_; intro w1 hr hb1 hz1; have H1 := Lib.hid (And.intro hr hb1); clear hr hb1)
    | (go_at_call 28; refine (hR _).mono ?_; rintro e v2 ⟨rfl, rfl⟩)
    | (go_at_call 27; refine hV2.mono ?_; rintro e v1 ⟨rfl, rfl⟩))
  clear hV2 hR
  go_frame
  go_loopw [10, 12] (fun nv _ wr => ∃ todo acc, RngV ckZ cvL wr (some mb) w.heap.size m todo ∧ (live now m).length = acc + (live now todo).length ∧ nv = .int .i64 ((acc : Nat) : Int) ∧ Below w.heap.size w wr) (fun _ _ wr => leftN wr (some mb) w.heap.size)
  case atStart => exact ⟨m, 0, H1.out.1, by omega, rfl, H1.out.2⟩
  case round =>
    obtain ⟨todo, acc, hr, hacc, rfl, hb⟩ := hrel
    have hal : acc ≤ 16 := by have := live_len now m; omega
    have HR := Lib.hid (And.intro hr (And.intro hacc hb))
    have hrl := hr.lt
    clear hr hacc
    go_wp2_with (at_next; refine wpl_next rfl _ rfl rfl HR.out.1 ?_ ?_)
    · intro h0
      have HE := Lib.hid h0
      clear h0
      have hacc : (live now m).length = acc := by have h5 := HR.out.2.1; rw [HE.out] at h5; exact h5
      have hLr := H.out.1.below hb
      have d0 := (hb.cell (p := ⟨lb, 0, none⟩) hw0).trans c0
      clear HE
      by_cases hfull : 16 ≤ acc
      · have r1 : (16 : Int) ≤ (acc : Int) := by omega
        have HA := Lib.hid hacc
        clear hacc hLr hb
        go_wp2
        go_ret2
        exact .inl ⟨by rw [HA.out]; exact hfull, rfl, HR.out.2.2⟩
      · have r1 : ¬ (16 : Int) ≤ (acc : Int) := by omega
        have hX := expire_any hLr now
        rw [H.out.2.2.1] at hX
        have HA := Lib.hid (And.intro hacc hb)
        clear hacc hLr hb
        go_wp2_with (first
          | (go_at_call 14; go_loud (refine hX.mono ?_); rintro e w4 ⟨xa4, xn4, xc4, rfl, _, _, hl4, ht4⟩
             have f0 := hl4.c0
             have f1 := hl4.c1
             have ff := hl4.fz
             have hw4 : lb < w4.heap.size := hl4.ltd
             skip
             have H4 := Lib.hid (And.intro hl4 (And.intro ht4 trivial)); clear hl4 ht4))
        obtain ⟨W5, hW5⟩ : ∃ W5, w4.setCell ⟨lb, 1, none⟩ (.int .i64 (last + 1)) = W5 := ⟨_, rfl⟩
        rw [hW5]
        have g0 : W5.drew.cell? ⟨lb, 0, none⟩ = some (.map (some mb)) := by rw [← hW5]; exact cell_set f0 (by omega)
        have g1 : W5.drew.cell? ⟨lb, 1, none⟩ = some (.int .i64 (last + 1)) := by rw [← hW5]; exact World.cell?_setCell_same _ _ _ f1
        have gf : ∀ j, W5.drew.frozen? ⟨lb, j, none⟩ = false := fun j => by rw [← hW5]; simp [go_sem, ff]
        have t5 : Tn (fun q => q = lb) w4 W5 := by rw [← hW5]; exact Tn.setCell _ _ _ rfl
        have H5 := Lib.hid (And.intro H4.out.1 (And.intro t5 t5))
        clear t5 hW5 f0 f1 ff
        have hx5 : RdI W5.drew (.slice xa nv xc) vs := by
          rw [← H.out.2.2.2.1]
          exact (((H.out.2.1.tn (Tn.ofBelow (F := fun _ => False) HA.out.2) (fun _ _ e => e.elim)).tn H4.out.2.1 (fun q _ e => .inr e)).tn (H5.out.2.1.trans (Tn.drew (F := fun q => q = lb) W5)) (fun q _ e => .inl e)).rd
        have hC := clone_any hx5 (by have := H.out.2.2.2.2.2.1; omega)
        rw [H.out.2.2.2.1] at hC
        have HC := Lib.hid hC
        clear hC hx5
        refine wp_region_K (fun w' => w'.cell? ⟨lb, 0, none⟩ = some (.map (some mb)) ∧ w'.cell? ⟨lb, 1, none⟩ = some (.int .i64 (last + 1))) 18 19 (by kernel_rfl) (by kernel_rfl) ⟨g0, g1⟩ (fun hH => ?_)
        refine wpAnyK_take (i := 0) [18] (v := ?v13) rfl (by kernel_rfl) (by kernel_rfl) (by kernel_rfl) (by kernel_rfl) (fun _ _ _ h => h) (Or.inl ⟨by rfl, ?hy13⟩) hH ?rest13
        case hy13 => (intro w hSw; (try dsimp only at hSw); go_simp; with_reducible rfl)
        try simp only [Act.put, List.setIfInBounds_toArray, List.set_cons_zero, List.set_cons_succ]
        refine wpAnyK_take (i := 1) [18] (v := ?v14) rfl (by kernel_rfl) (by kernel_rfl) (by kernel_rfl) (by kernel_rfl) (fun _ _ _ h => h) (Or.inl ⟨by rfl, ?hy14⟩) hH ?rest14
        case hy14 => (intro w hSw; (try dsimp only at hSw); go_simp; with_reducible rfl)
        try simp only [Act.put, List.setIfInBounds_toArray, List.set_cons_zero, List.set_cons_succ]
        refine wpAnyK_take (i := 2) [18] (v := ?v15) rfl (by kernel_rfl) (by kernel_rfl) (by kernel_rfl) (by kernel_rfl) (fun _ _ _ h => h) (Or.inl ⟨by rfl, ?hy15⟩) hH ?rest15
        case hy15 => (intro w hSw; (try dsimp only at hSw); go_simp; with_reducible rfl)
        try simp only [Act.put, List.setIfInBounds_toArray, List.set_cons_zero, List.set_cons_succ]
        refine wpAnyK_take (i := 3) [18] (v := ?v16) rfl (by kernel_rfl) (by kernel_rfl) (by kernel_rfl) (by kernel_rfl) (fun _ _ _ h => h) (Or.inl ⟨by rfl, ?hy16⟩) hH ?rest16
        case hy16 => (intro w hSw; (try dsimp only at hSw); go_simp; with_reducible rfl)
        try simp only [Act.put, List.setIfInBounds_toArray, List.set_cons_zero, List.set_cons_succ]
        refine wpAnyK_take (i := 4) [18] (v := ?v17) rfl (by kernel_rfl) (by kernel_rfl) (by kernel_rfl) (by kernel_rfl) (fun _ _ _ h => h) (Or.inl ⟨by rfl, ?hy17⟩) hH ?rest17
        case hy17 => (intro w hSw; (try dsimp only at hSw); go_simp; with_reducible rfl)
        try simp only [Act.put, List.setIfInBounds_toArray, List.set_cons_zero, List.set_cons_succ]
        refine wpAnyK_take (i := 5) [18] (v := ?v18) rfl (by kernel_rfl) (by kernel_rfl) (by kernel_rfl) (by kernel_rfl) (fun _ _ _ h => h) (Or.inl ⟨by rfl, ?hy18⟩) hH ?rest18
        case hy18 => (intro w hSw; (try dsimp only at hSw); go_simp; with_reducible rfl)
        try simp only [Act.put, List.setIfInBounds_toArray, List.set_cons_zero, List.set_cons_succ]
        refine wpAnyK_take (i := 6) [18] (v := ?v19) rfl (by kernel_rfl) (by kernel_rfl) (by kernel_rfl) (by kernel_rfl) (fun _ _ _ h => h) (Or.inl ⟨by rfl, ?hy19⟩) hH ?rest19
        case hy19 => (intro w hSw; (try dsimp only at hSw); go_simp; with_reducible rfl)
        try simp only [Act.put, List.setIfInBounds_toArray, List.set_cons_zero, List.set_cons_succ]
        refine wpAnyK_take (i := 7) [18] (v := ?v20) rfl (by kernel_rfl) (by kernel_rfl) (by kernel_rfl) (by kernel_rfl) (fun _ _ _ h => h) (Or.inl ⟨by rfl, ?hy20⟩) hH ?rest20
        case hy20 => (intro w hSw; (try dsimp only at hSw); go_simp; with_reducible rfl)
        try simp only [Act.put, List.setIfInBounds_toArray, List.set_cons_zero, List.set_cons_succ]
        refine wpAnyK_take (i := 8) [18] (v := ?v21) rfl (by kernel_rfl) (by kernel_rfl) (by kernel_rfl) (by kernel_rfl) (fun _ _ _ h => h) (Or.inl ⟨by rfl, ?hy21⟩) hH ?rest21
        case hy21 => (intro w hSw; (try dsimp only at hSw); go_simp; with_reducible rfl)
        try simp only [Act.put, List.setIfInBounds_toArray, List.set_cons_zero, List.set_cons_succ]
        refine wpAnyK_take (i := 9) [18] (v := ?v22) rfl (by kernel_rfl) (by kernel_rfl) (by kernel_rfl) (by kernel_rfl) (fun _ _ _ h => h) (Or.inl ⟨by rfl, ?hy22⟩) hH ?rest22
        case hy22 => (intro w hSw; (try dsimp only at hSw); go_simp; with_reducible rfl)
        try simp only [Act.put, List.setIfInBounds_toArray, List.set_cons_zero, List.set_cons_succ]
        refine wpAnyK_take (i := 10) [18] (v := ?v23) rfl (by kernel_rfl) (by kernel_rfl) (by kernel_rfl) (by kernel_rfl) (fun _ _ _ h => h) (Or.inl ⟨by rfl, ?hy23⟩) hH ?rest23
        case hy23 => (intro w hSw; (try dsimp only at hSw); go_simp; with_reducible rfl)
        try simp only [Act.put, List.setIfInBounds_toArray, List.set_cons_zero, List.set_cons_succ]
        refine wpAnyK_take (i := 11) [18] (v := ?v24) rfl (by kernel_rfl) (by kernel_rfl) (by kernel_rfl) (by kernel_rfl) (fun _ _ _ h => h) (Or.inl ⟨by rfl, ?hy24⟩) hH ?rest24
        case hy24 => (intro w hSw; (try dsimp only at hSw); go_simp; with_reducible rfl)
        try simp only [Act.put, List.setIfInBounds_toArray, List.set_cons_zero, List.set_cons_succ]
        refine wpAnyK_take (i := 12) [18] (v := ?v25) rfl (by kernel_rfl) (by kernel_rfl) (by kernel_rfl) (by kernel_rfl) (fun _ _ _ h => h) (Or.inl ⟨by rfl, ?hy25⟩) hH ?rest25
        case hy25 => (intro w hSw; (try dsimp only at hSw); go_simp; with_reducible rfl)
        try simp only [Act.put, List.setIfInBounds_toArray, List.set_cons_zero, List.set_cons_succ]
        refine wpAnyK_take (i := 14) [18] (v := ?v26) rfl (by kernel_rfl) (by kernel_rfl) (by kernel_rfl) (by kernel_rfl) (fun _ _ _ h => h) (Or.inl ⟨by rfl, ?hy26⟩) hH ?rest26
        case hy26 => (intro w hSw; (try dsimp only at hSw); go_simp; with_reducible rfl)
        try simp only [Act.put, List.setIfInBounds_toArray, List.set_cons_zero, List.set_cons_succ]
        refine wpAnyK_take (i := 15) [18] (v := ?v27) rfl (by kernel_rfl) (by kernel_rfl) (by kernel_rfl) (by kernel_rfl) (fun _ _ _ h => h) (Or.inl ⟨by rfl, ?hy27⟩) hH ?rest27
        case hy27 => (intro w hSw; (try dsimp only at hSw); go_simp; with_reducible rfl)
        try simp only [Act.put, List.setIfInBounds_toArray, List.set_cons_zero, List.set_cons_succ]
        refine wpAnyK_one (i := 13) (by kernel_rfl) rfl (fun K hK => ?_) (by kernel_rfl)
        go_simp
        go_at_call 30
        refine HC.out.mono ?_
        rintro e w6 ⟨ca, cc, rfl, hco, hcb⟩
        have hW5z : W5.drew.heap.size = W5.heap.size := rfl
        have j0 : w6.cell? ⟨lb, 0, none⟩ = some (.map (some mb)) := (hcb.cell (p := ⟨lb, 0, none⟩) (World.block_lt_of_cell? _ _ g0)).trans g0
        have j1 : w6.cell? ⟨lb, 1, none⟩ = some (.int .i64 (last + 1)) := (hcb.cell (p := ⟨lb, 1, none⟩) (World.block_lt_of_cell? _ _ g1)).trans g1
        have H6 := Lib.hid (And.intro hco hcb)
        clear hco hcb
        refine hK.out _ _ ⟨j0, j1⟩ (fun hH => ?_)
        clear hK K
        try simp only [Act.put, List.setIfInBounds_toArray, List.set_cons_zero, List.set_cons_succ]
        refine wpAnyK_one (i := 16) (by kernel_rfl) rfl (fun K hK => ?_) (by kernel_rfl)
        go_simp
        go_at_call 31
        refine (hTl _).mono ?_
        rintro e v7 ⟨rfl, rfl⟩
        refine hK.out _ _ ⟨j0, j1⟩ (fun hH => ?_)
        clear hK K
        try simp only [Act.put, List.setIfInBounds_toArray, List.set_cons_zero, List.set_cons_succ]
        refine wpAnyK_take (i := 17) [18] (v := ?v28) rfl (by kernel_rfl) (by kernel_rfl) (by kernel_rfl) (by kernel_rfl) (fun _ _ _ h => h) (Or.inl ⟨by rfl, ?hy28⟩) hH ?rest28
        case hy28 => (intro w hSw; (try dsimp only at hSw); go_simp; with_reducible rfl)
        try simp only [Act.put, List.setIfInBounds_toArray, List.set_cons_zero, List.set_cons_succ]
        refine wpAnyK_last (by kernel_rfl) rfl (fun K hK => ?_) (by kernel_rfl)
        have hm6 : MapL ckZ cvL w6 mb (live now m) := (H5.out.1.mp.tn H5.out.2.2 (fun b hb e => H5.out.1.ne (by rw [hb, e]))).below ((Below.refl _ _).drew.trans H6.out.2)
        refine step_put rfl _ _ _ rfl keyZ und_map rfl hm6 (last + 1) rfl ⟨last + 1, ca, cc, vs, tz⟩ (by show _ = Value.agg #[.int .i64 (last + 1), .slice ca vs.length cc, .int .i64 tz]; rw [H.out.2.2.2.1]; rfl) ?_
        intro w8 hm8 ht8 hz8
        refine hK.out _ _ (wpAnyK_done (by kernel_rfl) ?_ _)
        clear hK K hH
        have hlen : (live now m).length < 16 := by rw [HA.out.1]; omega
        have hl8 : LsAt w8 lb (some mb) (live now m ++ [(last + 1, ⟨last + 1, ca, cc, vs, tz⟩)]) (last + 1) :=
          H5.out.1.grow (w1 := W5.drew) (H5.out.2.2.trans (Tn.drew (F := fun q => q = lb) W5)) g0 g1 (fun j => gf j) H6.out.2 (x := ⟨last + 1, ca, cc, vs, tz⟩) (by show Own eVec _ _ (.slice ca vs.length cc) vs; rw [H.out.2.2.2.1]; exact H6.out.1) rfl H.out.2.2.2.2.1 hl hlen hm8 ht8
        have T8 : Tn (foot lb (some mb)) w w8 := ((((Tn.ofBelow HA.out.2).trans (H4.out.2.1.mono (fun q e => .inr e))).trans ((H5.out.2.1.trans (Tn.drew (F := fun q => q = lb) W5)).mono (fun q e => .inl e))).trans (Tn.ofBelow H6.out.2)).andThen ht8 (fun q e => .inl (.inr (by rw [e])))
        have u1 := hl8.c1
        have HF := Lib.hid (And.intro hl8 (And.intro T8 hlen))
        clear hl8 T8 hm8 ht8 hz8 hm6 j0 j1 g0 g1 gf
        go_wp2_with fail
        go_ret2
        exact .inr ⟨HF.out.2.2, rfl, mb, _, HF.out.1, rfl, .inl rfl, HF.out.2.1, fun q off e => Nat.le_trans HA.out.2.size (Nat.le_trans H4.out.2.1.size (Nat.le_trans H5.out.2.1.size (H6.out.1.lt q (by rw [show ca = some ⟨q, off, none⟩ from e]; rfl)).1))⟩
    · intro pre k x post w2 htd hr2 ht2 hz2 hen
      obtain ⟨xi, ya, yc, xv, xt⟩ := x
      obtain ⟨yn, hyn⟩ : ∃ yn, xv.length = yn := ⟨_, rfl⟩
      have hcv : cvL ⟨xi, ya, yc, xv, xt⟩ = .agg #[.int .i64 xi, .slice ya yn yc, .int .i64 xt] := by rw [← hyn]; rfl
      rw [hcv] at hen ⊢
      simp only [ckZ] at hen ⊢
      have hsz : (live now todo).length = (if now < xt then 1 else 0) + (live now (pre ++ post)).length := by
        rw [htd, live_app, live_app]
        show (_ ++ List.filter _ (_ :: post)).length = _
        rw [List.filter_cons]
        by_cases hc : now < xt
        · rw [if_pos (by simpa using hc), if_pos hc, List.length_append, List.length_cons, List.length_append]; show _ + (_ + 1) = _; unfold live; omega
        · rw [if_neg (by simpa using hc), if_neg hc, List.length_append, List.length_append]; unfold live; omega
      have hb2 : Below w.heap.size w w2 := HR.out.2.2.trans ((ht2.below HR.out.2.2.size (fun k hk => by omega)))
      obtain ⟨W3, hW3⟩ : ∃ W3, w2.alloc (.cells #[.int .i64 xi, .slice ya yn yc, .int .i64 xt] 65) = W3 := ⟨_, rfl⟩
      have q0 : W3.cell? ⟨wr.heap.size, 0, none⟩ = some (.int .i64 xi) := by rw [← hW3, ← hz2]; simp [go_sem]
      have q1 : W3.cell? ⟨wr.heap.size, 1, none⟩ = some (.slice ya yn yc) := by rw [← hW3, ← hz2]; simp [go_sem]
      have q2 : W3.cell? ⟨wr.heap.size, 2, none⟩ = some (.int .i64 xt) := by rw [← hW3, ← hz2]; simp [go_sem]
      have hb3 : Below w2.heap.size w2 W3 := by rw [← hW3]; exact (Below.refl _ _).alloc (Nat.le_refl _) _
      have ho := over_any xi ya yn yc xt now
      have H2 := Lib.hid (And.intro hr2 (And.intro hsz (And.intro hb2 (And.intro htd hb3))))
      clear hr2 hsz hb2 htd ht2 hyn hcv hb3 hb
      by_cases hov : xt ≤ now
      · have t1 : decide (xt ≤ now) = true := decide_eq_true hov
        rw [t1] at ho
        clear t1
        go_wp2_with (go_at_call 29; refine (ho _).mono ?_; rintro e w5 ⟨rfl, hb5⟩; have H5 := Lib.hid (H2.out.2.2.2.2.trans (hb5.mono H2.out.2.2.2.2.size)); clear hb5)
        go_roundw
        case rel =>
          refine ⟨pre ++ post, acc, H2.out.1.tn (Tn.ofBelow (F := fun _ => False) H5.out) (fun _ _ e => e) (fun e => e), ?_, rfl, H2.out.2.2.1.trans (H5.out.mono H2.out.2.2.1.size)⟩
          have := HR.out.2.1
          have h7 := H2.out.2.1
          rw [if_neg (by omega)] at h7
          omega
        case measure =>
          have h7 := H2.out.1.tn (Tn.ofBelow (F := fun _ => False) H5.out) (fun _ _ e => e) (fun e => e)
          rw [h7.left, HR.out.1.left, H2.out.2.2.2.1]
          simp
      · have t1 : decide (xt ≤ now) = false := decide_eq_false hov
        rw [t1] at ho
        clear t1
        go_wp2_with (go_at_call 29; refine (ho _).mono ?_; rintro e w5 ⟨rfl, hb5⟩; have H5 := Lib.hid (H2.out.2.2.2.2.trans (hb5.mono H2.out.2.2.2.2.size)); clear hb5)
        go_roundw
        case rel =>
          refine ⟨pre ++ post, acc + 1, H2.out.1.tn (Tn.ofBelow (F := fun _ => False) H5.out) (fun _ _ e => e) (fun e => e), ?_, by go_num, H2.out.2.2.1.trans (H5.out.mono H2.out.2.2.1.size)⟩
          have := HR.out.2.1
          have h7 := H2.out.2.1
          rw [if_pos (by omega)] at h7
          omega
        case measure =>
          have h7 := H2.out.1.tn (Tn.ofBelow (F := fun _ => False) H5.out) (fun _ _ e => e) (fun e => e)
          rw [h7.left, HR.out.1.left, H2.out.2.2.2.1]
          simp

set_option maxRecDepth 100000 in
set_option maxHeartbeats 4000000 in
theorem acquire_go_none (h : LsAt w lb none m last) (hl : last < 1000000) {xa : Option Addr} {xc : Nat} {vs : List Int} (hx : RdX (foot lb none) w ⟨0, xa, xc, vs, 0⟩) (hv : validB vs = true) (ttl now : Int) (hr : rightB ttl now = true) :
    Calls Tryz.prog 7 #[.pointer (some ⟨lb, 0, none⟩), .slice xa vs.length xc, .int .i64 ttl, .int .i64 now] w fun e w' =>
      (16 ≤ (live now m).length ∧ e = .returned (.tuple #[.int .i64 0, .int .i64 24]) ∧ Below w.heap.size w w') ∨
      ((live now m).length < 16 ∧ e = .returned (.tuple #[.int .i64 (last + 1), .int .i64 0]) ∧ AcqOk w w' lb none m last now vs (tillZ ttl now)) := by
  have hV := valid_any hx.rd
  rw [hv] at hV
  have hR := right_any ttl now
  rw [hr] at hR
  have hTl := till_any ttl now hr
  have hq := qMap
  have hmk : ∀ w, (Instr.makeMap 30 none).run Tryz.prog w = .ok (.map (some w.heap.size)) (w.alloc (.map #[] 0)) := fun _ => rfl
  have hE := exp_live h.ok h.nodup now
  have c0 := h.c0
  have hob : ∀ q, none = some q → q < w.heap.size := fun q hq => h.mp.lt hq
  have hlm : m.length ≤ 16 := h.ok.few
  have hl0 : 0 ≤ last := h.ok.last.1
  obtain ⟨tz, htz⟩ : ∃ tz, tillZ ttl now = tz := ⟨_, rfl⟩
  simp only [htz] at hTl ⊢
  obtain ⟨nv, hnv⟩ : ∃ nv, vs.length = nv := ⟨_, rfl⟩
  have hV2 : Calls Tryz.prog 27 #[.slice xa nv xc] w fun e w' => e = .returned (.bool true) ∧ w = w' := by rw [← hnv]; exact hV
  have hnv8 : vs.length ≤ 8 := by
    simp only [validB, Bool.and_eq_true, decide_eq_true_eq] at hv
    exact hv.1.2
  rw [hnv]
  have hw0 := h.ltd
  have H := Lib.hid (And.intro h (And.intro hx (And.intro hE (And.intro hnv (And.intro hv (And.intro hnv8 hob))))))
  clear hV h hx hr hv hE htz hnv hnv8 hob
  go_enter Tryz.func7, Tryz.ntmps7
  go_wp2_with (first
    | (at_range; refine wpl_range rfl _ rfl und_map rfl (show MapV ckZ cvL _ none m from H.out.1.mp) ?_; intro w1 hr hb1 hz1; have H1 := Lib.hid (And.intro hr hb1); clear hr hb1)
    | (go_at_call 28; refine (hR _).mono ?_; rintro e v2 ⟨rfl, rfl⟩)
    | (go_at_call 27; refine hV2.mono ?_; rintro e v1 ⟨rfl, rfl⟩))
  clear hV2 hR
  go_frame
  go_loopw [10, 12] (fun nv _ wr => ∃ todo acc, RngV ckZ cvL wr none w.heap.size m todo ∧ (live now m).length = acc + (live now todo).length ∧ nv = .int .i64 ((acc : Nat) : Int) ∧ Below w.heap.size w wr) (fun _ _ wr => leftN wr none w.heap.size)
  case atStart => exact ⟨m, 0, H1.out.1, by omega, rfl, H1.out.2⟩
  case round =>
    obtain ⟨todo, acc, hr, hacc, rfl, hb⟩ := hrel
    have hal : acc ≤ 16 := by have := live_len now m; omega
    have HR := Lib.hid (And.intro hr (And.intro hacc hb))
    have hrl := hr.lt
    clear hr hacc
    go_wp2_with (at_next; refine wpl_next rfl _ rfl rfl HR.out.1 ?_ ?_)
    · intro h0
      have HE := Lib.hid h0
      clear h0
      have hacc : (live now m).length = acc := by have h5 := HR.out.2.1; rw [HE.out] at h5; exact h5
      have hLr := H.out.1.below hb
      have d0 := (hb.cell (p := ⟨lb, 0, none⟩) hw0).trans c0
      clear HE
      by_cases hfull : 16 ≤ acc
      · have r1 : (16 : Int) ≤ (acc : Int) := by omega
        have HA := Lib.hid hacc
        clear hacc hLr hb
        go_wp2
        go_ret2
        exact .inl ⟨by rw [HA.out]; exact hfull, rfl, HR.out.2.2⟩
      · have r1 : ¬ (16 : Int) ≤ (acc : Int) := by omega
        have hX := expire_any hLr now
        rw [H.out.2.2.1] at hX
        have HA := Lib.hid (And.intro hacc hb)
        clear hacc hLr hb
        go_wp2_with (first
          | (go_at_call 14; go_loud (refine hX.mono ?_); rintro e w4 ⟨xa4, xn4, xc4, rfl, _, _, hl4, ht4⟩
             have f0 := hl4.c0
             have f1 := hl4.c1
             have ff := hl4.fz
             have hw4 : lb < w4.heap.size := hl4.ltd
             have hm0 : m = [] := H.out.1.mp
             obtain ⟨W41, hW41⟩ : ∃ W41, w4.alloc (.map #[] 0) = W41 := ⟨_, rfl⟩
             have a4 : Below w4.heap.size w4 W41 := by rw [← hW41]; exact (Below.refl _ _).alloc (Nat.le_refl _) _
             have a0 : W41.cell? ⟨lb, 0, none⟩ = some (.map none) := (a4.cell (p := ⟨lb, 0, none⟩) hw4).trans f0
             have a1 : W41.cell? ⟨lb, 1, none⟩ = some (.int .i64 last) := (a4.cell (p := ⟨lb, 1, none⟩) hw4).trans f1
             have af : ∀ j, W41.frozen? ⟨lb, j, none⟩ = false := fun j => (a4.frozen (p := ⟨lb, j, none⟩) hw4).trans (ff j)
             obtain ⟨w5, hw5⟩ : ∃ w5, W41.setCell ⟨lb, 0, none⟩ (.map (some w4.heap.size)) = w5 := ⟨_, rfl⟩
             have b0 : w5.cell? ⟨lb, 0, none⟩ = some (.map (some w4.heap.size)) := by rw [← hw5]; exact World.cell?_setCell_same _ _ _ a0
             have b1 : w5.cell? ⟨lb, 1, none⟩ = some (.int .i64 last) := by rw [← hw5]; exact cell_set a1 (by omega)
             have bf : ∀ j, w5.frozen? ⟨lb, j, none⟩ = false := fun j => by rw [← hw5]; simp [go_sem, af]
             have T5 : Tn (fun q => q = lb) W41 w5 := by rw [← hw5]; exact Tn.setCell _ _ _ rfl
             have m5 : MapL ckZ cvL w5 w4.heap.size ([] : Lm) := by
               have h9 : MapL ckZ cvL W41 w4.heap.size ([] : Lm) := by rw [← hW41]; exact MapL.made w4
               exact h9.tn T5 (by omega)
             have l5 : LsAt w5 lb (some w4.heap.size) (live now m) last := by
               subst hm0
               exact ⟨b0, b1, m5, bf, fun p hp => (by cases hp), ⟨fun p hp => (by cases hp), fun p hp => (by cases hp), fun p hp => (by cases hp), hl4.ok.last, by simp [live]⟩, fun e => by have := Option.some.inj e; omega⟩
             have HM := Lib.hid (And.intro l5 (And.intro ((Tn.ofBelow (F := fun q => q = lb) a4).trans T5) trivial))
             clear l5 m5 T5 a4 hm0
             have H4 := Lib.hid (And.intro hl4 (And.intro ht4 trivial)); clear hl4 ht4))
        obtain ⟨W5, hW5⟩ : ∃ W5, w5.setCell ⟨lb, 1, none⟩ (.int .i64 (last + 1)) = W5 := ⟨_, rfl⟩
        rw [hW5]
        have g0 : W5.drew.cell? ⟨lb, 0, none⟩ = some (.map (some w4.heap.size)) := by rw [← hW5]; exact cell_set b0 (by omega)
        have g1 : W5.drew.cell? ⟨lb, 1, none⟩ = some (.int .i64 (last + 1)) := by rw [← hW5]; exact World.cell?_setCell_same _ _ _ b1
        have gf : ∀ j, W5.drew.frozen? ⟨lb, j, none⟩ = false := fun j => by rw [← hW5]; simp [go_sem, bf]
        have t55 : Tn (fun q => q = lb) w5 W5 := by rw [← hW5]; exact Tn.setCell _ _ _ rfl
        have H5 := Lib.hid (And.intro HM.out.1 (And.intro (HM.out.2.1.trans t55) t55))
        clear t55 hW5 f0 f1 ff b0 b1 bf
        have hx5 : RdI W5.drew (.slice xa nv xc) vs := by
          rw [← H.out.2.2.2.1]
          exact (((H.out.2.1.tn (Tn.ofBelow (F := fun _ => False) HA.out.2) (fun _ _ e => e.elim)).tn H4.out.2.1 (fun q _ e => .inr e)).tn (H5.out.2.1.trans (Tn.drew (F := fun q => q = lb) W5)) (fun q _ e => .inl e)).rd
        have hC := clone_any hx5 (by have := H.out.2.2.2.2.2.1; omega)
        rw [H.out.2.2.2.1] at hC
        have HC := Lib.hid hC
        clear hC hx5
        refine wp_region_K (fun w' => w'.cell? ⟨lb, 0, none⟩ = some (.map (some w4.heap.size)) ∧ w'.cell? ⟨lb, 1, none⟩ = some (.int .i64 (last + 1))) 18 19 (by kernel_rfl) (by kernel_rfl) ⟨g0, g1⟩ (fun hH => ?_)
        refine wpAnyK_take (i := 0) [18] (v := ?v29) rfl (by kernel_rfl) (by kernel_rfl) (by kernel_rfl) (by kernel_rfl) (fun _ _ _ h => h) (Or.inl ⟨by rfl, ?hy29⟩) hH ?rest29
        case hy29 => (intro w hSw; (try dsimp only at hSw); go_simp; with_reducible rfl)
        try simp only [Act.put, List.setIfInBounds_toArray, List.set_cons_zero, List.set_cons_succ]
        refine wpAnyK_take (i := 1) [18] (v := ?v30) rfl (by kernel_rfl) (by kernel_rfl) (by kernel_rfl) (by kernel_rfl) (fun _ _ _ h => h) (Or.inl ⟨by rfl, ?hy30⟩) hH ?rest30
        case hy30 => (intro w hSw; (try dsimp only at hSw); go_simp; with_reducible rfl)
        try simp only [Act.put, List.setIfInBounds_toArray, List.set_cons_zero, List.set_cons_succ]
        refine wpAnyK_take (i := 2) [18] (v := ?v31) rfl (by kernel_rfl) (by kernel_rfl) (by kernel_rfl) (by kernel_rfl) (fun _ _ _ h => h) (Or.inl ⟨by rfl, ?hy31⟩) hH ?rest31
        case hy31 => (intro w hSw; (try dsimp only at hSw); go_simp; with_reducible rfl)
        try simp only [Act.put, List.setIfInBounds_toArray, List.set_cons_zero, List.set_cons_succ]
        refine wpAnyK_take (i := 3) [18] (v := ?v32) rfl (by kernel_rfl) (by kernel_rfl) (by kernel_rfl) (by kernel_rfl) (fun _ _ _ h => h) (Or.inl ⟨by rfl, ?hy32⟩) hH ?rest32
        case hy32 => (intro w hSw; (try dsimp only at hSw); go_simp; with_reducible rfl)
        try simp only [Act.put, List.setIfInBounds_toArray, List.set_cons_zero, List.set_cons_succ]
        refine wpAnyK_take (i := 4) [18] (v := ?v33) rfl (by kernel_rfl) (by kernel_rfl) (by kernel_rfl) (by kernel_rfl) (fun _ _ _ h => h) (Or.inl ⟨by rfl, ?hy33⟩) hH ?rest33
        case hy33 => (intro w hSw; (try dsimp only at hSw); go_simp; with_reducible rfl)
        try simp only [Act.put, List.setIfInBounds_toArray, List.set_cons_zero, List.set_cons_succ]
        refine wpAnyK_take (i := 5) [18] (v := ?v34) rfl (by kernel_rfl) (by kernel_rfl) (by kernel_rfl) (by kernel_rfl) (fun _ _ _ h => h) (Or.inl ⟨by rfl, ?hy34⟩) hH ?rest34
        case hy34 => (intro w hSw; (try dsimp only at hSw); go_simp; with_reducible rfl)
        try simp only [Act.put, List.setIfInBounds_toArray, List.set_cons_zero, List.set_cons_succ]
        refine wpAnyK_take (i := 6) [18] (v := ?v35) rfl (by kernel_rfl) (by kernel_rfl) (by kernel_rfl) (by kernel_rfl) (fun _ _ _ h => h) (Or.inl ⟨by rfl, ?hy35⟩) hH ?rest35
        case hy35 => (intro w hSw; (try dsimp only at hSw); go_simp; with_reducible rfl)
        try simp only [Act.put, List.setIfInBounds_toArray, List.set_cons_zero, List.set_cons_succ]
        refine wpAnyK_take (i := 7) [18] (v := ?v36) rfl (by kernel_rfl) (by kernel_rfl) (by kernel_rfl) (by kernel_rfl) (fun _ _ _ h => h) (Or.inl ⟨by rfl, ?hy36⟩) hH ?rest36
        case hy36 => (intro w hSw; (try dsimp only at hSw); go_simp; with_reducible rfl)
        try simp only [Act.put, List.setIfInBounds_toArray, List.set_cons_zero, List.set_cons_succ]
        refine wpAnyK_take (i := 8) [18] (v := ?v37) rfl (by kernel_rfl) (by kernel_rfl) (by kernel_rfl) (by kernel_rfl) (fun _ _ _ h => h) (Or.inl ⟨by rfl, ?hy37⟩) hH ?rest37
        case hy37 => (intro w hSw; (try dsimp only at hSw); go_simp; with_reducible rfl)
        try simp only [Act.put, List.setIfInBounds_toArray, List.set_cons_zero, List.set_cons_succ]
        refine wpAnyK_take (i := 9) [18] (v := ?v38) rfl (by kernel_rfl) (by kernel_rfl) (by kernel_rfl) (by kernel_rfl) (fun _ _ _ h => h) (Or.inl ⟨by rfl, ?hy38⟩) hH ?rest38
        case hy38 => (intro w hSw; (try dsimp only at hSw); go_simp; with_reducible rfl)
        try simp only [Act.put, List.setIfInBounds_toArray, List.set_cons_zero, List.set_cons_succ]
        refine wpAnyK_take (i := 10) [18] (v := ?v39) rfl (by kernel_rfl) (by kernel_rfl) (by kernel_rfl) (by kernel_rfl) (fun _ _ _ h => h) (Or.inl ⟨by rfl, ?hy39⟩) hH ?rest39
        case hy39 => (intro w hSw; (try dsimp only at hSw); go_simp; with_reducible rfl)
        try simp only [Act.put, List.setIfInBounds_toArray, List.set_cons_zero, List.set_cons_succ]
        refine wpAnyK_take (i := 11) [18] (v := ?v40) rfl (by kernel_rfl) (by kernel_rfl) (by kernel_rfl) (by kernel_rfl) (fun _ _ _ h => h) (Or.inl ⟨by rfl, ?hy40⟩) hH ?rest40
        case hy40 => (intro w hSw; (try dsimp only at hSw); go_simp; with_reducible rfl)
        try simp only [Act.put, List.setIfInBounds_toArray, List.set_cons_zero, List.set_cons_succ]
        refine wpAnyK_take (i := 12) [18] (v := ?v41) rfl (by kernel_rfl) (by kernel_rfl) (by kernel_rfl) (by kernel_rfl) (fun _ _ _ h => h) (Or.inl ⟨by rfl, ?hy41⟩) hH ?rest41
        case hy41 => (intro w hSw; (try dsimp only at hSw); go_simp; with_reducible rfl)
        try simp only [Act.put, List.setIfInBounds_toArray, List.set_cons_zero, List.set_cons_succ]
        refine wpAnyK_take (i := 14) [18] (v := ?v42) rfl (by kernel_rfl) (by kernel_rfl) (by kernel_rfl) (by kernel_rfl) (fun _ _ _ h => h) (Or.inl ⟨by rfl, ?hy42⟩) hH ?rest42
        case hy42 => (intro w hSw; (try dsimp only at hSw); go_simp; with_reducible rfl)
        try simp only [Act.put, List.setIfInBounds_toArray, List.set_cons_zero, List.set_cons_succ]
        refine wpAnyK_take (i := 15) [18] (v := ?v43) rfl (by kernel_rfl) (by kernel_rfl) (by kernel_rfl) (by kernel_rfl) (fun _ _ _ h => h) (Or.inl ⟨by rfl, ?hy43⟩) hH ?rest43
        case hy43 => (intro w hSw; (try dsimp only at hSw); go_simp; with_reducible rfl)
        try simp only [Act.put, List.setIfInBounds_toArray, List.set_cons_zero, List.set_cons_succ]
        refine wpAnyK_one (i := 13) (by kernel_rfl) rfl (fun K hK => ?_) (by kernel_rfl)
        go_simp
        go_at_call 30
        refine HC.out.mono ?_
        rintro e w6 ⟨ca, cc, rfl, hco, hcb⟩
        have hW5z : W5.drew.heap.size = W5.heap.size := rfl
        have j0 : w6.cell? ⟨lb, 0, none⟩ = some (.map (some w4.heap.size)) := (hcb.cell (p := ⟨lb, 0, none⟩) (World.block_lt_of_cell? _ _ g0)).trans g0
        have j1 : w6.cell? ⟨lb, 1, none⟩ = some (.int .i64 (last + 1)) := (hcb.cell (p := ⟨lb, 1, none⟩) (World.block_lt_of_cell? _ _ g1)).trans g1
        have H6 := Lib.hid (And.intro hco hcb)
        clear hco hcb
        refine hK.out _ _ ⟨j0, j1⟩ (fun hH => ?_)
        clear hK K
        try simp only [Act.put, List.setIfInBounds_toArray, List.set_cons_zero, List.set_cons_succ]
        refine wpAnyK_one (i := 16) (by kernel_rfl) rfl (fun K hK => ?_) (by kernel_rfl)
        go_simp
        go_at_call 31
        refine (hTl _).mono ?_
        rintro e v7 ⟨rfl, rfl⟩
        refine hK.out _ _ ⟨j0, j1⟩ (fun hH => ?_)
        clear hK K
        try simp only [Act.put, List.setIfInBounds_toArray, List.set_cons_zero, List.set_cons_succ]
        refine wpAnyK_take (i := 17) [18] (v := ?v44) rfl (by kernel_rfl) (by kernel_rfl) (by kernel_rfl) (by kernel_rfl) (fun _ _ _ h => h) (Or.inl ⟨by rfl, ?hy44⟩) hH ?rest44
        case hy44 => (intro w hSw; (try dsimp only at hSw); go_simp; with_reducible rfl)
        try simp only [Act.put, List.setIfInBounds_toArray, List.set_cons_zero, List.set_cons_succ]
        refine wpAnyK_last (by kernel_rfl) rfl (fun K hK => ?_) (by kernel_rfl)
        have hm6 : MapL ckZ cvL w6 w4.heap.size (live now m) := (H5.out.1.mp.tn H5.out.2.2 (fun b hb e => H5.out.1.ne (by rw [hb, e]))).below ((Below.refl _ _).drew.trans H6.out.2)
        refine step_put rfl _ _ _ rfl keyZ und_map rfl hm6 (last + 1) rfl ⟨last + 1, ca, cc, vs, tz⟩ (by show _ = Value.agg #[.int .i64 (last + 1), .slice ca vs.length cc, .int .i64 tz]; rw [H.out.2.2.2.1]; rfl) ?_
        intro w8 hm8 ht8 hz8
        refine hK.out _ _ (wpAnyK_done (by kernel_rfl) ?_ _)
        clear hK K hH
        have hlen : (live now m).length < 16 := by rw [HA.out.1]; omega
        have hl8 : LsAt w8 lb (some w4.heap.size) (live now m ++ [(last + 1, ⟨last + 1, ca, cc, vs, tz⟩)]) (last + 1) :=
          H5.out.1.grow (w1 := W5.drew) (H5.out.2.2.trans (Tn.drew (F := fun q => q = lb) W5)) g0 g1 (fun j => gf j) H6.out.2 (x := ⟨last + 1, ca, cc, vs, tz⟩) (by show Own eVec _ _ (.slice ca vs.length cc) vs; rw [H.out.2.2.2.1]; exact H6.out.1) rfl H.out.2.2.2.2.1 hl hlen hm8 ht8
        have T8 : Tn (foot lb none) w w8 := ((((Tn.ofBelow HA.out.2).trans (H4.out.2.1.mono (fun q e => .inr e))).trans ((H5.out.2.1.trans (Tn.drew (F := fun q => q = lb) W5)).mono (fun q e => .inl e))).trans (Tn.ofBelow H6.out.2)).andThen ht8 (fun q e => .inr (by rw [e]; exact Nat.le_trans HA.out.2.size H4.out.2.1.size))
        have u1 := hl8.c1
        have HF := Lib.hid (And.intro hl8 (And.intro T8 hlen))
        clear hl8 T8 hm8 ht8 hz8 hm6 j0 j1 g0 g1 gf
        go_wp2_with fail
        go_ret2
        exact .inr ⟨HF.out.2.2, rfl, w4.heap.size, _, HF.out.1, rfl, .inr (Nat.le_trans HA.out.2.size H4.out.2.1.size), HF.out.2.1, fun q off e => Nat.le_trans HA.out.2.size (Nat.le_trans H4.out.2.1.size (Nat.le_trans H5.out.2.1.size (H6.out.1.lt q (by rw [show ca = some ⟨q, off, none⟩ from e]; rfl)).1))⟩
    · intro pre k x post w2 htd hr2 ht2 hz2 hen
      obtain ⟨xi, ya, yc, xv, xt⟩ := x
      obtain ⟨yn, hyn⟩ : ∃ yn, xv.length = yn := ⟨_, rfl⟩
      have hcv : cvL ⟨xi, ya, yc, xv, xt⟩ = .agg #[.int .i64 xi, .slice ya yn yc, .int .i64 xt] := by rw [← hyn]; rfl
      rw [hcv] at hen ⊢
      simp only [ckZ] at hen ⊢
      have hsz : (live now todo).length = (if now < xt then 1 else 0) + (live now (pre ++ post)).length := by
        rw [htd, live_app, live_app]
        show (_ ++ List.filter _ (_ :: post)).length = _
        rw [List.filter_cons]
        by_cases hc : now < xt
        · rw [if_pos (by simpa using hc), if_pos hc, List.length_append, List.length_cons, List.length_append]; show _ + (_ + 1) = _; unfold live; omega
        · rw [if_neg (by simpa using hc), if_neg hc, List.length_append, List.length_append]; unfold live; omega
      have hb2 : Below w.heap.size w w2 := HR.out.2.2.trans ((ht2.below HR.out.2.2.size (fun k hk => by omega)))
      obtain ⟨W3, hW3⟩ : ∃ W3, w2.alloc (.cells #[.int .i64 xi, .slice ya yn yc, .int .i64 xt] 65) = W3 := ⟨_, rfl⟩
      have q0 : W3.cell? ⟨wr.heap.size, 0, none⟩ = some (.int .i64 xi) := by rw [← hW3, ← hz2]; simp [go_sem]
      have q1 : W3.cell? ⟨wr.heap.size, 1, none⟩ = some (.slice ya yn yc) := by rw [← hW3, ← hz2]; simp [go_sem]
      have q2 : W3.cell? ⟨wr.heap.size, 2, none⟩ = some (.int .i64 xt) := by rw [← hW3, ← hz2]; simp [go_sem]
      have hb3 : Below w2.heap.size w2 W3 := by rw [← hW3]; exact (Below.refl _ _).alloc (Nat.le_refl _) _
      have ho := over_any xi ya yn yc xt now
      have H2 := Lib.hid (And.intro hr2 (And.intro hsz (And.intro hb2 (And.intro htd hb3))))
      clear hr2 hsz hb2 htd ht2 hyn hcv hb3 hb
      by_cases hov : xt ≤ now
      · have t1 : decide (xt ≤ now) = true := decide_eq_true hov
        rw [t1] at ho
        clear t1
        go_wp2_with (go_at_call 29; refine (ho _).mono ?_; rintro e w5 ⟨rfl, hb5⟩; have H5 := Lib.hid (H2.out.2.2.2.2.trans (hb5.mono H2.out.2.2.2.2.size)); clear hb5)
        go_roundw
        case rel =>
          refine ⟨pre ++ post, acc, H2.out.1.tn (Tn.ofBelow (F := fun _ => False) H5.out) (fun _ _ e => e) (fun e => e), ?_, rfl, H2.out.2.2.1.trans (H5.out.mono H2.out.2.2.1.size)⟩
          have := HR.out.2.1
          have h7 := H2.out.2.1
          rw [if_neg (by omega)] at h7
          omega
        case measure =>
          have h7 := H2.out.1.tn (Tn.ofBelow (F := fun _ => False) H5.out) (fun _ _ e => e) (fun e => e)
          rw [h7.left, HR.out.1.left, H2.out.2.2.2.1]
          simp
      · have t1 : decide (xt ≤ now) = false := decide_eq_false hov
        rw [t1] at ho
        clear t1
        go_wp2_with (go_at_call 29; refine (ho _).mono ?_; rintro e w5 ⟨rfl, hb5⟩; have H5 := Lib.hid (H2.out.2.2.2.2.trans (hb5.mono H2.out.2.2.2.2.size)); clear hb5)
        go_roundw
        case rel =>
          refine ⟨pre ++ post, acc + 1, H2.out.1.tn (Tn.ofBelow (F := fun _ => False) H5.out) (fun _ _ e => e) (fun e => e), ?_, by go_num, H2.out.2.2.1.trans (H5.out.mono H2.out.2.2.1.size)⟩
          have := HR.out.2.1
          have h7 := H2.out.2.1
          rw [if_pos (by omega)] at h7
          omega
        case measure =>
          have h7 := H2.out.1.tn (Tn.ofBelow (F := fun _ => False) H5.out) (fun _ _ e => e) (fun e => e)
          rw [h7.left, HR.out.1.left, H2.out.2.2.2.1]
          simp
end Go.Proofs.YtnegappgdpeabaaGreat
/-
  Lease: leases that were made behind a world; the first calls; a lease is renewed time and again.
-/
namespace Go.Proofs.YtnegappgdpeabaaGreat
open Go.RowKit
variable {w w' w0 w1 w2 w3 w4 : World} {mb lb B : Nat} {ob : Option Nat} {m : Lm} {last : Int}

/-- Leases that were made behind the world w0. -/
structure LsW (B : Nat) (w0 w : World) (lb : Nat) (ob : Option Nat) (m : Lm) (last : Int) : Prop where
  a : LsAt w lb ob m last
  b : Below B w0 w
  hl : B ≤ lb
  hm : ∀ q, ob = some q → B ≤ q
  hz : B ≤ w.heap.size
theorem LsW.stay (h : LsW B w0 w lb ob m last) (hb : Below w.heap.size w w') : LsW B w0 w' lb ob m last := ⟨h.a.below hb, h.b.trans (hb.mono h.hz), h.hl, h.hm, Nat.le_trans h.hz hb.size⟩
theorem LsW.go (h : LsW B w0 w lb ob m last) {m' : Lm} (h2 : LsAt w' lb ob m' last) (ht : Tn (fun q => ob = some q) w w') : LsW B w0 w' lb ob m' last :=
  ⟨h2, h.b.trans (ht.below h.hz (fun k hk => h.hm k hk)), h.hl, h.hm, Nat.le_trans h.hz ht.size⟩
theorem LsW.acq (h : LsW B w0 w lb ob m last) {now t : Int} {vs : List Int} (h2 : AcqOk w w' lb ob m last now vs t) :
    ∃ mb x, LsW B w0 w' lb (some mb) (live now m ++ [(last + 1, x)]) (last + 1) ∧ core x = (last + 1, vs, t) := by
  obtain ⟨mb, x, h3, h4, h5, h6, _⟩ := h2
  refine ⟨mb, x, ⟨h3, h.b.trans (h6.below h.hz (fun k hk => ?_)), h.hl, fun q hq => ?_, Nat.le_trans h.hz h6.size⟩, h4⟩
  · rcases hk with e | e
    · rw [e]; exact h.hl
    · exact h.hm k e
  · obtain rfl := Option.some.inj hq
    rcases h5 with e | e
    · exact h.hm _ e
    · exact Nat.le_trans h.hz e
theorem c_new (hb : Below B w0 w) (hz : B ≤ w.heap.size) : Calls Tryz.prog 5 #[] w fun e w' => e = .returned (.pointer (some ⟨w.heap.size, 0, none⟩)) ∧ LsW B w0 w' w.heap.size none [] 0 :=
  (new_any w).mono (by
    rintro e w' ⟨h1, h2, h3⟩
    exact ⟨h1, h2, hb.trans (h3.mono hz), hz, fun q hq => (by cases hq), Nat.le_trans hz h3.size⟩)
theorem rdX_new (h : LsAt w lb ob m last) {cs : Array Value} {t : TypeId} {vs : List Int} (hc : cs = (vs.map (fun k => Value.int .i64 k)).toArray) : RdX (foot lb ob) (w.alloc (.cells cs t)) ⟨0, some ⟨w.heap.size, 0, none⟩, vs.length, vs, 0⟩ := by
  refine .inr ⟨w.heap.size, 0, rfl, ?_, by simp, fun i hi => ?_⟩
  · rintro (e | e)
    · have := h.ltd; omega
    · have := h.mp.lt e; omega
  · subst hc
    have hi2 : i < vs.length := hi
    simp [go_sem, hi2]
/-- One is made, where there is room. -/
theorem c_acq (h : LsW B w0 w lb ob m last) (hl : last < 1000000) {xa : Option Addr} {xc n : Nat} {vs : List Int} (hn : vs.length = n) (hx : RdX (foot lb ob) w ⟨0, xa, xc, vs, 0⟩) (hv : validB vs = true) (ttl now : Int) (hr : rightB ttl now = true) {t i : Int} (ht : tillZ ttl now = t) (hi : last + 1 = i) {m' : Lm} (hm : live now m = m') (hlv : m'.length < 16) :
    Calls Tryz.prog 7 #[.pointer (some ⟨lb, 0, none⟩), .slice xa n xc, .int .i64 ttl, .int .i64 now] w fun e w' =>
      e = .returned (.tuple #[.int .i64 i, .int .i64 0]) ∧ ∃ mb x, LsW B w0 w' lb (some mb) (m' ++ [(i, x)]) i ∧ core x = (i, vs, t) := by
  subst hn hi
  have hA : Calls Tryz.prog 7 #[.pointer (some ⟨lb, 0, none⟩), .slice xa vs.length xc, .int .i64 ttl, .int .i64 now] w fun e w' =>
      (16 ≤ (live now m).length ∧ e = .returned (.tuple #[.int .i64 0, .int .i64 24]) ∧ Below w.heap.size w w') ∨
      ((live now m).length < 16 ∧ e = .returned (.tuple #[.int .i64 (last + 1), .int .i64 0]) ∧ AcqOk w w' lb ob m last now vs (tillZ ttl now)) := by
    cases ob with
    | none => exact acquire_go_none h.a hl hx hv ttl now hr
    | some mb => exact acquire_go_some h.a hl hx hv ttl now hr
  refine hA.mono ?_
  rintro e w' (⟨h1, _⟩ | ⟨_, rfl, h2⟩)
  · rw [hm] at h1; omega
  · rw [ht] at h2
    have h3 := h.acq h2
    rw [hm] at h3
    exact ⟨rfl, h3⟩
theorem c_exp (h : LsW B w0 w lb ob m last) (now : Int) {l : List Int} {n : Nat} (hl : expI now ((sortM m).map core) = l) (hn : l.length = n) {m' : Lm} (hm : live now m = m') : Calls Tryz.prog 14 #[.pointer (some ⟨lb, 0, none⟩), .int .i64 now] w fun e w' =>
    ∃ a c, e = .returned (.slice a n c) ∧ Own eInt w' w.heap.size (.slice a n c) l ∧ LsW B w0 w' lb ob m' last := by
  refine (expire_any h.a now).mono ?_
  rintro e w' ⟨a, k, c, rfl, h1, h2, h3, h4⟩
  rw [hl, hn] at h1
  subst h1
  rw [exp_live h.a.ok h.a.nodup, hm] at h3
  rw [hl] at h2
  exact ⟨a, c, rfl, h2, h.go h3 h4⟩
theorem c_meet (h : LsW B w0 w lb ob m last) {k : Nat} (hk0 : 1 ≤ k) (hk8 : k ≤ 8) (hk : ∀ p ∈ m, p.2.vs.length = k) {l : List Int} (hl : meetAll ((sortM m).map (·.vs)) = l) {n : Nat} (hn : l.length = n) : Calls Tryz.prog 26 #[.pointer (some ⟨lb, 0, none⟩)] w fun e w' =>
    ∃ a c, e = .returned (.slice a n c) ∧ RdI w' (.slice a n c) l ∧ LsW B w0 w' lb ob m last := by
  subst hn
  refine (meetAll_any h.a hk0 hk8 hk).mono ?_
  rintro e w' ⟨v, rfl, h1, h2⟩
  rw [hl] at h1
  obtain ⟨a, c, rfl, h3⟩ := h1
  exact ⟨a, c, rfl, ⟨a, c, rfl, h3⟩, h.stay h2⟩

theorem c_there (h : LsW B w0 w lb ob m last) (id now : Int) {k : Int} (hk : (getL m id = none ∧ k = 22) ∨ (∃ x, getL m id = some x ∧ x.till ≤ now ∧ k = 51)) :
    Calls Tryz.prog 37 #[.pointer (some ⟨lb, 0, none⟩), .int .i64 id, .int .i64 now] w fun e w' => e = .returned (.tuple #[.agg #[.int .i64 0, .slice none 0 0, .int .i64 0], .int .i64 k]) ∧ Below w.heap.size w w' := by
  rcases hk with ⟨hg, rfl⟩ | ⟨x, hg, hx, rfl⟩
  · exact there_none h.a id now hg
  · have := there_some h.a id now hg
    rw [if_pos hx] at this
    exact this
theorem c_renew_no (h : LsW B w0 w lb ob m last) (id ttl now : Int) (hr : rightB ttl now = true) {k : Int} (hk : (getL m id = none ∧ k = 22) ∨ (∃ x, getL m id = some x ∧ x.till ≤ now ∧ k = 51)) :
    Calls Tryz.prog 10 #[.pointer (some ⟨lb, 0, none⟩), .int .i64 id, .int .i64 ttl, .int .i64 now] w fun e w' => e = .returned (.int .i64 k) ∧ LsW B w0 w' lb ob m last :=
  (renew_no lb id ttl now hr (by rcases hk with ⟨_, rfl⟩ | ⟨_, _, _, rfl⟩ <;> simp) (c_there h id now hk)).mono fun _ _ ⟨h1, h2⟩ => ⟨h1, h.stay h2⟩
theorem c_release_no (h : LsW B w0 w lb ob m last) (id now : Int) {k : Int} (hk : (getL m id = none ∧ k = 22) ∨ (∃ x, getL m id = some x ∧ x.till ≤ now ∧ k = 51)) :
    Calls Tryz.prog 12 #[.pointer (some ⟨lb, 0, none⟩), .int .i64 id, .int .i64 now] w fun e w' => e = .returned (.int .i64 k) ∧ LsW B w0 w' lb ob m last :=
  (release_no lb id now (by rcases hk with ⟨_, rfl⟩ | ⟨_, _, _, rfl⟩ <;> simp) (c_there h id now hk)).mono fun _ _ ⟨h1, h2⟩ => ⟨h1, h.stay h2⟩
theorem c_renew (h : LsW B w0 w lb ob m last) (id ttl now : Int) (hr : rightB ttl now = true) {x : Lv} (hg : getL m id = some x) (hl : now < x.till) {t : Int} (ht : max x.till (tillZ ttl now) = t) {m' : Lm} (hm : setL m id { x with till := t } = m') :
    Calls Tryz.prog 10 #[.pointer (some ⟨lb, 0, none⟩), .int .i64 id, .int .i64 ttl, .int .i64 now] w fun e w' => e = .returned (.int .i64 0) ∧ LsW B w0 w' lb ob m' last := by
  subst ht hm
  exact (renew_ok h.a id ttl now hg hr hl).mono fun _ _ ⟨h1, h2, h3⟩ => ⟨h1, h.go h2 h3⟩
theorem c_release (h : LsW B w0 w lb ob m last) (id now : Int) {x : Lv} (hg : getL m id = some x) (hl : now < x.till) {m' : Lm} (hm : delL m id = m') :
    Calls Tryz.prog 12 #[.pointer (some ⟨lb, 0, none⟩), .int .i64 id, .int .i64 now] w fun e w' => e = .returned (.int .i64 0) ∧ LsW B w0 w' lb ob m' last := by
  subst hm
  exact (release_ok h.a id now hg hl).mono fun _ _ ⟨h1, h2, h3⟩ => ⟨h1, h.go h2 h3⟩
theorem c_get (h : LsW B w0 w lb ob m last) (id : Int) {x : Lv} (hg : getL m id = some x) {i t : Int} {vs : List Int} (hc : core x = (i, vs, t)) {n : Nat} (hn : vs.length = n) :
    Calls Tryz.prog 18 #[.pointer (some ⟨lb, 0, none⟩), .int .i64 id] w fun e w' => ∃ a c, e = .returned (.tuple #[.agg #[.int .i64 i, .slice a n c, .int .i64 t], .int .i64 0]) ∧ Own eVec w' w.heap.size (.slice a n c) vs ∧ LsW B w0 w' lb ob m last ∧ Below w.heap.size w w' := by
  obtain ⟨xi, xa, xc, xv, xt⟩ := x
  have e1 : xi = i := congrArg (fun c => c.1) hc
  have e2 : xv = vs := congrArg (fun c => c.2.1) hc
  have e3 : xt = t := congrArg (fun c => c.2.2) hc
  subst e1 e2 e3 hn
  exact (get_some h.a id hg).mono fun _ _ ⟨a, c, h1, h2, h3⟩ => ⟨a, c, h1, h2, h.stay h3, h3⟩
theorem c_get_none (h : LsW B w0 w lb ob m last) (id : Int) (hg : getL m id = none) :
    Calls Tryz.prog 18 #[.pointer (some ⟨lb, 0, none⟩), .int .i64 id] w fun e w' => e = .returned (.tuple #[.agg #[.int .i64 0, .slice none 0 0, .int .i64 0], .int .i64 22]) ∧ LsW B w0 w' lb ob m last ∧ Below w.heap.size w w' :=
  (get_none h.a id hg).mono fun _ _ ⟨h1, h2⟩ => ⟨h1, h.stay h2, h2⟩

theorem rdI_new {cs : Array Value} {t : TypeId} {vs : List Int} (hc : cs = (vs.map (fun k => Value.int .i64 k)).toArray) : RdI (w.alloc (.cells cs t)) (.slice (some ⟨w.heap.size, 0, none⟩) vs.length vs.length) vs := by
  refine ⟨_, _, rfl, .inr ⟨w.heap.size, 0, rfl, by simp, fun i hi => ?_⟩⟩
  subst hc
  simp [go_sem, hi]
theorem RdI.drewN {x : Value} {l : List Int} (h : RdI w x l) (k : Nat) : RdI (w.drewN k) x l := h
theorem drewN_below (w : World) (k : Nat) : Below w.heap.size w (w.drewN k) := ⟨rfl, rfl, rfl, Nat.le_refl _, fun _ _ => rfl⟩
theorem leqV_refl (a : List Int) : leqV a a := ⟨rfl, fun i _ _ => Int.le_refl _⟩
set_option maxHeartbeats 1000000 in
theorem same_any {x y : Value} {a : List Int} (hx : RdI w x a) (hy : RdI w y a) (hl : a.length ≤ 1000000) :
    Calls Tryz.prog 25 #[x, y] w fun e w' => e = .returned (.bool true) ∧ Below w.heap.size w w' := by
  have h1 := leq_any hx hy (leqV_refl a) hl
  have h2 : ∀ k, Calls Tryz.prog 110 #[y, x] (w.drewN k) fun e w' => e = .returned (.bool true) ∧ ∃ k2, w' = (w.drewN k).drewN k2 := fun k => leq_any (hy.drewN k) (hx.drewN k) (leqV_refl a) hl
  obtain ⟨xa, xc, rfl, -⟩ := hx
  obtain ⟨ya, yc, rfl, -⟩ := hy
  obtain ⟨n, hn⟩ : ∃ n, a.length = n := ⟨_, rfl⟩
  rw [hn] at h1 h2 ⊢
  clear hn hl
  go_enter Tryz.func25, Tryz.ntmps25
  go_wp2_with (first
    | (go_at_call 110; with_reducible refine (h2 k).mono ?_; rintro e v2 ⟨rfl, k2, hk2⟩; have hbk : Below (w.drewN k).heap.size (w.drewN k) v2 := (by rw [hk2]; exact drewN_below _ _); have HK := Lib.hid hbk; clear hk2 hbk)
    | (go_at_call 110; go_loud (with_reducible refine h1.mono ?_); rintro e v1 ⟨rfl, k, rfl⟩; have HJ := Lib.hid (drewN_below w k)))
  go_ret
  exact ⟨rfl, HJ.out.trans (HK.out.mono HJ.out.size)⟩

theorem sortZ_sorted {l : List Int} (h : l.Pairwise (· ≤ ·)) : sortZ l = l := List.mergeSort_of_pairwise (h.imp (fun h => by simpa using h))
/-- Where the ids rise: the leases as they lie. -/
theorem sortM_rise (hs : (m.map (·.1)).Pairwise (· < ·)) : sortM m = m.map (·.2) := by
  have hn : (m.map (·.1)).Nodup := hs.imp (fun h => by omega)
  unfold sortM
  rw [sortZ_sorted (hs.imp (fun h => by omega))]
  rw [List.filterMap_map]
  have : ∀ p ∈ m, (getL m ∘ fun x => x.1) p = some p.2 := fun p hp => getL_mem hn hp
  clear hs hn
  have key : ∀ l : Lm, (∀ p ∈ l, (getL m ∘ fun x => x.1) p = some p.2) → l.filterMap (getL m ∘ fun x => x.1) = l.map (fun x => x.2) := by
    intro l
    induction l with
    | nil => intro _; rfl
    | cons p l ih =>
      intro h
      rw [List.filterMap_cons_some (h p List.mem_cons_self), List.map_cons, ih (fun q hq => h q (List.mem_cons_of_mem _ hq))]
  exact key m this

theorem own_one {B : Nat} {a : Option Addr} {c : Nat} {x : Int} (h : Own eInt w B (.slice a 1 c) [x]) : ∃ g, a = some ⟨g, 0, none⟩ ∧ w.cell? ⟨g, 0, none⟩ = some (.int .i64 x) := by
  have h0 := h
  rcases h.2 with ⟨e, e0⟩ | ⟨g, cap', cur, e, hg, hh, hn', hc, hcl, htk⟩
  · simp at e0
  · have e1 := (Value.slice.inj e).1
    have e2 := (Value.slice.inj e).2.2
    subst e1
    exact ⟨g, rfl, h0.cellAt 0 (by simp)⟩
set_option maxRecDepth 100000 in
set_option maxHeartbeats 4000000 in
theorem alive_any (w : World) : Calls Tryz.prog 4 #[] w fun e w' => e = .returned (.bool true) ∧ Below w.heap.size w w' := by
  go_enter Tryz.func4, Tryz.ntmps4
  go_wp2_with (first
    | (go_at_call 25
       have hr5 : RdI (v5.alloc (.cells #[.int .i64 3] 3)) (.slice ma 1 mc) [3] := RdI.below H5.out.1 ((Below.refl _ _).alloc (Nat.le_refl _) _)
       have hr6 : RdI (v5.alloc (.cells #[.int .i64 3] 3)) (.slice (some ⟨v5.heap.size, 0, none⟩) 1 1) [3] := rdI_new (vs := [3]) rfl
       have hb6 := H5.out.2.stay ((Below.refl _ _).alloc (Nat.le_refl _) (.cells #[.int .i64 3] 3))
       go_loud (refine (same_any hr5 hr6 (by simp)).mono ?_); rintro e v6 ⟨rfl, hb⟩; have H6 := Lib.hid (hb6.stay hb); clear hb hb6 hr5 hr6)
    | (go_at_call 26; go_loud (refine (c_meet H4.out.2.2.2 (k := 1) (by omega) (by omega) (fun p hp => by rw [List.mem_singleton.1 hp]; show x2.vs.length = 1; rw [H4.out.2.2.1]; rfl) (l := [3]) (by rw [sortM_rise (by simp)]; show x2.vs = _; exact H4.out.2.2.1) rfl).mono ?_); rintro e v5 ⟨ma, mc, rfl, h5⟩; have H5 := Lib.hid h5; clear h5)
    | (go_at_call 14
       have hs3 : sortM [(1, x1), (2, x2)] = [x1, x2] := sortM_rise (m := [(1, x1), (2, x2)]) (by simp)
       have e1 : x1.till = 10 := congrArg (fun c => c.2.2) H2.out.2.1
       have e2 : x2.till = 15 := congrArg (fun c => c.2.2) H3.out.2
       go_loud (refine (c_exp H3.out.1 10 (l := [1]) (n := 1) (by show expI 10 ((sortM [(1, x1), (2, x2)]).map core) = [1]; rw [hs3]; show expI 10 [core x1, core x2] = [1]; rw [H2.out.2.1, H3.out.2]; rfl) rfl (m' := [(2, x2)]) (by show List.filter _ [(1, x1), (2, x2)] = _; simp [List.filter_cons, e1, e2])).mono ?_); rintro e v4 ⟨ea, ec, rfl, h4, h5⟩
       obtain ⟨g, rfl, hg⟩ := own_one h4
       have H4 := Lib.hid (And.intro trivial (And.intro trivial (And.intro (show x2.vs = [3] from congrArg (fun c => c.2.1) H3.out.2) h5))); clear h4 h5)
    | (go_at_call 7
       have e1 : x1.till = 10 := congrArg (fun c => c.2.2) H2.out.2.1
       have hw := H2.out.1.stay ((Below.refl _ _).alloc (Nat.le_refl _) (.cells #[.int .i64 3] 3))
       go_loud (refine (c_acq hw (by omega) (vs := [3]) rfl (rdX_new H2.out.1.a rfl) (by decide) 10 5 (by decide) (t := 15) (by decide) (i := 2) (by decide) (m' := [(1, x1)]) (by show List.filter _ [(1, x1)] = _; simp [List.filter_cons, e1]) (by simp)).mono ?_); rintro e v3 ⟨rfl, mb3, x2, h3⟩; have H3 := Lib.hid h3; clear h3 hw e1)
    | (go_at_call 7
       have hw := H1.out.stay ((Below.refl _ _).alloc (Nat.le_refl _) (.cells #[.int .i64 5] 3))
       go_loud (refine (c_acq hw (by omega) (vs := [5]) rfl (rdX_new H1.out.a rfl) (by decide) 10 0 (by decide) (t := 10) (by decide) (i := 1) (by decide) (m' := []) rfl (by simp)).mono ?_); rintro e v2 ⟨rfl, mb2, x1, h2, h2c⟩; have H2 := Lib.hid (And.intro h2 (And.intro h2c trivial)); clear h2 h2c hw)
    | (go_at_call 5; refine (c_new (w0 := w) (Below.refl _ _) (Nat.le_refl _)).mono ?_; rintro e v1 ⟨rfl, h1⟩; have H1 := Lib.hid h1; clear h1))
  go_ret
  exact ⟨rfl, H6.out.b⟩

theorem and_in (x : Int) (k : Nat) (hk : k < 4611686018427387904) : 0 ≤ bits .and .i64 x (k : Int) ∧ bits .and .i64 x (k : Int) ≤ (k : Int) := by
  have h1 : (BitVec.ofInt 64 x &&& BitVec.ofInt 64 (k : Int)).toNat ≤ k := by
    rw [BitVec.toNat_and]
    refine Nat.le_trans Nat.and_le_right ?_
    rw [BitVec.toNat_ofInt]
    omega
  have h2 : bits .and .i64 x (k : Int) = IntKind.i64.wrap ((BitVec.ofInt 64 x &&& BitVec.ofInt 64 (k : Int)).toNat : Int) := rfl
  rw [h2, IntWalk.i64_in _ (by omega)]
  omega
end Go.Proofs.YtnegappgdpeabaaGreat
/-
  Leases and what others turn. (Out of LsN.)
-/
namespace Go.Proofs.YtnegappgdpeabaaGreat
open Go.RowKit
variable {w w' w0 w1 w2 w3 w4 : World} {mb lb B : Nat} {ob : Option Nat} {m : Lm} {last now : Int} {H : List Lv} {v v' : Value}
def full (lb : Nat) (ob : Option Nat) (m : Lm) (q : Nat) : Prop := foot lb ob q ∨ ∃ p ∈ m, ∃ off, p.2.sa = some ⟨q, off, none⟩
def heldF (v : Value) (H : List Lv) (q : Nat) : Prop := v.ownBlock = some q ∨ ∃ x ∈ H, x.sl.ownBlock = some q
theorem full_lt (h : LsAt w lb ob m last) {q : Nat} (hq : full lb ob m q) : q < w.heap.size ∨ ∃ p ∈ m, p.2.vs = [] := by
  rcases hq with (rfl | e) | ⟨p, hp, off, e⟩
  · exact .inl h.ltd
  · exact .inl (h.mp.lt e)
  · rcases h.rd p hp with h1 | ⟨b, off2, e2, _, hlt, _⟩
    · exact .inr ⟨p, hp, h1⟩
    · rw [e] at e2; injection e2 with e2; injection e2 with e2; exact .inl (by omega)
theorem LsAt.tn2 (h : LsAt w lb ob m last) {G : Nat → Prop} (ht : Tn G w w') (hG : ∀ q, full lb ob m q → ¬ G q) : LsAt w' lb ob m last :=
  ⟨ht.cell h.c0 (hG _ (.inl (.inl rfl))), ht.cell h.c1 (hG _ (.inl (.inl rfl))), h.mp.tn ht (fun b hb => hG b (.inl (.inr hb))), fun j => (ht.frozen (p := ⟨lb, j, none⟩) h.ltd (hG _ (.inl (.inl rfl)))).trans (h.fz j), fun p hp => by
    refine (h.rd p hp).imp id ?_
    rintro ⟨b, off, ha, hf, hlt, hc⟩
    exact ⟨b, off, ha, hf, Nat.lt_of_lt_of_le hlt ht.size, fun i hi => ht.cell (hc i hi) (hG b (.inr ⟨p, hp, off, ha⟩))⟩, h.ok, h.ne⟩
end Go.Proofs.YtnegappgdpeabaaGreat
