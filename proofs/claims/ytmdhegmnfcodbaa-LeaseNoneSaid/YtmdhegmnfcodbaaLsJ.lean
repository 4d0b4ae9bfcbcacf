/-
  Lease: one is renewed.
-/
import Derived.Test.YtmdhegmnfcodbaaLsI
namespace Go.Proofs.Ytmdhegmnfcodbaa
open Go.RowKit
variable {w w' w0 w1 w2 w3 : World} {mb lb B : Nat} {ob : Option Nat} {m : Lm} {last : Int}

theorem setL_mem {m : Lm} {k : Int} {v : Lv} {p : Int × Lv} (h : p ∈ setL m k v) : p = (k, v) ∨ (p ∈ m ∧ (p.1 ≠ k ∨ ∀ q ∈ m, q.1 ≠ k)) := by
  unfold setL at h
  split at h
  · obtain ⟨q, hq, rfl⟩ := List.mem_map.1 h
    by_cases hk : q.1 = k
    · rw [if_pos hk]; exact .inl rfl
    · rw [if_neg hk]; exact .inr ⟨hq, .inl hk⟩
  · rename_i hn
    rcases List.mem_append.1 h with h | h
    · exact .inr ⟨h, .inr fun q hq e => hn (List.any_eq_true.2 ⟨q, hq, by simpa using e⟩)⟩
    · exact .inl (List.mem_singleton.1 h)
theorem setL_len {m : Lm} {k : Int} {v x : Lv} (h : getL m k = some x) : (setL m k v).length = m.length := by
  have : m.any (fun p => decide (p.1 = k)) = true := List.any_eq_true.2 ⟨(k, x), getL_in h, by simp⟩
  unfold setL
  rw [if_pos this, List.length_map]
/-- A lease's end turns. -/
theorem LsAt.set (h : LsAt w lb ob m last) {id : Int} {x : Lv} (hg : getL m id = some x) (t : Int) (hm : MapV ckZ cvL w' ob (setL m id { x with till := t })) (ht : Tn (fun q => ob = some q) w w') : LsAt w' lb ob (setL m id { x with till := t }) last := by
  have hx := getL_in hg
  have hp : ∀ p ∈ setL m id { x with till := t }, ∃ q ∈ m, q.1 = p.1 ∧ q.2.id = p.2.id ∧ q.2.vs = p.2.vs ∧ q.2.sa = p.2.sa := fun p hp => by
    rcases setL_mem hp with rfl | ⟨h1, _⟩
    · exact ⟨_, hx, rfl, rfl, rfl, rfl⟩
    · exact ⟨p, h1, rfl, rfl, rfl, rfl⟩
  refine ⟨ht.cell h.c0 h.ne, ht.cell h.c1 h.ne, hm, fun j => (ht.frozen (p := ⟨lb, j, none⟩) h.ltd h.ne).trans (h.fz j), fun p h1 => ?_, ⟨fun p h1 => ?_, fun p h1 => ?_, fun p h1 => ?_, h.ok.last, by rw [setL_len hg]; exact h.ok.few⟩, h.ne⟩
  · obtain ⟨q, hq, e1, e2, e3, e4⟩ := hp p h1
    have h5 : RdX (foot lb ob) w p.2 := by unfold RdX; rw [← e3, ← e4]; exact h.rd q hq
    exact h5.tn ht (fun q _ hq => .inr hq)
  · obtain ⟨q, hq, e1, e2, e3, e4⟩ := hp p h1
    rw [← e1, ← e2]; exact h.ok.id q hq
  · obtain ⟨q, hq, e1, e2, e3, e4⟩ := hp p h1
    rw [← e1]; exact h.ok.key q hq
  · obtain ⟨q, hq, e1, e2, e3, e4⟩ := hp p h1
    rw [← e3]; exact h.ok.vec q hq

theorem renew_arg (lb : Nat) (id ttl now : Int) (hr : rightB ttl now = false) (w : World) : Calls Try.prog 13 #[.pointer (some ⟨lb, 0, none⟩), .int .i64 id, .int .i64 ttl, .int .i64 now] w fun e w' => e = .returned (.int .i64 1) ∧ w = w' := by
  have hR := right_any ttl now w
  rw [hr] at hR
  clear hr
  go_enter Try.func13, Try.ntmps13
  go_wp2_with (go_at_call 20; refine hR.mono ?_; rintro e v1 ⟨rfl, rfl⟩)
  go_ret
  exact ⟨rfl, rfl⟩
set_option maxRecDepth 100000 in
set_option maxHeartbeats 1000000 in
theorem renew_no (lb : Nat) (id ttl now : Int) (hr : rightB ttl now = true) {k : Int} (hk : k = 22 ∨ k = 51)
    (hT : Calls Try.prog 25 #[.pointer (some ⟨lb, 0, none⟩), .int .i64 id, .int .i64 now] w fun e w' => e = .returned (.tuple #[.agg #[.int .i64 0, .slice none 0 0, .int .i64 0], .int .i64 k]) ∧ Below w.heap.size w w') :
    Calls Try.prog 13 #[.pointer (some ⟨lb, 0, none⟩), .int .i64 id, .int .i64 ttl, .int .i64 now] w fun e w' => e = .returned (.int .i64 k) ∧ Below w.heap.size w w' := by
  have hR := right_any ttl now w
  rw [hr] at hR
  have k0 : ¬ k = 0 := by omega
  clear hr hk
  go_enter Try.func13, Try.ntmps13
  go_wp2_with (first
    | (go_at_call 25; refine hT.mono ?_; rintro e w1 ⟨rfl, hb1⟩; have H1 := Lib.hid hb1; clear hb1)
    | (go_at_call 20; refine hR.mono ?_; rintro e v1 ⟨rfl, rfl⟩))
  go_ret
  exact ⟨rfl, H1.out.alloc H1.out.size _⟩

set_option maxRecDepth 100000 in
set_option maxHeartbeats 1000000 in
theorem release_no (lb : Nat) (id now : Int) {k : Int} (hk : k = 22 ∨ k = 51)
    (hT : Calls Try.prog 25 #[.pointer (some ⟨lb, 0, none⟩), .int .i64 id, .int .i64 now] w fun e w' => e = .returned (.tuple #[.agg #[.int .i64 0, .slice none 0 0, .int .i64 0], .int .i64 k]) ∧ Below w.heap.size w w') :
    Calls Try.prog 14 #[.pointer (some ⟨lb, 0, none⟩), .int .i64 id, .int .i64 now] w fun e w' => e = .returned (.int .i64 k) ∧ Below w.heap.size w w' := by
  have k0 : ¬ k = 0 := by omega
  clear hk
  go_enter Try.func14, Try.ntmps14
  go_wp2_with (go_at_call 25; refine hT.mono ?_; rintro e w1 ⟨rfl, hb1⟩; have H1 := Lib.hid hb1; clear hb1)
  go_ret
  exact ⟨rfl, H1.out.alloc H1.out.size _⟩
set_option maxRecDepth 100000 in
set_option maxHeartbeats 1000000 in
theorem release_ok (h : LsAt w lb ob m last) (id now : Int) {x : Lv} (hg : getL m id = some x) (hl : now < x.till) :
    Calls Try.prog 14 #[.pointer (some ⟨lb, 0, none⟩), .int .i64 id, .int .i64 now] w fun e w' =>
      e = .returned (.int .i64 0) ∧ LsAt w' lb ob (delL m id) last ∧ Tn (fun q => ob = some q) w w' := by
  have hT := there_some h id now hg
  rw [if_neg (by omega)] at hT
  have c0 := h.c0
  have H := Lib.hid h
  obtain ⟨xi, xa, xc, xv, xt⟩ := x
  obtain ⟨nv, hnv⟩ : ∃ nv, xv.length = nv := ⟨_, rfl⟩
  have hcv : cvL ⟨xi, xa, xc, xv, xt⟩ = .agg #[.int .i64 xi, .slice xa nv xc, .int .i64 xt] := by rw [← hnv]; rfl
  rw [hcv] at hT
  clear h hg hl hnv hcv
  go_enter Try.func14, Try.ntmps14
  go_wp2_with (
      (go_at_call 25; refine hT.mono ?_; rintro e w1 ⟨rfl, hb1⟩
       obtain ⟨W2, hW2⟩ : ∃ W2, w1.alloc (.cells #[.int .i64 xi, .slice xa nv xc, .int .i64 xt] 35) = W2 := ⟨_, rfl⟩
       have b2 : Below w.heap.size w W2 := by rw [← hW2]; exact hb1.alloc hb1.size _
       have d0 := (b2.cell (p := ⟨lb, 0, none⟩) H.out.ltd).trans c0
       obtain ⟨w3, hdel, hm3, ht3, hz3⟩ := MapV.del (H.out.below b2).mp keyZ und_map 0 id
       have hdel' : (Builtin.delete_ #[51, 3] 0 #[.map ob, .int .i64 id]).run Try.prog W2 = .ok (.tuple #[]) w3 := hdel
       have H1 := Lib.hid b2; have H3 := Lib.hid (And.intro hm3 ht3); clear hb1 b2 hm3 ht3 hdel hz3))
  go_ret
  exact ⟨rfl, (H.out.below H1.out).del H3.out.1 H3.out.2, (Tn.ofBelow H1.out).trans H3.out.2⟩

set_option maxRecDepth 100000 in
set_option maxHeartbeats 1000000 in
theorem renew_ok (h : LsAt w lb ob m last) (id ttl now : Int) {x : Lv} (hg : getL m id = some x) (hr : rightB ttl now = true) (hl : now < x.till) :
    Calls Try.prog 13 #[.pointer (some ⟨lb, 0, none⟩), .int .i64 id, .int .i64 ttl, .int .i64 now] w fun e w' =>
      e = .returned (.int .i64 0) ∧ LsAt w' lb ob (setL m id { x with till := max x.till (tillZ ttl now) }) last ∧ Tn (fun q => ob = some q) w w' := by
  have hT := there_some h id now hg
  rw [if_neg (by omega)] at hT
  have hR := right_any ttl now w
  rw [hr] at hR
  have hTl := till_any ttl now hr
  obtain ⟨tz, htz⟩ : ∃ tz, tillZ ttl now = tz := ⟨_, rfl⟩
  simp only [htz] at hTl ⊢
  have c0 := h.c0
  obtain ⟨mb, rfl⟩ : ∃ mb, ob = some mb := by
    have h1 := h.mp
    cases ob with
    | none => rw [show m = [] from h1] at hg; cases hg
    | some mb => exact ⟨mb, rfl⟩
  have H := Lib.hid (And.intro h hg)
  obtain ⟨xi, xa, xc, xv, xt⟩ := x
  obtain ⟨nv, hnv⟩ : ∃ nv, xv.length = nv := ⟨_, rfl⟩
  have hcv : ∀ t, cvL ⟨xi, xa, xc, xv, t⟩ = .agg #[.int .i64 xi, .slice xa nv xc, .int .i64 t] := fun t => by rw [← hnv]; rfl
  rw [hcv] at hT
  have HCV := Lib.hid hcv
  clear h hg hr hl htz hnv hcv
  go_enter Try.func13, Try.ntmps13
  go_wp2_with (first
    | (go_at_call 25; refine hT.mono ?_; rintro e w1 ⟨rfl, hb1⟩
       have d0 := (hb1.cell (p := ⟨lb, 0, none⟩) H.out.1.ltd).trans c0
       obtain ⟨W2, hW2⟩ : ∃ W2, w1.alloc (.cells #[.int .i64 xi, .slice xa nv xc, .int .i64 xt] 35) = W2 := ⟨_, rfl⟩
       have q0 : W2.cell? ⟨w1.heap.size, 0, none⟩ = some (.int .i64 xi) := by rw [← hW2]; simp [go_sem]
       have q1 : W2.cell? ⟨w1.heap.size, 1, none⟩ = some (.slice xa nv xc) := by rw [← hW2]; simp [go_sem]
       have q2 : W2.cell? ⟨w1.heap.size, 2, none⟩ = some (.int .i64 xt) := by rw [← hW2]; simp [go_sem]
       have qf : ∀ j, W2.frozen? ⟨w1.heap.size, j, none⟩ = false := fun j => by rw [← hW2]; simp [go_sem]
       have e0 : W2.cell? ⟨lb, 0, none⟩ = some (.map (some mb)) := by rw [← hW2]; exact (((Below.refl _ _).alloc (Nat.le_refl _) _).cell (p := ⟨lb, 0, none⟩) (World.block_lt_of_cell? _ _ d0)).trans d0
       have b2 : Below w1.heap.size w1 W2 := by rw [← hW2]; exact (Below.refl _ _).alloc (Nat.le_refl _) _
       have H1 := Lib.hid (And.intro hb1 b2); clear hb1 b2)
    | (go_at_call 20; refine hR.mono ?_; rintro e v1 ⟨rfl, rfl⟩))
  have kd0 : W2.drew.cell? ⟨w1.heap.size, 0, none⟩ = some (.int .i64 xi) := q0
  have kd1 : W2.drew.cell? ⟨w1.heap.size, 1, none⟩ = some (.slice xa nv xc) := q1
  have kd2 : W2.drew.cell? ⟨w1.heap.size, 2, none⟩ = some (.int .i64 xt) := q2
  have kd3 : W2.drew.cell? ⟨lb, 0, none⟩ = some (.map (some mb)) := e0
  have kf : ∀ j, W2.drew.frozen? ⟨w1.heap.size, j, none⟩ = false := qf
  have hz2 : W2.heap.size = w1.heap.size + 1 := by rw [← hW2]; simp
  have HZ := Lib.hid (And.intro hz2 qf)
  clear q0 q1 q2 e0 qf hz2
  refine wp_region_K (fun w' => w'.cell? ⟨w1.heap.size, 2, none⟩ = some (.int .i64 xt)) 7 8 (by kernel_rfl) (by kernel_rfl) kd2 (fun hH => ?_)
  refine wpAnyK_take (i := 0) [7] (v := ?v1) rfl (by kernel_rfl) (by kernel_rfl) (by kernel_rfl) (by kernel_rfl) (fun _ _ _ h => h) (Or.inl ⟨by rfl, ?hy1⟩) hH ?rest1
  case hy1 => (intro w hSw; (try dsimp only at hSw); go_simp; with_reducible rfl)
  try simp only [Act.put, List.setIfInBounds_toArray, List.set_cons_zero, List.set_cons_succ]
  refine wpAnyK_take (i := 1) [7] (v := ?v2) rfl (by kernel_rfl) (by kernel_rfl) (by kernel_rfl) (by kernel_rfl) (fun _ _ _ h => h) (Or.inl ⟨by rfl, ?hy2⟩) hH ?rest2
  case hy2 => (intro w hSw; (try dsimp only at hSw); go_simp; with_reducible rfl)
  try simp only [Act.put, List.setIfInBounds_toArray, List.set_cons_zero, List.set_cons_succ]
  refine wpAnyK_take (i := 2) [7] (v := ?v3) rfl (by kernel_rfl) (by kernel_rfl) (by kernel_rfl) (by kernel_rfl) (fun _ _ _ h => h) (Or.inl ⟨by rfl, ?hy3⟩) hH ?rest3
  case hy3 => (intro w hSw; (try dsimp only at hSw); go_simp; with_reducible rfl)
  try simp only [Act.put, List.setIfInBounds_toArray, List.set_cons_zero, List.set_cons_succ]
  refine wpAnyK_take (i := 3) [7] (v := ?v4) rfl (by kernel_rfl) (by kernel_rfl) (by kernel_rfl) (by kernel_rfl) (fun _ _ _ h => h) (Or.inl ⟨by rfl, ?hy4⟩) hH ?rest4
  case hy4 => (intro w hSw; (try dsimp only at hSw); go_simp; with_reducible rfl)
  try simp only [Act.put, List.setIfInBounds_toArray, List.set_cons_zero, List.set_cons_succ]
  refine wpAnyK_one (i := 4) (by kernel_rfl) rfl (fun K hK => ?_) (by kernel_rfl)
  go_simp
  go_at_call 23
  refine (hTl _).mono ?_
  rintro e v3 ⟨rfl, rfl⟩
  refine hK.out _ _ kd2 (fun hH => ?_)
  clear hK K
  try simp only [Act.put, List.setIfInBounds_toArray, List.set_cons_zero, List.set_cons_succ]
  refine wpAnyK_take (i := 5) [7] (v := ?v5) rfl (by kernel_rfl) (by kernel_rfl) (by kernel_rfl) (by kernel_rfl) (fun _ _ _ h => h) (Or.inl ⟨by rfl, ?hy5⟩) hH ?rest5
  case hy5 => (intro w hSw; (try dsimp only at hSw); go_simp; with_reducible rfl)
  try simp only [Act.put, List.setIfInBounds_toArray, List.set_cons_zero, List.set_cons_succ]
  refine wpAnyK_take (i := 6) [7] (v := ?v6) rfl (by kernel_rfl) (by kernel_rfl) (by kernel_rfl) (by kernel_rfl) (fun _ _ _ h => h) (Or.inl ⟨by rfl, ?hy6⟩) hH ?rest6
  case hy6 => (intro w hSw; (try dsimp only at hSw); go_simp; with_reducible rfl)
  try simp only [Act.put, List.setIfInBounds_toArray, List.set_cons_zero, List.set_cons_succ]
  refine wpAnyK_last (by kernel_rfl) rfl (fun K hK => ?_) (by kernel_rfl)
  go_simp
  refine hK.out _ _ (wpAnyK_done (by kernel_rfl) ?_ _)
  clear hK K hH
  obtain ⟨tm, htm⟩ : ∃ tm, max xt tz = tm := ⟨_, rfl⟩
  rw [htm]
  have hlbne : lb ≠ w1.heap.size := by have h9 : lb < w1.heap.size := World.block_lt_of_cell? _ _ d0; omega
  obtain ⟨W3, hW3⟩ : ∃ W3, W2.setCell ⟨w1.heap.size, 2, none⟩ (.int .i64 tm) = W3 := ⟨_, rfl⟩
  have s0 : W3.cell? ⟨w1.heap.size, 0, none⟩ = some (.int .i64 xi) := by rw [← hW3]; exact cell_set kd0 (by omega)
  have s1 : W3.cell? ⟨w1.heap.size, 1, none⟩ = some (.slice xa nv xc) := by rw [← hW3]; exact cell_set kd1 (by omega)
  have s2 : W3.cell? ⟨w1.heap.size, 2, none⟩ = some (.int .i64 tm) := by rw [← hW3]; exact World.cell?_setCell_same _ _ _ kd2
  have s3 : W3.cell? ⟨lb, 0, none⟩ = some (.map (some mb)) := by
    rw [← hW3]
    exact (Tn.setCell (F := fun q => q = w1.heap.size) W2 ⟨w1.heap.size, 2, none⟩ _ rfl).cell kd3 (fun e => hlbne e)
  have b3 : Below w.heap.size w W3 := by rw [← hW3]; exact (H1.out.1.trans (H1.out.2.mono H1.out.1.size)).setCell H1.out.1.size _
  have H3 := Lib.hid (And.intro b3 htm)
  rw [hW3]
  clear b3 htm hlbne hW3 kd0 kd1 kd2 kd3 kf HZ hW2 d0 c0
  go_wp2_with fail
  have u0 : W3.drew.drew.cell? ⟨w1.heap.size, 0, none⟩ = some (.int .i64 xi) := s0
  have u1 : W3.drew.drew.cell? ⟨w1.heap.size, 1, none⟩ = some (.slice xa nv xc) := s1
  have u2 : W3.drew.drew.cell? ⟨w1.heap.size, 2, none⟩ = some (.int .i64 tm) := s2
  have u3 : W3.drew.drew.cell? ⟨lb, 0, none⟩ = some (.map (some mb)) := s3
  refine wp_region_K (fun w' => w'.cell? ⟨lb, 0, none⟩ = some (.map (some mb)) ∧ w'.cell? ⟨w1.heap.size, 0, none⟩ = some (.int .i64 xi) ∧ w'.cell? ⟨w1.heap.size, 1, none⟩ = some (.slice xa nv xc) ∧ w'.cell? ⟨w1.heap.size, 2, none⟩ = some (.int .i64 tm)) 6 7 (by kernel_rfl) (by kernel_rfl) ⟨u3, u0, u1, u2⟩ (fun hH => ?_)
  refine wpAnyK_take (i := 0) [6] (v := ?v7) rfl (by kernel_rfl) (by kernel_rfl) (by kernel_rfl) (by kernel_rfl) (fun _ _ _ h => h) (Or.inl ⟨by rfl, ?hy7⟩) hH ?rest7
  case hy7 => (intro w hSw; (try dsimp only at hSw); go_simp; with_reducible rfl)
  try simp only [Act.put, List.setIfInBounds_toArray, List.set_cons_zero, List.set_cons_succ]
  refine wpAnyK_take (i := 1) [6] (v := ?v8) rfl (by kernel_rfl) (by kernel_rfl) (by kernel_rfl) (by kernel_rfl) (fun _ _ _ h => h) (Or.inl ⟨by rfl, ?hy8⟩) hH ?rest8
  case hy8 => (intro w hSw; (try dsimp only at hSw); go_simp; with_reducible rfl)
  try simp only [Act.put, List.setIfInBounds_toArray, List.set_cons_zero, List.set_cons_succ]
  refine wpAnyK_take (i := 2) [6] (v := ?v9) rfl (by kernel_rfl) (by kernel_rfl) (by kernel_rfl) (by kernel_rfl) (fun _ _ _ h => h) (Or.inl ⟨by rfl, ?hy9⟩) hH ?rest9
  case hy9 => (intro w hSw; (try dsimp only at hSw); go_simp; with_reducible rfl)
  try simp only [Act.put, List.setIfInBounds_toArray, List.set_cons_zero, List.set_cons_succ]
  refine wpAnyK_take (i := 3) [6] (v := ?v10) rfl (by kernel_rfl) (by kernel_rfl) (by kernel_rfl) (by kernel_rfl) (fun _ _ _ h => h) (Or.inl ⟨by rfl, ?hy10⟩) hH ?rest10
  case hy10 => (intro w hSw; (try dsimp only at hSw); go_simp; with_reducible rfl)
  try simp only [Act.put, List.setIfInBounds_toArray, List.set_cons_zero, List.set_cons_succ]
  refine wpAnyK_take (i := 4) [6] (v := ?v11) rfl (by kernel_rfl) (by kernel_rfl) (by kernel_rfl) (by kernel_rfl) (fun _ _ _ h => h) (Or.inl ⟨by rfl, ?hy11⟩) hH ?rest11
  case hy11 => (intro w hSw; (try dsimp only at hSw); go_simp; with_reducible rfl)
  try simp only [Act.put, List.setIfInBounds_toArray, List.set_cons_zero, List.set_cons_succ]
  refine wpAnyK_take (i := 5) [6] (v := ?v12) rfl (by kernel_rfl) (by kernel_rfl) (by kernel_rfl) (by kernel_rfl) (fun _ _ _ h => h) (Or.inl ⟨by rfl, ?hy12⟩) hH ?rest12
  case hy12 => (intro w hSw; (try dsimp only at hSw); go_simp; with_reducible rfl)
  try simp only [Act.put, List.setIfInBounds_toArray, List.set_cons_zero, List.set_cons_succ]
  refine wpAnyK_last (by kernel_rfl) rfl (fun K hK => ?_) (by kernel_rfl)
  have b5 : Below w.heap.size w W3.drew.drew := H3.out.1.drew.drew
  refine step_put rfl _ _ _ rfl keyZ und_map rfl (show MapL ckZ cvL W3.drew.drew mb m from (H.out.1.below b5).mp) id rfl ⟨xi, xa, xc, xv, tm⟩ (HCV.out tm).symm ?_
  intro w6 hm6 ht6 hz6
  refine hK.out _ _ (wpAnyK_done (by kernel_rfl) ?_ _)
  clear hK K hH
  have l6 := (H.out.1.below b5).set (w' := w6) H.out.2 tm hm6 (ht6.mono (fun q hq => by rw [hq]))
  have HF := Lib.hid (And.intro l6 ((Tn.ofBelow (F := fun q => some mb = some q) b5).trans (ht6.mono (fun q hq => by rw [hq]))))
  clear l6 hm6 ht6 hz6 b5 u0 u1 u2 u3 s0 s1 s2 s3
  go_wp2_with fail
  go_ret
  exact ⟨rfl, by rw [H3.out.2]; exact HF.out.1, HF.out.2.mono (fun q hq => by simpa using hq)⟩
end Go.Proofs.Ytmdhegmnfcodbaa
