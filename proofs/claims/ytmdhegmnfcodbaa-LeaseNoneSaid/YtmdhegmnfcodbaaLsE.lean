/-
  Lease: what is over is taken away.
-/
import Derived.Test.YtmdhegmnfcodbaaLsD
import Derived.Test.YtmdhegmnfcodbaaHold
namespace Go.Proofs.Ytmdhegmnfcodbaa
open Go.RowKit
variable {w w' w0 w1 w2 w3 : World} {mb lb B : Nat} {ob : Option Nat} {m : Lm} {last : Int}

theorem eInt : Elm Try.prog 27 3 1 8 (fun k : Int => [.int .i64 k]) where
  und := Try.underlying27
  info := by
    obtain ⟨i0, hi0, hz0, hs0, hy0⟩ := info_parts info_int
    exact ⟨i0, _, hi0, hz0, hs0, hy0, rfl⟩
  pos := by decide
  few := by decide
  len _ := rfl
  one := by
    intro x u hu
    rw [List.mem_singleton] at hu
    subst hu
    rfl
theorem delL_mem {m : Lm} {k : Int} {p : Int × Lv} (h : p ∈ delL m k) : p ∈ m := (List.mem_filter.1 h).1
theorem LOk.del (h : LOk m last) (k : Int) : LOk (delL m k) last :=
  ⟨fun p hp => h.id p (delL_mem hp), fun p hp => h.key p (delL_mem hp), fun p hp => h.vec p (delL_mem hp), h.last, Nat.le_trans (List.length_filter_le _ _) h.few⟩
theorem LsAt.del (h : LsAt w lb ob m last) {k : Int} (hm : MapV ckZ cvL w' ob (delL m k)) (ht : Tn (fun q => ob = some q) w w') : LsAt w' lb ob (delL m k) last :=
  ⟨ht.cell h.c0 h.ne, ht.cell h.c1 h.ne, hm, fun j => (ht.frozen (p := ⟨lb, j, none⟩) h.ltd h.ne).trans (h.fz j), fun p hp => (h.rd p (delL_mem hp)).tn ht (fun q _ hq => .inr hq), h.ok.del k, h.ne⟩
theorem LOwn.tn {v : Value} {L : List Lv} {F : Nat → Prop} (h : LOwn w B v L) (ht : Tn F w w') (hF : ∀ q, B ≤ q → q < w.heap.size → ¬ F q) : LOwn w' B v L :=
  ⟨ht.row h.1 (fun q hq => hF q (h.1.lt q hq).1 (h.1.lt q hq).2), fun x hx => ⟨ht.row (h.2 x hx).1 (fun q hq => hF q ((h.2 x hx).1.lt q hq).1 ((h.2 x hx).1.lt q hq).2), (h.2 x hx).2⟩⟩
/-- A lease of a slice of leases: its cells. -/
theorem LOwn.get {a : Option Addr} {n c : Nat} {L : List Lv} (h : LOwn w B (.slice a n c) L) {i : Nat} (hi : i < L.length) : ∃ g, a = some ⟨g, 0, none⟩ ∧ g < w.heap.size ∧
    w.cell? ⟨g, i * 3, none⟩ = some (.int .i64 L[i].id) ∧ w.cell? ⟨g, i * 3 + 1, none⟩ = some L[i].sl ∧ w.cell? ⟨g, i * 3 + 2, none⟩ = some (.int .i64 L[i].till) := by
  have h0 := h.1
  obtain ⟨h1, h2⟩ := h0
  rcases h2 with ⟨_, h3⟩ | ⟨g, cap', cur, hv, hg, hh, hn', hc, hcl, htk⟩
  · omega
  · injection hv with e1 e2 e3
    subst e1 e2
    have hx : ∀ j, j < 3 → w.cell? ⟨g, i * 3 + j, none⟩ = ([Value.int .i64 L[i].id, L[i].sl, Value.int .i64 L[i].till] : List Value)[j]? := fun j hj => by
      have h4 := h.1.cellAt (i * 3 + j) (show i * 3 + j < L.length * 3 by omega)
      rw [h4, eLse.get L i j hi hj]
    exact ⟨g, rfl, (Array.getElem?_eq_some_iff.1 hh).1, hx 0 (by omega), hx 1 (by omega), hx 2 (by omega)⟩

/-- What is over at a time is taken away, one by one. -/
def expF (now : Int) : List (Int × List Int × Int) → Lm → Lm
  | [], m => m
  | c :: l, m => expF now l (if c.2.2 ≤ now then delL m c.1 else m)
theorem expF_snoc (now : Int) (l : List (Int × List Int × Int)) (c : Int × List Int × Int) (m : Lm) : expF now (l ++ [c]) m = if c.2.2 ≤ now then delL (expF now l m) c.1 else expF now l m := by
  induction l generalizing m with
  | nil => rfl
  | cons d l ih => exact ih _
def expI (now : Int) (l : List (Int × List Int × Int)) : List Int := (l.filter (fun c => decide (c.2.2 ≤ now))).map (·.1)
theorem expI_snoc (now : Int) (l : List (Int × List Int × Int)) (c : Int × List Int × Int) : expI now (l ++ [c]) = if c.2.2 ≤ now then expI now l ++ [c.1] else expI now l := by
  unfold expI
  rw [List.filter_append]
  by_cases h : c.2.2 ≤ now <;> simp [h]
theorem expI_len (now : Int) (l : List (Int × List Int × Int)) : (expI now l).length ≤ l.length := by unfold expI; rw [List.length_map]; exact List.length_filter_le _ _

theorem expF_sub (now : Int) (l : List (Int × List Int × Int)) (m : Lm) : (expF now l m).Sublist m := by
  induction l generalizing m with
  | nil => exact .refl _
  | cons c l ih =>
    refine (ih _).trans ?_
    split
    · exact List.filter_sublist
    · exact .refl _
theorem LsAt.sub (h : LsAt w lb ob m last) {m' : Lm} (hm : MapV ckZ cvL w' ob m') (hs : m'.Sublist m) (ht : Tn (fun q => ob = some q) w w') : LsAt w' lb ob m' last :=
  ⟨ht.cell h.c0 h.ne, ht.cell h.c1 h.ne, hm, fun j => (ht.frozen (p := ⟨lb, j, none⟩) h.ltd h.ne).trans (h.fz j), fun p hp => (h.rd p (hs.subset hp)).tn ht (fun q _ hq => .inr hq),
    ⟨fun p hp => h.ok.id p (hs.subset hp), fun p hp => h.ok.key p (hs.subset hp), fun p hp => h.ok.vec p (hs.subset hp), h.ok.last, Nat.le_trans hs.length_le h.ok.few⟩, h.ne⟩

set_option maxRecDepth 100000 in
set_option maxHeartbeats 2000000 in
theorem expire_any (h : LsAt w lb ob m last) (now : Int) : Calls Try.prog 10 #[.pointer (some ⟨lb, 0, none⟩), .int .i64 now] w fun e w' =>
    ∃ a n c, e = .returned (.slice a n c) ∧ n = (expI now ((sortM m).map core)).length ∧ Own eInt w' w.heap.size (.slice a n c) (expI now ((sortM m).map core)) ∧ LsAt w' lb ob (expF now ((sortM m).map core) m) last ∧ Tn (fun q => ob = some q) w w' := by
  have hL := list_any h
  obtain ⟨n, hn⟩ : ∃ n, m.length = n := ⟨_, rfl⟩
  rw [hn] at hL
  have hob : ∀ q, ob = some q → q < w.heap.size := fun q hq => by have := h.mp; subst hq; exact MapL.lt this
  have H := Lib.hid (And.intro h (And.intro hn hob))
  have hn16 : n ≤ 16 := by have := h.ok.few; omega
  clear h hn hob
  go_enter Try.func10, Try.ntmps10
  go_wp2_with (go_at_call 18; refine hL.mono ?_; rintro e w1 ⟨la, lc, L, rfl, hLc, hLl, hLo, hb1⟩; have H1 := Lib.hid (And.intro hLc (And.intro hLl (And.intro hLo (And.intro hb1 (H.out.1.below hb1))))); clear hLc hLl hLo hb1)
  go_loopw [5, 7, 11] (fun v _ iv wr => ∃ i : Nat, i ≤ n ∧ iv = .int .i64 (i : Int) ∧ ∃ a k c, v = .slice a k c ∧ k = (expI now ((L.map core).take i)).length ∧ Own eInt wr w1.heap.size (.slice a k c) (expI now ((L.map core).take i)) ∧ LsAt wr lb ob (expF now ((L.map core).take i) m) last ∧ Tn (fun q => ob = some q) w1 wr) (fun _ _ iv _ => n - (intOf iv).toNat)
  case atStart => exact ⟨0, by omega, rfl, none, 0, 0, rfl, rfl, World.ownsRow_nil _ _ _ _, H1.out.2.2.2.2, Tn.refl _ _⟩
  case round =>
    obtain ⟨i, hi, rfl, oa, ok, oc, rfl, hok, hOut, hls, ht⟩ := hrel
    have hLw := H1.out.2.2.1.tn ht (fun q hq _ e => by have := H.out.2.2 q e; omega)
    have hwz := ht.size
    have HB := Lib.hid (And.intro hok (And.intro hOut (And.intro hls ht)))
    clear hOut ht hok
    by_cases hlt : i < n
    · have hil : i < L.length := by rw [H1.out.2.1]; exact hlt
      have hcs : (L.map core).take (i + 1) = (L.map core).take i ++ [core L[i]] := by rw [List.take_succ_eq_append_getElem (by rw [List.length_map]; exact hil), List.getElem_map]
      obtain ⟨g, rfl, hg, d0, d1, d2⟩ := hLw.get hil
      obtain ⟨x, hx⟩ : ∃ x, L[i] = x := ⟨_, rfl⟩
      rw [hx] at d0 d1 d2 hcs
      obtain ⟨xi, xa, xc, xv, xt⟩ := x
      have hcl := expI_len now ((L.map core).take i)
      have hkl : ok ≤ 16 := by rw [List.length_take, List.length_map] at hcl; have := HB.out.1; omega
      have c0 := hls.c0
      obtain ⟨nv, hnv⟩ : ∃ nv, xv.length = nv := ⟨_, rfl⟩
      have d1' : wr.cell? ⟨g, i * 3 + 1, none⟩ = some (.slice xa nv xc) := by rw [← hnv]; exact d1
      have d0' : wr.cell? ⟨g, i * 3, none⟩ = some (.int .i64 xi) := d0
      have d2' : wr.cell? ⟨g, i * 3 + 2, none⟩ = some (.int .i64 xt) := d2
      obtain ⟨W1, hW1⟩ : ∃ W1, wr.alloc (.cells #[.int .i64 xi, .slice xa nv xc, .int .i64 xt] 35) = W1 := ⟨_, rfl⟩
      have hbW : Below wr.heap.size wr W1 := by rw [← hW1]; exact (Below.refl _ _).alloc (Nat.le_refl _) _
      have hzW : W1.heap.size = wr.heap.size + 1 := by rw [← hW1]; simp
      have q0 : W1.cell? ⟨wr.heap.size, 0, none⟩ = some (.int .i64 xi) := by rw [← hW1]; simp [go_sem]
      have q1 : W1.cell? ⟨wr.heap.size, 1, none⟩ = some (.slice xa nv xc) := by rw [← hW1]; simp [go_sem]
      have q2 : W1.cell? ⟨wr.heap.size, 2, none⟩ = some (.int .i64 xt) := by rw [← hW1]; simp [go_sem]
      have ho := over_any xi xa nv xc xt now
      have r1 : (i : Int) < (n : Int) := by omega
      have HX := Lib.hid (And.intro hcs (And.intro hbW hzW))
      clear hcs hbW hx d0 d1 d2 hnv hil hLw hcl
      by_cases hov : xt ≤ now
      · have t1 : decide (xt ≤ now) = true := decide_eq_true hov
        rw [t1] at ho
        clear t1
        go_wp2_with (first
          | (go_at_call 21; refine (ho _).mono ?_; rintro e w2 ⟨rfl, hb2⟩; have p0 := (hb2.cell (p := ⟨wr.heap.size, 0, none⟩) (by simp; omega)).trans q0; have HC := Lib.hid (HX.out.2.1.trans (hb2.mono (by omega))); have hzW2 := hb2.size; clear hb2)
          | (at_builtin
             have b4 : Below wr.heap.size wr (w2.alloc (.cells #[.int .i64 xi] 3)) := HC.out.alloc HC.out.size _
             go_loud (refine wpl_app eInt rfl _ _ rfl rfl rfl (row_below HB.out.2.1 b4) (src_one w2 xi _ _ rfl 1) (by rw [← HB.out.1]; simp; omega) (Nat.le_trans hwz b4.size) ?_)
             rw [← HB.out.1]
             intro a5 cap5 w5 ho5 hb5 hg5 hv5
             have t5 : Tn (fun q => (Value.slice oa ok oc).ownBlock = some q) (w2.alloc (.cells #[.int .i64 xi] 3)) w5 := Tn.ofGrown hg5 (fun q hq => hq)
             have s0 : w5.cell? ⟨wr.heap.size, 0, none⟩ = some (.int .i64 xi) := t5.cell ((((Below.refl _ _).alloc (Nat.le_refl _) _).cell (p := ⟨wr.heap.size, 0, none⟩) (World.block_lt_of_cell? _ _ p0)).trans p0) (fun hq => by have := (HB.out.2.1.lt _ hq).2; simp at this)
             have T5 : Tn (fun q => ob = some q) w1 w5 := (HB.out.2.2.2.trans (Tn.ofBelow b4)).andThen t5 (fun q hq => .inr (HB.out.2.1.lt q hq).1)
             have M5 : MapV ckZ cvL w5 ob (expF now ((L.map core).take i) m) := (HB.out.2.2.1.mp.below b4).tn t5 (fun b hb hq => by have := H.out.2.2 b hb; have := (HB.out.2.1.lt _ hq).1; have := H1.out.2.2.2.1.size; omega)
             have u0 : w5.cell? ⟨lb, 0, none⟩ = some (.map ob) := T5.cell H1.out.2.2.2.2.c0 H1.out.2.2.2.2.ne
             have H5 := Lib.hid (And.intro ho5 (And.intro T5 M5)); clear ho5 hb5 hg5 hv5 b4 t5 T5 M5))
        have kd1 : w5.drew.cell? ⟨lb, 0, none⟩ = some (.map ob) := u0
        have kd2 : w5.drew.cell? ⟨wr.heap.size, 0, none⟩ = some (.int .i64 xi) := s0
        refine wp_region_K (fun w' => w'.cell? ⟨lb, 0, none⟩ = some (.map ob) ∧ w'.cell? ⟨wr.heap.size, 0, none⟩ = some (.int .i64 xi)) 6 7 (by kernel_rfl) (by kernel_rfl) ⟨kd1, kd2⟩ (fun hH => ?_)
        refine wpAnyK_take (i := 0) [1, 2, 3, 6] (v := ?v1) rfl (by kernel_rfl) (by kernel_rfl) (by kernel_rfl) (by kernel_rfl) (fun _ _ _ h => h) (Or.inl ⟨by rfl, ?hy1⟩) hH ?rest1
        case hy1 => (intro w hSw; (try dsimp only at hSw); go_simp; with_reducible rfl)
        try simp only [Act.put, List.setIfInBounds_toArray, List.set_cons_zero, List.set_cons_succ]
        refine wpAnyK_take (i := 1) [2, 3, 6] (v := ?v2) rfl (by kernel_rfl) (by kernel_rfl) (by kernel_rfl) (by kernel_rfl) (fun _ _ _ h => h) (Or.inl ⟨by rfl, ?hy2⟩) hH ?rest2
        case hy2 => (intro w hSw; (try dsimp only at hSw); go_simp; with_reducible rfl)
        try simp only [Act.put, List.setIfInBounds_toArray, List.set_cons_zero, List.set_cons_succ]
        refine wpAnyK_take (i := 2) [3, 6] (v := ?v3) rfl (by kernel_rfl) (by kernel_rfl) (by kernel_rfl) (by kernel_rfl) (fun _ _ _ h => h) (Or.inl ⟨by rfl, ?hy3⟩) hH ?rest3
        case hy3 => (intro w hSw; (try dsimp only at hSw); go_simp; with_reducible rfl)
        try simp only [Act.put, List.setIfInBounds_toArray, List.set_cons_zero, List.set_cons_succ]
        refine wpAnyK_take (i := 3) [6] (v := ?v4) rfl (by kernel_rfl) (by kernel_rfl) (by kernel_rfl) (by kernel_rfl) (fun _ _ _ h => h) (Or.inl ⟨by rfl, ?hy4⟩) hH ?rest4
        case hy4 => (intro w hSw; (try dsimp only at hSw); go_simp; with_reducible rfl)
        try simp only [Act.put, List.setIfInBounds_toArray, List.set_cons_zero, List.set_cons_succ]
        refine wpAnyK_take (i := 4) [5, 6] (v := ?v5) rfl (by kernel_rfl) (by kernel_rfl) (by kernel_rfl) (by kernel_rfl) (fun _ _ _ h => h) (Or.inl ⟨by rfl, ?hy5⟩) hH ?rest5
        case hy5 => (intro w hSw; (try dsimp only at hSw); go_simp; with_reducible rfl)
        try simp only [Act.put, List.setIfInBounds_toArray, List.set_cons_zero, List.set_cons_succ]
        refine wpAnyK_take (i := 5) [6] (v := ?v6) rfl (by kernel_rfl) (by kernel_rfl) (by kernel_rfl) (by kernel_rfl) (fun _ _ _ h => h) (Or.inl ⟨by rfl, ?hy6⟩) hH ?rest6
        case hy6 => (intro w hSw; (try dsimp only at hSw); go_simp; with_reducible rfl)
        try simp only [Act.put, List.setIfInBounds_toArray, List.set_cons_zero, List.set_cons_succ]
        refine wpAnyK_last (by kernel_rfl) rfl (fun K hK => ?_) (by kernel_rfl)
        have hm5 : MapV ckZ cvL w5.drew ob (expF now ((L.map core).take i) m) := H5.out.2.2
        refine step_del rfl _ _ rfl keyZ und_map (ob := ob) rfl hm5 xi rfl ?_
        intro w6 hm6 ht6 hz6
        refine hK.out _ _ (wpAnyK_done (by kernel_rfl) ?_ _)
        clear hK K hH
        have T6 : Tn (fun q => ob = some q) w1 w6 := (H5.out.2.1.trans (Tn.ofBelow (Below.refl _ _).drew)).trans ht6
        have O6 : Own eInt w6 w1.heap.size (.slice a5 (ok + 1) cap5) (expI now ((L.map core).take i) ++ [xi]) := ht6.row (World.ownsRow.drew H5.out.1) (fun q hq e => by have := H.out.2.2 q e; have := (H5.out.1.lt q hq).1; have := H1.out.2.2.2.1.size; omega)
        have e1 : expF now ((L.map core).take (i + 1)) m = delL (expF now ((L.map core).take i) m) xi := by rw [HX.out.1, expF_snoc]; exact if_pos hov
        have e2 : expI now ((L.map core).take (i + 1)) = expI now ((L.map core).take i) ++ [xi] := by rw [HX.out.1, expI_snoc]; exact if_pos hov
        have l6 : LsAt w6 lb ob (expF now ((L.map core).take (i + 1)) m) last := H1.out.2.2.2.2.sub (by rw [e1]; exact hm6) (expF_sub _ _ _) T6
        have HF := Lib.hid (And.intro l6 (And.intro O6 (And.intro T6 e2)))
        clear l6 O6 T6 e1 e2 hm6 ht6 hz6 hm5 kd1 kd2 s0 u0
        go_wp2_with fail
        go_roundw
        case rel => exact ⟨i + 1, by omega, by go_num, a5, ok + 1, cap5, rfl, by rw [HF.out.2.2.2, List.length_append, ← HB.out.1]; rfl, by rw [HF.out.2.2.2]; exact HF.out.2.1, HF.out.1, HF.out.2.2.1⟩
        case measure => simp [intOf]; omega
      · have t1 : decide (xt ≤ now) = false := decide_eq_false hov
        rw [t1] at ho
        clear t1
        go_wp2_with (go_at_call 21; refine (ho _).mono ?_; rintro e w2 ⟨rfl, hb2⟩; have HC := Lib.hid (HX.out.2.1.trans (hb2.mono (by omega))); clear hb2)
        go_roundw
        case rel =>
          have e1 : expF now ((L.map core).take (i + 1)) m = expF now ((L.map core).take i) m := by rw [HX.out.1, expF_snoc]; exact if_neg (show ¬ xt ≤ now by omega)
          have e2 : expI now ((L.map core).take (i + 1)) = expI now ((L.map core).take i) := by rw [HX.out.1, expI_snoc]; exact if_neg (show ¬ xt ≤ now by omega)
          exact ⟨i + 1, by omega, by go_num, oa, ok, oc, rfl, by rw [e2]; exact HB.out.1, by rw [e2]; exact row_below HB.out.2.1 HC.out, by rw [e1]; exact HB.out.2.2.1.below HC.out, HB.out.2.2.2.trans (Tn.ofBelow HC.out)⟩
        case measure => simp [intOf]; omega
    · obtain rfl : i = n := by omega
      clear hLw hls
      go_wp2
      go_ret
      have hall : (L.map core).take i = (sortM m).map core := by rw [List.take_of_length_le (by rw [List.length_map, H1.out.2.1]; omega), H1.out.1]
      rw [hall] at HB
      exact ⟨oa, ok, oc, rfl, HB.out.1, row_mono HB.out.2.1 H1.out.2.2.2.1.size, HB.out.2.2.1, (Tn.ofBelow H1.out.2.2.2.1).trans HB.out.2.2.2⟩
end Go.Proofs.Ytmdhegmnfcodbaa
