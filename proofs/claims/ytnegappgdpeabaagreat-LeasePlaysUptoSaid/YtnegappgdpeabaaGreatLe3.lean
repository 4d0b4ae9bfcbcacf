import Derived.Test.YtnegappgdpeabaaGreatLe2
import Derived.Test.YtnegappgdpeabaaGreatLe1
set_option linter.unusedSimpArgs false
set_option linter.unusedVariables false
/-
  Lease: what is over is taken away.
-/
namespace Go.Proofs.YtnegappgdpeabaaGreat
open Go.RowKit
variable {w w' w0 w1 w2 w3 : World} {mb lb B : Nat} {ob : Option Nat} {m : Lm} {last : Int}

theorem eInt : Elm Tryz.prog 50 3 1 8 (fun k : Int => [.int .i64 k]) where
  und := Tryz.underlying50
  info := by
    obtain ⟨i0, hi0, hz0, hs0, hy0⟩ := info_parts info_int
    exact ⟨i0, _, hi0, hz0, hs0, hy0, rfl⟩
  pos := by decide
  few := by decide
  len _ := rfl
  one := by
    intro x u hu
    rw [List.mem_singleton] at hu
    subst hu
    rfl
theorem delL_mem {m : Lm} {k : Int} {p : Int × Lv} (h : p ∈ delL m k) : p ∈ m := (List.mem_filter.1 h).1
theorem LOk.del (h : LOk m last) (k : Int) : LOk (delL m k) last :=
  ⟨fun p hp => h.id p (delL_mem hp), fun p hp => h.key p (delL_mem hp), fun p hp => h.vec p (delL_mem hp), h.last, Nat.le_trans (List.length_filter_le _ _) h.few⟩
theorem LsAt.del (h : LsAt w lb ob m last) {k : Int} (hm : MapV ckZ cvL w' ob (delL m k)) (ht : Tn (fun q => ob = some q) w w') : LsAt w' lb ob (delL m k) last :=
  ⟨ht.cell h.c0 h.ne, ht.cell h.c1 h.ne, hm, fun j => (ht.frozen (p := ⟨lb, j, none⟩) h.ltd h.ne).trans (h.fz j), fun p hp => (h.rd p (delL_mem hp)).tn ht (fun q _ hq => .inr hq), h.ok.del k, h.ne⟩
theorem LOwn.tn {v : Value} {L : List Lv} {F : Nat → Prop} (h : LOwn w B v L) (ht : Tn F w w') (hF : ∀ q, B ≤ q → q < w.heap.size → ¬ F q) : LOwn w' B v L :=
  ⟨ht.row h.1 (fun q hq => hF q (h.1.lt q hq).1 (h.1.lt q hq).2), fun x hx => ⟨ht.row (h.2 x hx).1 (fun q hq => hF q ((h.2 x hx).1.lt q hq).1 ((h.2 x hx).1.lt q hq).2), (h.2 x hx).2⟩⟩
/-- A lease of a slice of leases: its cells. -/
theorem LOwn.get {a : Option Addr} {n c : Nat} {L : List Lv} (h : LOwn w B (.slice a n c) L) {i : Nat} (hi : i < L.length) : ∃ g, a = some ⟨g, 0, none⟩ ∧ g < w.heap.size ∧
    w.cell? ⟨g, i * 3, none⟩ = some (.int .i64 L[i].id) ∧ w.cell? ⟨g, i * 3 + 1, none⟩ = some L[i].sl ∧ w.cell? ⟨g, i * 3 + 2, none⟩ = some (.int .i64 L[i].till) := by
  have h0 := h.1
  obtain ⟨h1, h2⟩ := h0
  rcases h2 with ⟨_, h3⟩ | ⟨g, cap', cur, hv, hg, hh, hn', hc, hcl, htk⟩
  · omega
  · injection hv with e1 e2 e3
    subst e1 e2
    have hx : ∀ j, j < 3 → w.cell? ⟨g, i * 3 + j, none⟩ = ([Value.int .i64 L[i].id, L[i].sl, Value.int .i64 L[i].till] : List Value)[j]? := fun j hj => by
      have h4 := h.1.cellAt (i * 3 + j) (show i * 3 + j < L.length * 3 by omega)
      rw [h4, eLse.get L i j hi hj]
    exact ⟨g, rfl, (Array.getElem?_eq_some_iff.1 hh).1, hx 0 (by omega), hx 1 (by omega), hx 2 (by omega)⟩

/-- What is over at a time is taken away, one by one. -/
def expF (now : Int) : List (Int × List Int × Int) → Lm → Lm
  | [], m => m
  | c :: l, m => expF now l (if c.2.2 ≤ now then delL m c.1 else m)
theorem expF_snoc (now : Int) (l : List (Int × List Int × Int)) (c : Int × List Int × Int) (m : Lm) : expF now (l ++ [c]) m = if c.2.2 ≤ now then delL (expF now l m) c.1 else expF now l m := by
  induction l generalizing m with
  | nil => rfl
  | cons d l ih => exact ih _
def expI (now : Int) (l : List (Int × List Int × Int)) : List Int := (l.filter (fun c => decide (c.2.2 ≤ now))).map (·.1)
theorem expI_snoc (now : Int) (l : List (Int × List Int × Int)) (c : Int × List Int × Int) : expI now (l ++ [c]) = if c.2.2 ≤ now then expI now l ++ [c.1] else expI now l := by
  unfold expI
  rw [List.filter_append]
  by_cases h : c.2.2 ≤ now <;> simp [h]
theorem expI_len (now : Int) (l : List (Int × List Int × Int)) : (expI now l).length ≤ l.length := by unfold expI; rw [List.length_map]; exact List.length_filter_le _ _

theorem expF_sub (now : Int) (l : List (Int × List Int × Int)) (m : Lm) : (expF now l m).Sublist m := by
  induction l generalizing m with
  | nil => exact .refl _
  | cons c l ih =>
    refine (ih _).trans ?_
    split
    · exact List.filter_sublist
    · exact .refl _
theorem LsAt.sub (h : LsAt w lb ob m last) {m' : Lm} (hm : MapV ckZ cvL w' ob m') (hs : m'.Sublist m) (ht : Tn (fun q => ob = some q) w w') : LsAt w' lb ob m' last :=
  ⟨ht.cell h.c0 h.ne, ht.cell h.c1 h.ne, hm, fun j => (ht.frozen (p := ⟨lb, j, none⟩) h.ltd h.ne).trans (h.fz j), fun p hp => (h.rd p (hs.subset hp)).tn ht (fun q _ hq => .inr hq),
    ⟨fun p hp => h.ok.id p (hs.subset hp), fun p hp => h.ok.key p (hs.subset hp), fun p hp => h.ok.vec p (hs.subset hp), h.ok.last, Nat.le_trans hs.length_le h.ok.few⟩, h.ne⟩

set_option maxRecDepth 100000 in
set_option maxHeartbeats 2000000 in
theorem expire_any (h : LsAt w lb ob m last) (now : Int) : Calls Tryz.prog 14 #[.pointer (some ⟨lb, 0, none⟩), .int .i64 now] w fun e w' =>
    ∃ a n c, e = .returned (.slice a n c) ∧ n = (expI now ((sortM m).map core)).length ∧ Own eInt w' w.heap.size (.slice a n c) (expI now ((sortM m).map core)) ∧ LsAt w' lb ob (expF now ((sortM m).map core) m) last ∧ Tn (fun q => ob = some q) w w' := by
  have hL := list_any h
  obtain ⟨n, hn⟩ : ∃ n, m.length = n := ⟨_, rfl⟩
  rw [hn] at hL
  have hob : ∀ q, ob = some q → q < w.heap.size := fun q hq => by have := h.mp; subst hq; exact MapL.lt this
  have H := Lib.hid (And.intro h (And.intro hn hob))
  have hn16 : n ≤ 16 := by have := h.ok.few; omega
  clear h hn hob
  go_enter Tryz.func14, Tryz.ntmps14
  go_wp2_with (go_at_call 39; refine hL.mono ?_; rintro e w1 ⟨la, lc, L, rfl, hLc, hLl, hLo, hb1⟩; have H1 := Lib.hid (And.intro hLc (And.intro hLl (And.intro hLo (And.intro hb1 (H.out.1.below hb1))))); clear hLc hLl hLo hb1)
  go_loopw [5, 7, 11] (fun v _ iv wr => ∃ i : Nat, i ≤ n ∧ iv = .int .i64 (i : Int) ∧ ∃ a k c, v = .slice a k c ∧ k = (expI now ((L.map core).take i)).length ∧ Own eInt wr w1.heap.size (.slice a k c) (expI now ((L.map core).take i)) ∧ LsAt wr lb ob (expF now ((L.map core).take i) m) last ∧ Tn (fun q => ob = some q) w1 wr) (fun _ _ iv _ => n - (intOf iv).toNat)
  case atStart => exact ⟨0, by omega, rfl, none, 0, 0, rfl, rfl, World.ownsRow_nil _ _ _ _, H1.out.2.2.2.2, Tn.refl _ _⟩
  case round =>
    obtain ⟨i, hi, rfl, oa, ok, oc, rfl, hok, hOut, hls, ht⟩ := hrel
    have hLw := H1.out.2.2.1.tn ht (fun q hq _ e => by have := H.out.2.2 q e; omega)
    have hwz := ht.size
    have HB := Lib.hid (And.intro hok (And.intro hOut (And.intro hls ht)))
    clear hOut ht hok
    by_cases hlt : i < n
    · have hil : i < L.length := by rw [H1.out.2.1]; exact hlt
      have hcs : (L.map core).take (i + 1) = (L.map core).take i ++ [core L[i]] := by rw [List.take_succ_eq_append_getElem (by rw [List.length_map]; exact hil), List.getElem_map]
      obtain ⟨g, rfl, hg, d0, d1, d2⟩ := hLw.get hil
      obtain ⟨x, hx⟩ : ∃ x, L[i] = x := ⟨_, rfl⟩
      rw [hx] at d0 d1 d2 hcs
      obtain ⟨xi, xa, xc, xv, xt⟩ := x
      have hcl := expI_len now ((L.map core).take i)
      have hkl : ok ≤ 16 := by rw [List.length_take, List.length_map] at hcl; have := HB.out.1; omega
      have c0 := hls.c0
      obtain ⟨nv, hnv⟩ : ∃ nv, xv.length = nv := ⟨_, rfl⟩
      have d1' : wr.cell? ⟨g, i * 3 + 1, none⟩ = some (.slice xa nv xc) := by rw [← hnv]; exact d1
      have d0' : wr.cell? ⟨g, i * 3, none⟩ = some (.int .i64 xi) := d0
      have d2' : wr.cell? ⟨g, i * 3 + 2, none⟩ = some (.int .i64 xt) := d2
      obtain ⟨W1, hW1⟩ : ∃ W1, wr.alloc (.cells #[.int .i64 xi, .slice xa nv xc, .int .i64 xt] 65) = W1 := ⟨_, rfl⟩
      have hbW : Below wr.heap.size wr W1 := by rw [← hW1]; exact (Below.refl _ _).alloc (Nat.le_refl _) _
      have hzW : W1.heap.size = wr.heap.size + 1 := by rw [← hW1]; simp
      have q0 : W1.cell? ⟨wr.heap.size, 0, none⟩ = some (.int .i64 xi) := by rw [← hW1]; simp [go_sem]
      have q1 : W1.cell? ⟨wr.heap.size, 1, none⟩ = some (.slice xa nv xc) := by rw [← hW1]; simp [go_sem]
      have q2 : W1.cell? ⟨wr.heap.size, 2, none⟩ = some (.int .i64 xt) := by rw [← hW1]; simp [go_sem]
      have ho := over_any xi xa nv xc xt now
      have r1 : (i : Int) < (n : Int) := by omega
      have HX := Lib.hid (And.intro hcs (And.intro hbW hzW))
      clear hcs hbW hx d0 d1 d2 hnv hil hLw hcl
      by_cases hov : xt ≤ now
      · have t1 : decide (xt ≤ now) = true := decide_eq_true hov
        rw [t1] at ho
        clear t1
        go_wp2_with (first
          | (go_at_call 29; refine (ho _).mono ?_; rintro e w2 ⟨rfl, hb2⟩; have p0 := (hb2.cell (p := ⟨wr.heap.size, 0, none⟩) (by simp; omega)).trans q0; have HC := Lib.hid (HX.out.2.1.trans (hb2.mono (by omega))); have hzW2 := hb2.size; clear hb2)
          | (at_builtin
             have b4 : Below wr.heap.size wr (w2.alloc (.cells #[.int .i64 xi] 3)) := HC.out.alloc HC.out.size _
             go_loud (refine wpl_app eInt rfl _ _ rfl rfl rfl (row_below HB.out.2.1 b4) (src_one w2 xi _ _ rfl 1) (by rw [← HB.out.1]; simp; omega) (Nat.le_trans hwz b4.size) ?_)
             rw [← HB.out.1]
             intro a5 cap5 w5 ho5 hb5 hg5 hv5
             have t5 : Tn (fun q => (Value.slice oa ok oc).ownBlock = some q) (w2.alloc (.cells #[.int .i64 xi] 3)) w5 := Tn.ofGrown hg5 (fun q hq => hq)
             have s0 : w5.cell? ⟨wr.heap.size, 0, none⟩ = some (.int .i64 xi) := t5.cell ((((Below.refl _ _).alloc (Nat.le_refl _) _).cell (p := ⟨wr.heap.size, 0, none⟩) (World.block_lt_of_cell? _ _ p0)).trans p0) (fun hq => by have := (HB.out.2.1.lt _ hq).2; simp at this)
             have T5 : Tn (fun q => ob = some q) w1 w5 := (HB.out.2.2.2.trans (Tn.ofBelow b4)).andThen t5 (fun q hq => .inr (HB.out.2.1.lt q hq).1)
             have M5 : MapV ckZ cvL w5 ob (expF now ((L.map core).take i) m) := (HB.out.2.2.1.mp.below b4).tn t5 (fun b hb hq => by have := H.out.2.2 b hb; have := (HB.out.2.1.lt _ hq).1; have := H1.out.2.2.2.1.size; omega)
             have u0 : w5.cell? ⟨lb, 0, none⟩ = some (.map ob) := T5.cell H1.out.2.2.2.2.c0 H1.out.2.2.2.2.ne
             have H5 := Lib.hid (And.intro ho5 (And.intro T5 M5)); clear ho5 hb5 hg5 hv5 b4 t5 T5 M5))
        have kd1 : w5.drew.cell? ⟨lb, 0, none⟩ = some (.map ob) := u0
        have kd2 : w5.drew.cell? ⟨wr.heap.size, 0, none⟩ = some (.int .i64 xi) := s0
        refine wp_region_K (fun w' => w'.cell? ⟨lb, 0, none⟩ = some (.map ob) ∧ w'.cell? ⟨wr.heap.size, 0, none⟩ = some (.int .i64 xi)) 6 7 (by kernel_rfl) (by kernel_rfl) ⟨kd1, kd2⟩ (fun hH => ?_)
        refine wpAnyK_take (i := 0) [1, 2, 3, 6] (v := ?v1) rfl (by kernel_rfl) (by kernel_rfl) (by kernel_rfl) (by kernel_rfl) (fun _ _ _ h => h) (Or.inl ⟨by rfl, ?hy1⟩) hH ?rest1
        case hy1 => (intro w hSw; (try dsimp only at hSw); go_simp; with_reducible rfl)
        try simp only [Act.put, List.setIfInBounds_toArray, List.set_cons_zero, List.set_cons_succ]
        refine wpAnyK_take (i := 1) [2, 3, 6] (v := ?v2) rfl (by kernel_rfl) (by kernel_rfl) (by kernel_rfl) (by kernel_rfl) (fun _ _ _ h => h) (Or.inl ⟨by rfl, ?hy2⟩) hH ?rest2
        case hy2 => (intro w hSw; (try dsimp only at hSw); go_simp; with_reducible rfl)
        try simp only [Act.put, List.setIfInBounds_toArray, List.set_cons_zero, List.set_cons_succ]
        refine wpAnyK_take (i := 2) [3, 6] (v := ?v3) rfl (by kernel_rfl) (by kernel_rfl) (by kernel_rfl) (by kernel_rfl) (fun _ _ _ h => h) (Or.inl ⟨by rfl, ?hy3⟩) hH ?rest3
        case hy3 => (intro w hSw; (try dsimp only at hSw); go_simp; with_reducible rfl)
        try simp only [Act.put, List.setIfInBounds_toArray, List.set_cons_zero, List.set_cons_succ]
        refine wpAnyK_take (i := 3) [6] (v := ?v4) rfl (by kernel_rfl) (by kernel_rfl) (by kernel_rfl) (by kernel_rfl) (fun _ _ _ h => h) (Or.inl ⟨by rfl, ?hy4⟩) hH ?rest4
        case hy4 => (intro w hSw; (try dsimp only at hSw); go_simp; with_reducible rfl)
        try simp only [Act.put, List.setIfInBounds_toArray, List.set_cons_zero, List.set_cons_succ]
        refine wpAnyK_take (i := 4) [5, 6] (v := ?v5) rfl (by kernel_rfl) (by kernel_rfl) (by kernel_rfl) (by kernel_rfl) (fun _ _ _ h => h) (Or.inl ⟨by rfl, ?hy5⟩) hH ?rest5
        case hy5 => (intro w hSw; (try dsimp only at hSw); go_simp; with_reducible rfl)
        try simp only [Act.put, List.setIfInBounds_toArray, List.set_cons_zero, List.set_cons_succ]
        refine wpAnyK_take (i := 5) [6] (v := ?v6) rfl (by kernel_rfl) (by kernel_rfl) (by kernel_rfl) (by kernel_rfl) (fun _ _ _ h => h) (Or.inl ⟨by rfl, ?hy6⟩) hH ?rest6
        case hy6 => (intro w hSw; (try dsimp only at hSw); go_simp; with_reducible rfl)
        try simp only [Act.put, List.setIfInBounds_toArray, List.set_cons_zero, List.set_cons_succ]
        refine wpAnyK_last (by kernel_rfl) rfl (fun K hK => ?_) (by kernel_rfl)
        have hm5 : MapV ckZ cvL w5.drew ob (expF now ((L.map core).take i) m) := H5.out.2.2
        refine step_del rfl _ _ rfl keyZ und_map (ob := ob) rfl hm5 xi rfl ?_
        intro w6 hm6 ht6 hz6
        refine hK.out _ _ (wpAnyK_done (by kernel_rfl) ?_ _)
        clear hK K hH
        have T6 : Tn (fun q => ob = some q) w1 w6 := (H5.out.2.1.trans (Tn.ofBelow (Below.refl _ _).drew)).trans ht6
        have O6 : Own eInt w6 w1.heap.size (.slice a5 (ok + 1) cap5) (expI now ((L.map core).take i) ++ [xi]) := ht6.row (World.ownsRow.drew H5.out.1) (fun q hq e => by have := H.out.2.2 q e; have := (H5.out.1.lt q hq).1; have := H1.out.2.2.2.1.size; omega)
        have e1 : expF now ((L.map core).take (i + 1)) m = delL (expF now ((L.map core).take i) m) xi := by rw [HX.out.1, expF_snoc]; exact if_pos hov
        have e2 : expI now ((L.map core).take (i + 1)) = expI now ((L.map core).take i) ++ [xi] := by rw [HX.out.1, expI_snoc]; exact if_pos hov
        have l6 : LsAt w6 lb ob (expF now ((L.map core).take (i + 1)) m) last := H1.out.2.2.2.2.sub (by rw [e1]; exact hm6) (expF_sub _ _ _) T6
        have HF := Lib.hid (And.intro l6 (And.intro O6 (And.intro T6 e2)))
        clear l6 O6 T6 e1 e2 hm6 ht6 hz6 hm5 kd1 kd2 s0 u0
        go_wp2_with fail
        go_roundw
        case rel => exact ⟨i + 1, by omega, by go_num, a5, ok + 1, cap5, rfl, by rw [HF.out.2.2.2, List.length_append, ← HB.out.1]; rfl, by rw [HF.out.2.2.2]; exact HF.out.2.1, HF.out.1, HF.out.2.2.1⟩
        case measure => simp [intOf]; omega
      · have t1 : decide (xt ≤ now) = false := decide_eq_false hov
        rw [t1] at ho
        clear t1
        go_wp2_with (go_at_call 29; refine (ho _).mono ?_; rintro e w2 ⟨rfl, hb2⟩; have HC := Lib.hid (HX.out.2.1.trans (hb2.mono (by omega))); clear hb2)
        go_roundw
        case rel =>
          have e1 : expF now ((L.map core).take (i + 1)) m = expF now ((L.map core).take i) m := by rw [HX.out.1, expF_snoc]; exact if_neg (show ¬ xt ≤ now by omega)
          have e2 : expI now ((L.map core).take (i + 1)) = expI now ((L.map core).take i) := by rw [HX.out.1, expI_snoc]; exact if_neg (show ¬ xt ≤ now by omega)
          exact ⟨i + 1, by omega, by go_num, oa, ok, oc, rfl, by rw [e2]; exact HB.out.1, by rw [e2]; exact row_below HB.out.2.1 HC.out, by rw [e1]; exact HB.out.2.2.1.below HC.out, HB.out.2.2.2.trans (Tn.ofBelow HC.out)⟩
        case measure => simp [intOf]; omega
    · obtain rfl : i = n := by omega
      clear hLw hls
      go_wp2
      go_ret
      have hall : (L.map core).take i = (sortM m).map core := by rw [List.take_of_length_le (by rw [List.length_map, H1.out.2.1]; omega), H1.out.1]
      rw [hall] at HB
      exact ⟨oa, ok, oc, rfl, HB.out.1, row_mono HB.out.2.1 H1.out.2.2.2.1.size, HB.out.2.2.1, (Tn.ofBelow H1.out.2.2.2.1).trans HB.out.2.2.2⟩
end Go.Proofs.YtnegappgdpeabaaGreat
/-
  Lease: one lease is told.
-/
namespace Go.Proofs.YtnegappgdpeabaaGreat
open Go.RowKit
variable {w w' w0 w1 w2 w3 : World} {mb lb B : Nat} {ob : Option Nat} {m : Lm} {last : Int}

theorem results_cell2 {fn : Func} {t u : Tmp} {ty : TypeId} (h : fn.results = #[.cell t ty, .tmp u]) {tmps : Array Value} {P : Program} {w : World} {ad : Addr} {v : Value} (ht : tmps.getD t undef = .pointer (some ad)) (hl : (loadVar ty ad).run P w = .ok v w) :
    (results fn tmps).run P w = .ok (.tuple #[v, tmps.getD u undef]) w := by
  have ht' : tmps[t]?.getD undef = .pointer (some ad) := by simpa using ht
  simp [results, h, ht', asAddr, hl, Result.andThen]
theorem load_lease {b : Nat} {i t : Int} {s : Value} (h0 : w.cell? ⟨b, 0, none⟩ = some (.int .i64 i)) (h1 : w.cell? ⟨b, 1, none⟩ = some s) (h2 : w.cell? ⟨b, 2, none⟩ = some (.int .i64 t)) :
    (loadVar 65 ⟨b, 0, none⟩).run Tryz.prog w = .ok (.agg #[.int .i64 i, s, .int .i64 t]) w := by
  simp [go_sem, loadVar, h0, h1, h2]

theorem cell_set {w : World} {b i j : Nat} {v u : Value} (h : w.cell? ⟨b, j, none⟩ = some u) (hij : i ≠ j) : (w.setCell ⟨b, i, none⟩ v).cell? ⟨b, j, none⟩ = some u := by
  rw [World.cell?_setCell_other _ _ _ _ (by intro e; injection e with _ e2; exact hij e2)]
  exact h
/-- Three cells of a block are stored into. -/
theorem set3 {b : Nat} {v0 v1 v2 u0 u1 u2 : Value} (h0 : w.cell? ⟨b, 0, none⟩ = some u0) (h1 : w.cell? ⟨b, 1, none⟩ = some u1) (h2 : w.cell? ⟨b, 2, none⟩ = some u2) {w' : World}
    (hw : ((w.setCell ⟨b, 0, none⟩ v0).setCell ⟨b, 1, none⟩ v1).setCell ⟨b, 2, none⟩ v2 = w') : w'.cell? ⟨b, 0, none⟩ = some v0 ∧ w'.cell? ⟨b, 1, none⟩ = some v1 ∧ w'.cell? ⟨b, 2, none⟩ = some v2 := by
  subst hw
  have k1 : (w.setCell ⟨b, 0, none⟩ v0).cell? ⟨b, 1, none⟩ = some u1 := cell_set h1 (by omega)
  have k2 : ((w.setCell ⟨b, 0, none⟩ v0).setCell ⟨b, 1, none⟩ v1).cell? ⟨b, 2, none⟩ = some u2 := cell_set (cell_set h2 (by omega)) (by omega)
  exact ⟨cell_set (cell_set (World.cell?_setCell_same _ _ _ h0) (by omega)) (by omega), cell_set (World.cell?_setCell_same _ _ _ k1) (by omega), World.cell?_setCell_same _ _ _ k2⟩
theorem below3 {b : Nat} {v0 v1 v2 : Value} (h : Below B w0 w) (hb : B ≤ b) : Below B w0 (((w.setCell ⟨b, 0, none⟩ v0).setCell ⟨b, 1, none⟩ v1).setCell ⟨b, 2, none⟩ v2) := ((h.setCell hb _).setCell hb _).setCell hb _
theorem Tn.set3 (w : World) (b : Nat) (v0 v1 v2 : Value) : Tn (fun q => q = b) w (((w.setCell ⟨b, 0, none⟩ v0).setCell ⟨b, 1, none⟩ v1).setCell ⟨b, 2, none⟩ v2) := ((Tn.setCell (F := fun q => q = b) w ⟨b, 0, none⟩ v0 rfl).trans (Tn.setCell (F := fun q => q = b) _ ⟨b, 1, none⟩ v1 rfl)).trans (Tn.setCell (F := fun q => q = b) _ ⟨b, 2, none⟩ v2 rfl)
theorem new_any (w : World) : Calls Tryz.prog 5 #[] w fun e w' => e = .returned (.pointer (some ⟨w.heap.size, 0, none⟩)) ∧ LsAt w' w.heap.size none [] 0 ∧ Below w.heap.size w w' := by
  go_enter Tryz.func5, Tryz.ntmps5
  go_wp2
  go_ret
  refine ⟨rfl, ⟨by simp [go_sem], by simp [go_sem], rfl, fun j => by simp [go_sem], fun p hp => by simp at hp, ⟨fun p hp => by simp at hp, fun p hp => by simp at hp, fun p hp => by simp at hp, by omega, by simp⟩, by simp⟩, (Below.refl _ _).alloc (Nat.le_refl _) _⟩

set_option maxRecDepth 100000 in
set_option maxHeartbeats 1000000 in
theorem get_none (h : LsAt w lb ob m last) (id : Int) (hg : getL m id = none) : Calls Tryz.prog 18 #[.pointer (some ⟨lb, 0, none⟩), .int .i64 id] w fun e w' =>
    e = .returned (.tuple #[.agg #[.int .i64 0, .slice none 0 0, .int .i64 0], .int .i64 22]) ∧ Below w.heap.size w w' := by
  obtain ⟨W0, hW0⟩ : ∃ W0, w.alloc (.cells #[.int .i64 0, .slice none 0 0, .int .i64 0] 65) = W0 := ⟨_, rfl⟩
  have hb0 : Below w.heap.size w W0 := by rw [← hW0]; exact (Below.refl _ _).alloc (Nat.le_refl _) _
  have h0 := h.below hb0
  have hlk : (Instr.lookup 30 (.map ob) (.int .i64 id) true).run Tryz.prog W0 = .ok (.tuple #[.agg #[.int .i64 0, .slice none 0 0, .int .i64 0], .bool false]) W0 := by
    have h5 := MapV.look h0.mp keyZ und_map (z := .agg #[.int .i64 0, .slice none 0 0, .int .i64 0]) (Tryz.zeroValue65 _) true id
    rw [hg] at h5
    exact h5
  have c0 := h0.c0
  have r0 : W0.cell? ⟨w.heap.size, 0, none⟩ = some (.int .i64 0) := by rw [← hW0]; simp [go_sem]
  have r1 : W0.cell? ⟨w.heap.size, 1, none⟩ = some (.slice none 0 0) := by rw [← hW0]; simp [go_sem]
  have r2 : W0.cell? ⟨w.heap.size, 2, none⟩ = some (.int .i64 0) := by rw [← hW0]; simp [go_sem]
  have rf : ∀ j, W0.frozen? ⟨w.heap.size, j, none⟩ = false := fun j => by rw [← hW0]; simp [go_sem]
  have hz0 : w.heap.size < W0.heap.size := by rw [← hW0]; simp
  have hbA : ∀ x, Below W0.heap.size W0 (W0.alloc x) := fun x => (Below.refl _ _).alloc (Nat.le_refl _) _
  have s0 : ∀ x, (W0.alloc x).cell? ⟨w.heap.size, 0, none⟩ = some (.int .i64 0) := fun x => ((hbA x).cell (p := ⟨w.heap.size, 0, none⟩) hz0).trans r0
  have s1 : ∀ x, (W0.alloc x).cell? ⟨w.heap.size, 1, none⟩ = some (.slice none 0 0) := fun x => ((hbA x).cell (p := ⟨w.heap.size, 1, none⟩) hz0).trans r1
  have s2 : ∀ x, (W0.alloc x).cell? ⟨w.heap.size, 2, none⟩ = some (.int .i64 0) := fun x => ((hbA x).cell (p := ⟨w.heap.size, 2, none⟩) hz0).trans r2
  have sf : ∀ x j, (W0.alloc x).frozen? ⟨w.heap.size, j, none⟩ = false := fun x j => ((hbA x).frozen (p := ⟨w.heap.size, j, none⟩) hz0).trans (rf j)
  have HB := Lib.hid (And.intro hb0 hbA)
  clear h h0 hg hb0 hbA r0 r1 r2 rf hz0
  go_enter Tryz.func18, Tryz.ntmps18
  go_wp2_with fail
  obtain ⟨k0, k1, k2⟩ := set3 (s0 _) (s1 _) (s2 _) rfl
  (try simp only [Exit.inBlock, Exit.then]); exact bodyPost_ret (results_cell2 rfl rfl (load_lease k0 k1 k2)) rfl ⟨rfl, below3 (HB.out.1.trans ((HB.out.2 _).mono HB.out.1.size)) (Nat.le_refl _)⟩

set_option maxRecDepth 100000 in
set_option maxHeartbeats 1000000 in
theorem get_some (h : LsAt w lb ob m last) (id : Int) {x : Lv} (hg : getL m id = some x) : Calls Tryz.prog 18 #[.pointer (some ⟨lb, 0, none⟩), .int .i64 id] w fun e w' =>
    ∃ a c, e = .returned (.tuple #[.agg #[.int .i64 x.id, .slice a x.vs.length c, .int .i64 x.till], .int .i64 0]) ∧ Own eVec w' w.heap.size (.slice a x.vs.length c) x.vs ∧ Below w.heap.size w w' := by
  obtain ⟨W0, hW0⟩ : ∃ W0, w.alloc (.cells #[.int .i64 0, .slice none 0 0, .int .i64 0] 65) = W0 := ⟨_, rfl⟩
  have hb0 : Below w.heap.size w W0 := by rw [← hW0]; exact (Below.refl _ _).alloc (Nat.le_refl _) _
  have h0 := h.below hb0
  have hxm : (id, x) ∈ m := by
    unfold getL at hg
    obtain ⟨p, hp, rfl⟩ := Option.map_eq_some_iff.1 hg
    have h1 := List.find?_some hp
    have h2 := List.mem_of_find?_eq_some hp
    obtain rfl : p.1 = id := by simpa using h1
    exact h2
  have hxr := h0.rd _ hxm
  have hxv := h0.ok.vec _ hxm
  obtain ⟨xi, xa, xc, xv, xt⟩ := x
  have hv8 : xv.length ≤ 8 := by
    simp only [validB, Bool.and_eq_true, decide_eq_true_eq] at hxv
    exact hxv.1.2
  have hlk : (Instr.lookup 30 (.map ob) (.int .i64 id) true).run Tryz.prog W0 = .ok (.tuple #[.agg #[.int .i64 xi, .slice xa xv.length xc, .int .i64 xt], .bool true]) W0 := by
    have h5 := MapV.look h0.mp keyZ und_map (z := .agg #[.int .i64 0, .slice none 0 0, .int .i64 0]) (Tryz.zeroValue65 _) true id
    rw [hg] at h5
    exact h5
  have c0 := h0.c0
  have r0 : W0.cell? ⟨w.heap.size, 0, none⟩ = some (.int .i64 0) := by rw [← hW0]; simp [go_sem]
  have r1 : W0.cell? ⟨w.heap.size, 1, none⟩ = some (.slice none 0 0) := by rw [← hW0]; simp [go_sem]
  have r2 : W0.cell? ⟨w.heap.size, 2, none⟩ = some (.int .i64 0) := by rw [← hW0]; simp [go_sem]
  have rf : ∀ j, W0.frozen? ⟨w.heap.size, j, none⟩ = false := fun j => by rw [← hW0]; simp [go_sem]
  have hz0 : W0.heap.size = w.heap.size + 1 := by rw [← hW0]; simp
  have hcl : ∀ x, Calls Tryz.prog 30 #[.slice xa xv.length xc] (W0.alloc x) fun e w' => ∃ a c, e = .returned (.slice a xv.length c) ∧ Own eVec w' (W0.heap.size + 1) (.slice a xv.length c) xv ∧ Below (W0.heap.size + 1) (W0.alloc x) w' := fun x => by
    have := clone_any (RdI.below hxr.rd ((Below.refl _ _).alloc (Nat.le_refl _) x)) (by show xv.length ≤ _; omega)
    simpa using this
  have hbA : ∀ x, Below W0.heap.size W0 (W0.alloc x) := fun x => (Below.refl _ _).alloc (Nat.le_refl _) _
  obtain ⟨nv, hnv⟩ : ∃ nv, xv.length = nv := ⟨_, rfl⟩
  simp only [hnv] at hlk hcl ⊢
  have HB := Lib.hid (And.intro hb0 (And.intro hbA hz0))
  clear h h0 hg hb0 hxm hxr hxv hnv hv8 hz0
  go_enter Tryz.func18, Tryz.ntmps18
  go_wp2_with fail
  refine (hcl _).mono ?_
  rintro e w2 ⟨ca, cc, rfl, hco, hcb⟩
  have hz0 := HB.out.2.2
  have hA := (hbA (.cells #[.int .i64 xi, .slice xa nv xc, .int .i64 xt] 65))
  have p0 : w2.cell? ⟨W0.heap.size, 0, none⟩ = some (.int .i64 xi) := (hcb.cell (p := ⟨W0.heap.size, 0, none⟩) (by simp)).trans (by simp [go_sem])
  have p1 : w2.cell? ⟨W0.heap.size, 1, none⟩ = some (.slice xa nv xc) := (hcb.cell (p := ⟨W0.heap.size, 1, none⟩) (by simp)).trans (by simp [go_sem])
  have p2 : w2.cell? ⟨W0.heap.size, 2, none⟩ = some (.int .i64 xt) := (hcb.cell (p := ⟨W0.heap.size, 2, none⟩) (by simp)).trans (by simp [go_sem])
  have pf : ∀ j, w2.frozen? ⟨W0.heap.size, j, none⟩ = false := fun j => (hcb.frozen (p := ⟨W0.heap.size, j, none⟩) (by simp)).trans (by simp [go_sem])
  obtain ⟨W3, hW3⟩ : ∃ W3, w2.setCell ⟨W0.heap.size, 1, none⟩ (.slice ca nv cc) = W3 := ⟨_, rfl⟩
  have s0 : W3.cell? ⟨W0.heap.size, 0, none⟩ = some (.int .i64 xi) := by rw [← hW3]; exact cell_set p0 (by omega)
  have s1 : W3.cell? ⟨W0.heap.size, 1, none⟩ = some (.slice ca nv cc) := by rw [← hW3]; exact World.cell?_setCell_same _ _ _ p1
  have s2 : W3.cell? ⟨W0.heap.size, 2, none⟩ = some (.int .i64 xt) := by rw [← hW3]; exact cell_set p2 (by omega)
  have b3 : Below W0.heap.size W0 W3 := by rw [← hW3]; exact (hA.trans (hcb.mono (by omega))).setCell (by simp) _
  have o3 : Own eVec W3 (W0.heap.size + 1) (.slice ca nv cc) xv := by
    rw [← hW3]
    exact (Tn.setCell (F := fun q => q = W0.heap.size) w2 ⟨W0.heap.size, 1, none⟩ (.slice ca nv cc) rfl).row hco (fun q hq e => by have := (hco.lt q hq).1; omega)
  have t0 := (b3.cell (p := ⟨w.heap.size, 0, none⟩) (by show w.heap.size < W0.heap.size; omega)).trans r0
  have t1 := (b3.cell (p := ⟨w.heap.size, 1, none⟩) (by show w.heap.size < W0.heap.size; omega)).trans r1
  have t2 := (b3.cell (p := ⟨w.heap.size, 2, none⟩) (by show w.heap.size < W0.heap.size; omega)).trans r2
  have tf : ∀ j, W3.frozen? ⟨w.heap.size, j, none⟩ = false := fun j => (b3.frozen (p := ⟨w.heap.size, j, none⟩) (by show w.heap.size < W0.heap.size; omega)).trans (rf j)
  have HC := Lib.hid (And.intro b3 o3); clear hco hcb b3 o3 hA hz0
  go_wp2_with fail
  obtain ⟨k0, k1, k2⟩ := set3 t0 t1 t2 rfl
  (try simp only [Exit.inBlock, Exit.then]); exact bodyPost_ret (results_cell2 rfl rfl (load_lease k0 k1 k2)) rfl ⟨ca, cc, rfl, row_mono ((Tn.set3 W3 w.heap.size _ _ _).row HC.out.2 (fun q hq e => by have := (HC.out.2.lt q hq).1; have := HB.out.2.2; omega)) (by have := HB.out.2.2; omega), below3 (HB.out.1.trans (HC.out.1.mono HB.out.1.size)) (Nat.le_refl _)⟩
end Go.Proofs.YtnegappgdpeabaaGreat
/-
  Lease: what is below all leases.
-/
namespace Go.Proofs.YtnegappgdpeabaaGreat
open Go.RowKit
variable {w w' w0 w1 w2 w3 : World} {mb lb B : Nat} {ob : Option Nat} {m : Lm} {last : Int}

def meetAll : List (List Int) → List Int
  | [] => []
  | a :: l => l.foldl meetV a
theorem meetAll_snoc {l : List (List Int)} (h : l ≠ []) (b : List Int) : meetAll (l ++ [b]) = meetV (meetAll l) b := by
  cases l with
  | nil => exact absurd rfl h
  | cons a l => simp [meetAll, List.foldl_append]
theorem meetAll_len {k : Nat} : ∀ {l : List (List Int)}, l ≠ [] → (∀ a ∈ l, a.length = k) → (meetAll l).length = k := by
  intro l h hk
  cases l with
  | nil => exact absurd rfl h
  | cons a l =>
    show (l.foldl meetV a).length = k
    have ha := hk a List.mem_cons_self
    have hl : ∀ b ∈ l, b.length = k := fun b hb => hk b (List.mem_cons_of_mem _ hb)
    clear h hk
    induction l generalizing a with
    | nil => exact ha
    | cons b l ih => exact ih (meetV a b) (by rw [meetV_len (by rw [ha, hl b List.mem_cons_self]), ha]) (fun c hc => hl c (List.mem_cons_of_mem _ hc))

theorem own_some {a : Option Addr} {n c : Nat} {l : List Int} (h : Own eVec w B (.slice a n c) l) (hn : 1 ≤ n) : ∃ g, a = some g := by
  rcases h.2 with ⟨e, _⟩ | ⟨g, c2, cu, e, _⟩
  · injection e with e1 e2 e3
    omega
  · injection e with e1 e2 e3
    exact ⟨_, e1⟩
theorem core_vs {L M : List Lv} (h : L.map core = M.map core) : L.map (·.vs) = M.map (·.vs) := by
  have h5 := congrArg (List.map (fun c : Int × List Int × Int => c.2.1)) h
  rw [List.map_map, List.map_map] at h5
  exact h5

set_option maxRecDepth 100000 in
set_option maxHeartbeats 2000000 in
theorem meetAll_any (h : LsAt w lb ob m last) {k : Nat} (hk0 : 1 ≤ k) (hk8 : k ≤ 8) (hk : ∀ p ∈ m, p.2.vs.length = k) : Calls Tryz.prog 26 #[.pointer (some ⟨lb, 0, none⟩)] w fun e w' =>
    ∃ v, e = .returned v ∧ RdI w' v (meetAll ((sortM m).map (·.vs))) ∧ Below w.heap.size w w' := by
  have hL := list_any h
  obtain ⟨n, hn⟩ : ∃ n, m.length = n := ⟨_, rfl⟩
  rw [hn] at hL
  have hq := qVec
  have hn16 : n ≤ 16 := by have := h.ok.few; omega
  have hks : ∀ x ∈ sortM m, x.vs.length = k := fun x hx => by
    unfold sortM at hx
    obtain ⟨id, _, hg⟩ := List.mem_filterMap.1 hx
    unfold getL at hg
    obtain ⟨p, hp, rfl⟩ := Option.map_eq_some_iff.1 hg
    exact hk p (List.mem_of_find?_eq_some hp)
  have HK := Lib.hid hks
  clear h hn hk hks
  go_enter Tryz.func26, Tryz.ntmps26
  go_wp2_with (go_at_call 39; refine hL.mono ?_; rintro e w1 ⟨la, lc, L, rfl, hLc, hLl, hLo, hb1⟩; have hvs := core_vs hLc; have H1 := Lib.hid (And.intro hvs (And.intro hLl (And.intro hLo hb1))); clear hLc hLl hLo hb1 hvs)
  have hvk : ∀ a ∈ L.map (·.vs), a.length = k := by
    rw [H1.out.1]
    intro a ha
    obtain ⟨x, hx, rfl⟩ := List.mem_map.1 ha
    exact HK.out x hx
  have HV := Lib.hid hvk
  clear hvk
  go_loopw [3, 4, 5, 9] (fun v _ _ iv wr => ∃ i : Nat, i ≤ n ∧ iv = .int .i64 (i : Int) ∧ RdI wr v (meetAll ((L.map (·.vs)).take i)) ∧ Below w1.heap.size w1 wr) (fun _ _ _ iv _ => n - (intOf iv).toNat)
  case atStart => exact ⟨0, by omega, rfl, ⟨none, 0, rfl, .inl rfl⟩, Below.refl _ _⟩
  case round =>
    obtain ⟨i, hi, rfl, hrd, hb⟩ := hrel
    have hLw := H1.out.2.2.1.below hb
    have HB := Lib.hid (And.intro hrd hb)
    by_cases hlt : i < n
    · have hil : i < L.length := by rw [H1.out.2.1]; exact hlt
      have htk : (L.map (·.vs)).take (i + 1) = (L.map (·.vs)).take i ++ [L[i].vs] := by rw [List.take_succ_eq_append_getElem (by rw [List.length_map]; exact hil), List.getElem_map]
      have hxo := (hLw.2 L[i] (List.getElem_mem hil)).1
      have hxk : L[i].vs.length = k := HV.out _ (List.mem_map.2 ⟨L[i], List.getElem_mem hil, rfl⟩)
      obtain ⟨g, rfl, hg, d0, d1, d2⟩ := hLw.get hil
      obtain ⟨x, hx⟩ : ∃ x, L[i] = x := ⟨_, rfl⟩
      rw [hx] at d0 d1 d2 htk hxo hxk
      obtain ⟨xi, xa, xc, xv, xt⟩ := x
      have hxk' : xv.length = k := hxk
      have d1' : wr.cell? ⟨g, i * 3 + 1, none⟩ = some (.slice xa k xc) := by rw [← hxk']; exact d1
      have d0' : wr.cell? ⟨g, i * 3, none⟩ = some (.int .i64 xi) := d0
      have d2' : wr.cell? ⟨g, i * 3 + 2, none⟩ = some (.int .i64 xt) := d2
      have hxr : RdI wr (.slice xa k xc) xv := by rw [← hxk']; exact rdI_own hxo
      obtain ⟨va, vc, hv, _⟩ := hrd
      obtain ⟨vn, hvn⟩ : ∃ vn, (meetAll ((L.map (·.vs)).take i)).length = vn := ⟨_, rfl⟩
      rw [hvn] at hv
      subst hv
      obtain ⟨W1, hW1⟩ : ∃ W1, wr.alloc (.cells #[.int .i64 xi, .slice xa k xc, .int .i64 xt] 65) = W1 := ⟨_, rfl⟩
      have hbW : Below wr.heap.size wr W1 := by rw [← hW1]; exact (Below.refl _ _).alloc (Nat.le_refl _) _
      have q0 : W1.cell? ⟨wr.heap.size, 0, none⟩ = some (.int .i64 xi) := by rw [← hW1]; simp [go_sem]
      have q1 : W1.cell? ⟨wr.heap.size, 1, none⟩ = some (.slice xa k xc) := by rw [← hW1]; simp [go_sem]
      have q2 : W1.cell? ⟨wr.heap.size, 2, none⟩ = some (.int .i64 xt) := by rw [← hW1]; simp [go_sem]
      have r1 : (i : Int) < (n : Int) := by omega
      have HX := Lib.hid (And.intro htk (And.intro hbW (And.intro (hxr.below hbW) (And.intro (HB.out.1.below hbW) (And.intro hvn hxk')))))
      clear htk hbW hx d0 d1 d2 hil hLw hxo hxk hxk' hxr hvn
      by_cases hi0 : i = 0
      · subst hi0
        go_wp2
        go_roundw
        case rel =>
          refine ⟨1, by omega, by go_num, ?_, HB.out.2.trans (HX.out.2.1.mono HB.out.2.size)⟩
          rw [HX.out.1]
          exact HX.out.2.2.1
        case measure => simp [intOf]; omega
      · have t0 : ((i : Int) == 0) = false := by simp; omega
        have t0' : ¬ (i : Int) = 0 := by omega
        have hne : (L.map (·.vs)).take i ≠ [] := by
          intro e
          have := congrArg List.length e
          rw [List.length_take, List.length_map, H1.out.2.1] at this
          simp at this
          omega
        have hvk2 : vn = k := by rw [← HX.out.2.2.2.2.1]; exact meetAll_len hne (fun a ha => HV.out a (List.mem_of_mem_take ha))
        subst hvk2
        have hM := meet_any HX.out.2.2.2.1 HX.out.2.2.1 (by rw [HX.out.2.2.2.2.1, HX.out.2.2.2.2.2]) (by rw [HX.out.2.2.2.2.1]; omega)
        rw [HX.out.2.2.2.2.1] at hM
        have HE := Lib.hid (meetAll_snoc hne xv)
        clear hne
        go_wp2_with (go_at_call 111; refine hM.mono ?_; rintro e w2 ⟨ao, ac, rfl, ho2, hb2⟩; obtain ⟨ag, rfl⟩ := own_some ho2 hk0; have H2 := Lib.hid (And.intro (rdI_own ho2) (HX.out.2.1.trans (hb2.mono HX.out.2.1.size))); clear ho2 hb2)
        go_roundw
        case rel =>
          refine ⟨i + 1, by omega, by go_num, ?_, HB.out.2.trans (H2.out.2.mono HB.out.2.size)⟩
          rw [HX.out.1, HE.out]
          exact H2.out.1
        case measure => simp [intOf]; omega
    · obtain rfl : i = n := by omega
      obtain ⟨va, vc, hv, _⟩ := hrd
      subst hv
      clear hLw
      go_wp2
      go_ret
      have hall : (L.map (·.vs)).take i = (sortM m).map (·.vs) := by rw [List.take_of_length_le (by rw [List.length_map, H1.out.2.1]; omega), H1.out.1]
      rw [← hall]
      exact ⟨_, rfl, HB.out.1, H1.out.2.2.2.trans (HB.out.2.mono H1.out.2.2.2.size)⟩
end Go.Proofs.YtnegappgdpeabaaGreat
/-
  Lease: a lease that is not over; one is renewed, one is ended.
-/
namespace Go.Proofs.YtnegappgdpeabaaGreat
open Go.RowKit
variable {w w' w0 w1 w2 w3 : World} {mb lb B : Nat} {ob : Option Nat} {m : Lm} {last : Int}

set_option maxRecDepth 100000 in
set_option maxHeartbeats 1000000 in
theorem there_none (h : LsAt w lb ob m last) (id now : Int) (hg : getL m id = none) : Calls Tryz.prog 37 #[.pointer (some ⟨lb, 0, none⟩), .int .i64 id, .int .i64 now] w fun e w' =>
    e = .returned (.tuple #[.agg #[.int .i64 0, .slice none 0 0, .int .i64 0], .int .i64 22]) ∧ Below w.heap.size w w' := by
  obtain ⟨W0, hW0⟩ : ∃ W0, w.alloc (.cells #[.int .i64 0, .slice none 0 0, .int .i64 0] 65) = W0 := ⟨_, rfl⟩
  have hb0 : Below w.heap.size w W0 := by rw [← hW0]; exact (Below.refl _ _).alloc (Nat.le_refl _) _
  have h0 := h.below hb0
  have hlk : (Instr.lookup 30 (.map ob) (.int .i64 id) true).run Tryz.prog W0 = .ok (.tuple #[.agg #[.int .i64 0, .slice none 0 0, .int .i64 0], .bool false]) W0 := by
    have h5 := MapV.look h0.mp keyZ und_map (z := .agg #[.int .i64 0, .slice none 0 0, .int .i64 0]) (Tryz.zeroValue65 _) true id
    rw [hg] at h5
    exact h5
  have c0 := h0.c0
  have r0 : W0.cell? ⟨w.heap.size, 0, none⟩ = some (.int .i64 0) := by rw [← hW0]; simp [go_sem]
  have r1 : W0.cell? ⟨w.heap.size, 1, none⟩ = some (.slice none 0 0) := by rw [← hW0]; simp [go_sem]
  have r2 : W0.cell? ⟨w.heap.size, 2, none⟩ = some (.int .i64 0) := by rw [← hW0]; simp [go_sem]
  have rf : ∀ j, W0.frozen? ⟨w.heap.size, j, none⟩ = false := fun j => by rw [← hW0]; simp [go_sem]
  have hz0 : w.heap.size < W0.heap.size := by rw [← hW0]; simp
  have hbA : ∀ x, Below W0.heap.size W0 (W0.alloc x) := fun x => (Below.refl _ _).alloc (Nat.le_refl _) _
  have s0 : ∀ x, (W0.alloc x).cell? ⟨w.heap.size, 0, none⟩ = some (.int .i64 0) := fun x => ((hbA x).cell (p := ⟨w.heap.size, 0, none⟩) hz0).trans r0
  have s1 : ∀ x, (W0.alloc x).cell? ⟨w.heap.size, 1, none⟩ = some (.slice none 0 0) := fun x => ((hbA x).cell (p := ⟨w.heap.size, 1, none⟩) hz0).trans r1
  have s2 : ∀ x, (W0.alloc x).cell? ⟨w.heap.size, 2, none⟩ = some (.int .i64 0) := fun x => ((hbA x).cell (p := ⟨w.heap.size, 2, none⟩) hz0).trans r2
  have sf : ∀ x j, (W0.alloc x).frozen? ⟨w.heap.size, j, none⟩ = false := fun x j => ((hbA x).frozen (p := ⟨w.heap.size, j, none⟩) hz0).trans (rf j)
  have HB := Lib.hid (And.intro hb0 hbA)
  clear h h0 hg hb0 hbA r0 r1 r2 rf hz0
  go_enter Tryz.func37, Tryz.ntmps37
  go_wp2_with fail
  obtain ⟨k0, k1, k2⟩ := set3 (s0 _) (s1 _) (s2 _) rfl
  (try simp only [Exit.inBlock, Exit.then]); exact bodyPost_ret (results_cell2 rfl rfl (load_lease k0 k1 k2)) rfl ⟨rfl, below3 (HB.out.1.trans ((HB.out.2 _).mono HB.out.1.size)) (Nat.le_refl _)⟩


set_option maxRecDepth 100000 in
set_option maxHeartbeats 1000000 in
theorem there_some (h : LsAt w lb ob m last) (id now : Int) {x : Lv} (hg : getL m id = some x) : Calls Tryz.prog 37 #[.pointer (some ⟨lb, 0, none⟩), .int .i64 id, .int .i64 now] w fun e w' =>
    e = .returned (if x.till ≤ now then .tuple #[.agg #[.int .i64 0, .slice none 0 0, .int .i64 0], .int .i64 51] else .tuple #[cvL x, .int .i64 0]) ∧ Below w.heap.size w w' := by
  obtain ⟨W0, hW0⟩ : ∃ W0, w.alloc (.cells #[.int .i64 0, .slice none 0 0, .int .i64 0] 65) = W0 := ⟨_, rfl⟩
  have hb0 : Below w.heap.size w W0 := by rw [← hW0]; exact (Below.refl _ _).alloc (Nat.le_refl _) _
  have h0 := h.below hb0
  obtain ⟨xi, xa, xc, xv, xt⟩ := x
  have hlk : (Instr.lookup 30 (.map ob) (.int .i64 id) true).run Tryz.prog W0 = .ok (.tuple #[.agg #[.int .i64 xi, .slice xa xv.length xc, .int .i64 xt], .bool true]) W0 := by
    have h5 := MapV.look h0.mp keyZ und_map (z := .agg #[.int .i64 0, .slice none 0 0, .int .i64 0]) (Tryz.zeroValue65 _) true id
    rw [hg] at h5
    exact h5
  have c0 := h0.c0
  have r0 : W0.cell? ⟨w.heap.size, 0, none⟩ = some (.int .i64 0) := by rw [← hW0]; simp [go_sem]
  have r1 : W0.cell? ⟨w.heap.size, 1, none⟩ = some (.slice none 0 0) := by rw [← hW0]; simp [go_sem]
  have r2 : W0.cell? ⟨w.heap.size, 2, none⟩ = some (.int .i64 0) := by rw [← hW0]; simp [go_sem]
  have rf : ∀ j, W0.frozen? ⟨w.heap.size, j, none⟩ = false := fun j => by rw [← hW0]; simp [go_sem]
  have hz0 : w.heap.size < W0.heap.size := by rw [← hW0]; simp
  obtain ⟨nv, hnv⟩ : ∃ nv, xv.length = nv := ⟨_, rfl⟩
  have hcv : cvL ⟨xi, xa, xc, xv, xt⟩ = .agg #[.int .i64 xi, .slice xa nv xc, .int .i64 xt] := by rw [← hnv]; rfl
  rw [hcv]
  simp only [hnv] at hlk
  have ho := over_any xi xa nv xc xt now
  have HB := Lib.hid (And.intro hb0 hz0)
  clear h h0 hg hb0 hz0 hnv hcv
  by_cases hov : xt ≤ now
  · have t1 : decide (xt ≤ now) = true := decide_eq_true hov
    rw [t1] at ho
    rw [if_pos hov]
    clear t1 hov
    go_enter Tryz.func37, Tryz.ntmps37
    go_wp2_with fail
    refine (ho _).mono ?_
    rintro e w2 ⟨rfl, hb2⟩
    have b3 : Below W0.heap.size W0 w2 := ((Below.refl _ _).alloc (Nat.le_refl _) _).trans (hb2.mono (by simp))
    have s0 := (b3.cell (p := ⟨w.heap.size, 0, none⟩) HB.out.2).trans r0
    have s1 := (b3.cell (p := ⟨w.heap.size, 1, none⟩) HB.out.2).trans r1
    have s2 := (b3.cell (p := ⟨w.heap.size, 2, none⟩) HB.out.2).trans r2
    have sf : ∀ j, w2.frozen? ⟨w.heap.size, j, none⟩ = false := fun j => (b3.frozen (p := ⟨w.heap.size, j, none⟩) HB.out.2).trans (rf j)
    have HC := Lib.hid b3
    clear b3 hb2
    go_wp2_with fail
    obtain ⟨k0, k1, k2⟩ := set3 s0 s1 s2 rfl
    (try simp only [Exit.inBlock, Exit.then]); exact bodyPost_ret (results_cell2 rfl rfl (load_lease k0 k1 k2)) rfl ⟨rfl, below3 (HB.out.1.trans (HC.out.mono HB.out.1.size)) (Nat.le_refl _)⟩
  · have t1 : decide (xt ≤ now) = false := decide_eq_false hov
    rw [t1] at ho
    rw [if_neg hov]
    clear t1 hov
    go_enter Tryz.func37, Tryz.ntmps37
    go_wp2_with fail
    refine (ho _).mono ?_
    rintro e w2 ⟨rfl, hb2⟩
    have p0 : w2.cell? ⟨W0.heap.size, 0, none⟩ = some (.int .i64 xi) := (hb2.cell (p := ⟨W0.heap.size, 0, none⟩) (by simp)).trans (by simp [go_sem])
    have p1 : w2.cell? ⟨W0.heap.size, 1, none⟩ = some (.slice xa nv xc) := (hb2.cell (p := ⟨W0.heap.size, 1, none⟩) (by simp)).trans (by simp [go_sem])
    have p2 : w2.cell? ⟨W0.heap.size, 2, none⟩ = some (.int .i64 xt) := (hb2.cell (p := ⟨W0.heap.size, 2, none⟩) (by simp)).trans (by simp [go_sem])
    have b3 : Below W0.heap.size W0 w2 := ((Below.refl _ _).alloc (Nat.le_refl _) _).trans (hb2.mono (by simp))
    have s0 := (b3.cell (p := ⟨w.heap.size, 0, none⟩) HB.out.2).trans r0
    have s1 := (b3.cell (p := ⟨w.heap.size, 1, none⟩) HB.out.2).trans r1
    have s2 := (b3.cell (p := ⟨w.heap.size, 2, none⟩) HB.out.2).trans r2
    have sf : ∀ j, w2.frozen? ⟨w.heap.size, j, none⟩ = false := fun j => (b3.frozen (p := ⟨w.heap.size, j, none⟩) HB.out.2).trans (rf j)
    have HC := Lib.hid b3
    clear b3 hb2
    go_wp2_with fail
    obtain ⟨k0, k1, k2⟩ := set3 s0 s1 s2 rfl
    (try simp only [Exit.inBlock, Exit.then]); exact bodyPost_ret (results_cell2 rfl rfl (load_lease k0 k1 k2)) rfl ⟨rfl, below3 (HB.out.1.trans (HC.out.mono HB.out.1.size)) (Nat.le_refl _)⟩
end Go.Proofs.YtnegappgdpeabaaGreat
/-
  Lease: what is left where all that is over is taken away.
-/
namespace Go.Proofs.YtnegappgdpeabaaGreat
open Go.RowKit
variable {w w' w0 w1 w2 w3 : World} {mb lb B : Nat} {ob : Option Nat} {m : Lm} {last : Int}

/-- The leases that are not over. -/
def live (now : Int) (m : Lm) : Lm := m.filter (fun p => decide (now < p.2.till))
theorem getL_mem {k : Int} {x : Lv} (hn : (m.map (·.1)).Nodup) (h : (k, x) ∈ m) : getL m k = some x := by
  obtain ⟨y, h1, h2⟩ := getL_some (List.mem_map.2 ⟨(k, x), h, rfl⟩)
  obtain ⟨i, hi⟩ := List.getElem?_of_mem h
  obtain ⟨j, hj⟩ := List.getElem?_of_mem h2
  have e := at_one hn (i := i) (j := j) (a := k) (by rw [List.getElem?_map, hi]; rfl) (by rw [List.getElem?_map, hj]; rfl)
  subst e
  rw [hi] at hj
  injection hj with hj
  injection hj with _ hj
  rw [h1, hj]
theorem getL_in {k : Int} {x : Lv} (h : getL m k = some x) : (k, x) ∈ m := by
  unfold getL at h
  obtain ⟨p, hp, rfl⟩ := Option.map_eq_some_iff.1 h
  have h1 := List.find?_some hp
  have h2 := List.mem_of_find?_eq_some hp
  obtain rfl : p.1 = k := by simpa using h1
  exact h2
theorem sortM_mem (hn : (m.map (·.1)).Nodup) {x : Lv} : x ∈ sortM m ↔ ∃ p ∈ m, p.2 = x := by
  unfold sortM
  rw [List.mem_filterMap]
  constructor
  · rintro ⟨k, _, hk⟩
    exact ⟨(k, x), getL_in hk, rfl⟩
  · rintro ⟨p, hp, rfl⟩
    exact ⟨p.1, sortZ_mem.2 (List.mem_map.2 ⟨p, hp, rfl⟩), getL_mem hn hp⟩
theorem expF_eq (now : Int) (l : List (Int × List Int × Int)) (m : Lm) : expF now l m = m.filter (fun p => !l.any (fun c => decide (c.2.2 ≤ now) && decide (c.1 = p.1))) := by
  induction l generalizing m with
  | nil => exact (List.filter_eq_self.2 (fun _ _ => rfl)).symm
  | cons c l ih =>
    show expF now l _ = _
    rw [ih]
    by_cases h : c.2.2 ≤ now
    · rw [if_pos h]
      unfold delL
      rw [List.filter_filter]
      refine List.filter_congr (fun p _ => ?_)
      rw [List.any_cons, decide_eq_true h, Bool.true_and, Bool.not_or, Bool.and_comm]
      congr 1
      by_cases hp : p.1 = c.1
      · simp [hp]
      · simp [hp, Ne.symm hp]
    · rw [if_neg h]
      refine List.filter_congr (fun p _ => ?_)
      rw [List.any_cons, decide_eq_false h, Bool.false_and, Bool.false_or]
theorem exp_live (h : LOk m last) (hn : (m.map (·.1)).Nodup) (now : Int) : expF now ((sortM m).map core) m = live now m := by
  rw [expF_eq]
  unfold live
  refine List.filter_congr (fun p hp => ?_)
  by_cases hl : now < p.2.till
  · rw [decide_eq_true hl, Bool.not_eq_true', List.any_eq_false]
    intro c hc
    obtain ⟨x, hx, rfl⟩ := List.mem_map.1 hc
    obtain ⟨q, hq, rfl⟩ := (sortM_mem hn).1 hx
    intro h5
    rw [Bool.and_eq_true] at h5
    have h8 : q.2.till ≤ now := of_decide_eq_true h5.1
    have h9 : q.2.id = p.1 := of_decide_eq_true h5.2
    have h6 := getL_mem hn hp
    have h7 := getL_mem (k := q.1) (x := q.2) hn hq
    rw [← h.id q hq, h9, h6] at h7
    injection h7 with h7
    rw [← h7] at h8
    omega
  · rw [decide_eq_false hl, Bool.not_eq_false', List.any_eq_true]
    refine ⟨core p.2, List.mem_map.2 ⟨p.2, (sortM_mem hn).2 ⟨p, hp, rfl⟩, rfl⟩, ?_⟩
    rw [Bool.and_eq_true]
    exact ⟨decide_eq_true (show p.2.till ≤ now by omega), decide_eq_true (h.id p hp)⟩
theorem LsAt.nodup (h : LsAt w lb ob m last) : (m.map (·.1)).Nodup := by
  have := h.mp
  cases ob with
  | none => rw [show m = [] from this]; simp
  | some b => exact MapL.nodup this keyZ
end Go.Proofs.YtnegappgdpeabaaGreat
