import Derived.Test.YtnegappgdpeabaaGreatLe8
import Derived.Test.YtnegappgdpeabaaGreatLe1
set_option linter.unusedSimpArgs false
set_option linter.unusedVariables false
/-
  LeasePlays: the document's leases: how they lie; what only reads them.
-/
namespace Go.Proofs.YtnegappgdpeabaaGreat
open Go.RowKit
variable {w w' w0 w1 w2 w3 w4 : World} {rb B : Nat} {lv : Value} {M : List Lv} {last now : Int} {F F' G : Nat → Prop} {L : List Cr}

/-- At rb stand the document's leases; F: blocks that may turn. -/
structure RlAt (F : Nat → Prop) (w : World) (rb : Nat) (lv : Value) (M : List Lv) (last : Int) : Prop where
  c0 : w.cell? ⟨rb, 0, none⟩ = some lv
  c1 : w.cell? ⟨rb, 1, none⟩ = some (.int .i64 last)
  fz : ∀ j, w.frozen? ⟨rb, j, none⟩ = false
  row : Own eLse w 0 lv M
  nf : ∀ q, lv.ownBlock = some q → ¬ F q
  fr : F rb
  rd : ∀ x ∈ M, RdX F w x
  fit : GoodL last (M.map core)
theorem RlAt.ltb (h : RlAt F w rb lv M last) : rb < w.heap.size := World.block_lt_of_cell? w _ h.c0
theorem RlAt.turn (h : RlAt F w rb lv M last) (ht : Tn G w w') (hG : ∀ q, q < w.heap.size → G q → F q ∧ q ≠ rb) (hF : ∀ q, q < w.heap.size → F' q → F q) (hr : F' rb) : RlAt F' w' rb lv M last := by
  have hn : ¬ G rb := fun e => (hG rb h.ltb e).2 rfl
  refine ⟨ht.cell h.c0 hn, ht.cell h.c1 hn, fun j => (ht.frozen (p := ⟨rb, j, none⟩) h.ltb hn).trans (h.fz j), ht.row h.row (fun q hq e => h.nf q hq (hG q (h.row.lt q hq).2 e).1), fun q hq e => h.nf q hq (hF q (h.row.lt q hq).2 e), hr, fun x hx => ?_, h.fit⟩
  refine (h.rd x hx).imp id ?_
  rintro ⟨b, off, ha, hf, hlt, hc⟩
  exact ⟨b, off, ha, fun e => hf (hF b hlt e), Nat.lt_of_lt_of_le hlt ht.size, fun i hi => ht.cell (hc i hi) (fun hg => hf (hG b hlt hg).1)⟩
theorem RlAt.below (h : RlAt F w rb lv M last) (hb : Below w.heap.size w w') : RlAt F w' rb lv M last := h.turn (G := fun _ => False) (Tn.ofBelow hb) (fun _ _ e => e.elim) (fun _ _ e => e) h.fr
theorem RlAt.few (h : RlAt F w rb lv M last) : M.length ≤ 16 := by
  have := h.fit.few
  rwa [List.length_map] at this
theorem RlAt.vec (h : RlAt F w rb lv M last) {x : Lv} (hx : x ∈ M) : 1 ≤ x.vs.length ∧ x.vs.length ≤ 8 := by
  have := (h.fit.each _ (List.mem_map.2 ⟨x, hx, rfl⟩)).2.2.1
  simp only [validB, Bool.and_eq_true, decide_eq_true_eq] at this
  exact this.1
theorem rl_form (h : RlAt F w rb lv M last) : ∃ a cap, lv = .slice a M.length cap ∧ M.length ≤ cap ∧ cap ≤ 9223372036854775807 := by
  obtain ⟨a, cap, hv, h1, h2⟩ := row_form h.row
  exact ⟨a, cap, hv, h1, h2⟩
theorem lv_cells {v : Value} (h : Own eLse w B v M) {i : Nat} (hi : i < M.length) :
    ∃ g cap, v = .slice (some ⟨g, 0, none⟩) M.length cap ∧ B ≤ g ∧ g < w.heap.size ∧ w.cell? ⟨g, i * 3, none⟩ = some (.int .i64 M[i].id) ∧ w.cell? ⟨g, i * 3 + 1, none⟩ = some M[i].sl ∧ w.cell? ⟨g, i * 3 + 2, none⟩ = some (.int .i64 M[i].till) := by
  have h0 := h
  obtain ⟨h1, h2⟩ := h
  rcases h2 with ⟨_, h3⟩ | ⟨g, cap, cur, rfl, hg, hh, hn, hc, hcl, htk⟩
  · omega
  · have c0 := h0.cellAt (i * 3) (by omega)
    have c1 := h0.cellAt (i * 3 + 1) (by omega)
    have c2 := h0.cellAt (i * 3 + 2) (by omega)
    have e0 := eLse.get M i 0 hi (by decide)
    have e1 := eLse.get M i 1 hi (by decide)
    have e2 := eLse.get M i 2 hi (by decide)
    rw [Nat.add_zero] at e0
    rw [e0] at c0
    rw [e1] at c1
    rw [e2] at c2
    exact ⟨g, cap, rfl, hg, (Array.getElem?_eq_some_iff.1 hh).1, c0, c1, c2⟩

theorem rover_any (h : RlAt F w rb lv M last) {i : Nat} (hi : i < M.length) (now : Int) : Calls Tryz.prog 34 #[.pointer (some ⟨rb, 0, none⟩), .int .i64 (i : Int), .int .i64 now] w fun e w' => e = .returned (.bool (decide (M[i].till ≤ now))) ∧ w = w' := by
  obtain ⟨g, cap, rfl, _, _, k0, k1, k2⟩ := lv_cells h.row hi
  have c0 := h.c0
  have hf := h.few
  obtain ⟨n, hn⟩ : ∃ n, M.length = n := ⟨_, rfl⟩
  obtain ⟨t, ht⟩ : ∃ t, M[i].till = t := ⟨_, rfl⟩
  rw [ht] at k2 ⊢
  rw [hn] at c0 hi hf
  have r1 : (i : Int) < (n : Int) := by omega
  clear hn ht k0 k1 h
  go_enter Tryz.func34, Tryz.ntmps34
  go_wp2
  go_ret
  exact ⟨rfl, rfl⟩
theorem until_any {ttl : Int} (h : rightB ttl now = true) (w : World) : Calls Tryz.prog 36 #[.int .i64 now, .int .i64 ttl] w fun e w' => e = .returned (.int .i64 (tillZ ttl now)) ∧ w = w' := by
  have h1 : 1 ≤ ttl ∧ ttl ≤ 2147483647 ∧ 0 ≤ now ∧ now < 281474976710656 := by simpa [rightB] using h
  have hw : IntKind.i64.wrap (now + ttl) = now + ttl := IntWalk.i64_in _ (by omega)
  clear h
  unfold tillZ
  by_cases hm : now + ttl ≤ 281474976710656
  · rw [Int.min_eq_left hm]
    have t1 : ¬ (281474976710656 : Int) < now + ttl := by omega
    go_enter Tryz.func36, Tryz.ntmps36
    go_wp2
    go_ret
    exact ⟨rfl, rfl⟩
  · rw [Int.min_eq_right (by omega)]
    have t1 : (281474976710656 : Int) < now + ttl := by omega
    go_enter Tryz.func36, Tryz.ntmps36
    go_wp2
    go_ret
    exact ⟨rfl, rfl⟩
theorem rright_any (ttl now : Int) (w : World) : Calls Tryz.prog 33 #[.int .i64 ttl, .int .i64 now] w fun e w' => e = .returned (.bool (rightB ttl now)) ∧ w = w' := by
  go_enter Tryz.func33, Tryz.ntmps33
  by_cases h1 : (1 : Int) ≤ ttl
  · by_cases h2 : ttl ≤ (2147483647 : Int)
    · by_cases h3 : (0 : Int) ≤ now
      · by_cases h4 : now < (281474976710656 : Int)
        · go_wp2
          go_ret
          refine ⟨?_, rfl⟩
          have : rightB ttl now = true := by simp [rightB]; omega
          rw [this]
          try rfl
        · go_wp2
          go_ret
          refine ⟨?_, rfl⟩
          have : rightB ttl now = false := by simp [rightB]; omega
          rw [this]
          try rfl
      · go_wp2
        go_ret
        refine ⟨?_, rfl⟩
        have : rightB ttl now = false := by simp [rightB]; omega
        rw [this]
        try rfl
    · go_wp2
      go_ret
      refine ⟨?_, rfl⟩
      have : rightB ttl now = false := by simp [rightB]; omega
      rw [this]
      try rfl
  · go_wp2
    go_ret
    refine ⟨?_, rfl⟩
    have : rightB ttl now = false := by simp [rightB]; omega
    rw [this]
    try rfl
set_option maxRecDepth 100000 in
theorem rvalid_any {x : Value} {l : List Int} (h : RdI w x l) (hl : l.length ≤ 1000000) : Calls Tryz.prog 32 #[x] w fun e w' => e = .returned (.bool (validB l)) ∧ w = w' := by
  obtain ⟨a, c, rfl, h1⟩ := h
  obtain ⟨n, hn⟩ : ∃ n, l.length = n := ⟨_, rfl⟩
  rw [hn] at hl ⊢
  obtain ⟨b, hb⟩ : ∃ b, validB l = b := ⟨_, rfl⟩
  rw [hb]
  have HN := Lib.hid (And.intro hn hb)
  have H := Lib.hid h1
  clear hn hb h1
  go_enter Tryz.func32, Tryz.ntmps32
  go_wp2
  go_loopw [3] (fun iv wr => ∃ i : Nat, i ≤ n ∧ iv = .int .i64 (i : Int) ∧ (l.take i).all okT = true ∧ wr = w) (fun iv _ => n - (intOf iv).toNat)
  case atStart => exact ⟨0, by omega, rfl, by simp, rfl⟩
  case round =>
    obtain ⟨i, hi, rfl, hall, rfl⟩ := hrel
    have HB := Lib.hid hall
    clear hall
    by_cases hlt : i < n
    · have hil : i < l.length := by have := HN.out.1; omega
      obtain ⟨b1, o1, rfl, l1, k1⟩ := H.out.resolve_left (fun e => by rw [e] at hil; simp at hil)
      obtain ⟨u, hu⟩ : ∃ u, l[i] = u := ⟨_, rfl⟩
      have d1 := k1 i hil
      rw [hu] at d1
      have htk : l.take (i + 1) = l.take i ++ [u] := by rw [List.take_succ_eq_append_getElem hil, hu]
      have hmem : u ∈ l := by rw [← hu]; exact List.getElem_mem hil
      have HX := Lib.hid (And.intro htk hmem)
      have r1 : (i : Int) < (n : Int) := by omega
      clear k1 htk hmem hu
      by_cases u0 : u < 0
      · have hb0 : b = false := by
          rw [← HN.out.2]
          rw [Bool.eq_false_iff]
          intro e
          simp only [validB, Bool.and_eq_true] at e
          have := List.all_eq_true.1 e.2 u HX.out.2
          simp only [okT, decide_eq_true_eq] at this
          omega
        subst hb0
        go_wp2
        go_ret
        exact ⟨rfl, rfl⟩
      · by_cases u1 : (281474976710656 : Int) ≤ u
        · have hb0 : b = false := by
            rw [← HN.out.2]
            rw [Bool.eq_false_iff]
            intro e
            simp only [validB, Bool.and_eq_true] at e
            have := List.all_eq_true.1 e.2 u HX.out.2
            simp only [okT, decide_eq_true_eq] at this
            omega
          subst hb0
          go_wp2
          go_ret
          exact ⟨rfl, rfl⟩
        · go_wp2
          go_roundw
          case rel => exact ⟨i + 1, by omega, by go_num, by rw [HX.out.1, List.all_append, HB.out]; simp [okT]; omega, by first | rfl | trivial⟩
          case measure => simp [intOf]; omega
    · obtain rfl : i = n := by omega
      have hall : l.all okT = true := by have := HB.out; rw [List.take_of_length_le (by have := HN.out.1; omega)] at this; exact this
      have hb1 : b = decide (1 ≤ i ∧ i ≤ 8) := by rw [← HN.out.2]; unfold validB; rw [hall, Bool.and_true, HN.out.1]
      clear hall
      by_cases h1 : 1 ≤ i
      · have t1 : (1 : Int) ≤ (i : Int) := by omega
        by_cases h2 : i ≤ 8
        · have t2 : (i : Int) ≤ 8 := by omega
          have hb2 : b = true := by rw [hb1]; exact decide_eq_true ⟨h1, h2⟩
          subst hb2
          clear hb1
          go_wp2
          go_ret
          exact ⟨rfl, rfl⟩
        · have t2 : ¬ (i : Int) ≤ 8 := by omega
          have hb2 : b = false := by rw [hb1]; exact decide_eq_false (by omega)
          subst hb2
          clear hb1
          go_wp2
          go_ret
          exact ⟨rfl, rfl⟩
      · have t1 : ¬ (1 : Int) ≤ (i : Int) := by omega
        have hb2 : b = false := by rw [hb1]; exact decide_eq_false (by omega)
        subst hb2
        clear hb1
        go_wp2
        go_ret
        exact ⟨rfl, rfl⟩
theorem src_rd {a : Option Addr} {n c : Nat} {l : List Int} (h : RdI w (.slice a n c) l) (hl : 1 ≤ l.length) : Src eVec w (.slice a n c) l := by
  obtain ⟨a', c', e, h⟩ := h
  injection e with e1 e2 e3
  subst e1 e2 e3
  rcases h with rfl | ⟨b, off, rfl, hlt, hc⟩
  · simp at hl
  · refine .inr ⟨_, c, rfl, fun j u hj => ?_⟩
    have hjl : j < l.length := by have := (List.getElem?_eq_some_iff.1 hj).1; rw [eVec.lens] at this; omega
    have h5 := eVec.get l j 0 hjl (by omega)
    rw [Nat.mul_one, Nat.add_zero] at h5
    rw [h5] at hj
    rw [add_off, hc j hjl, ← hj]
    rfl
theorem rcopy_any {a : Option Addr} {n c : Nat} {l : List Int} (h : RdI w (.slice a n c) l) (hl : 1 ≤ l.length) (hm : l.length ≤ 1000000) : Calls Tryz.prog 35 #[.slice a n c] w fun e w' => ∃ a' c', e = .returned (.slice a' n c') ∧ Own eVec w' w.heap.size (.slice a' n c') l ∧ Below w.heap.size w w' := by
  have hs := src_rd h hl
  have hn : l.length = n := by
    obtain ⟨a', c', e, _⟩ := h
    injection e with _ e2 _
    exact e2.symm
  subst hn
  have HS := Lib.hid hs
  clear h hs
  go_enter Tryz.func35, Tryz.ntmps35
  go_wp2_with (at_builtin; refine wpl_app eVec (l := []) rfl _ _ rfl rfl rfl (World.ownsRow_nil _ w.heap.size _ _) HS.out (by simp; omega) (Nat.le_refl _) ?_; intro a3 cap3 w3 ho3 hb3 _ _; have H3 := Lib.hid (And.intro ho3 hb3); clear ho3 hb3)
  go_ret
  have h1 := H3.out.1
  rw [List.nil_append, show ([] : List Int).length + l.length = l.length by simp] at h1
  exact ⟨a3, cap3, by simp, h1, H3.out.2⟩

/-- Where the lease of an id stands. -/
def AtE (M : List Lv) (id z : Int) : Prop := (z = -1 ∧ ∀ c ∈ M.map core, c.1 ≠ id) ∨ ∃ (i : Nat) (hi : i < M.length), z = (i : Int) ∧ M[i].id = id
set_option maxRecDepth 100000 in
theorem rlat_any (h : RlAt F w rb lv M last) (id : Int) : Calls Tryz.prog 38 #[.pointer (some ⟨rb, 0, none⟩), .int .i64 id] w fun e w' => (∃ z, e = .returned (.int .i64 z) ∧ AtE M id z) ∧ w = w' := by
  obtain ⟨a, cap, rfl, _, _⟩ := rl_form h
  have c0 := h.c0
  have hlen := h.few
  obtain ⟨n, hn⟩ : ∃ n, M.length = n := ⟨_, rfl⟩
  rw [hn] at c0 hlen
  have H := Lib.hid h.row
  have HN := Lib.hid hn
  clear h hn
  go_enter Tryz.func38, Tryz.ntmps38
  go_wp2
  go_loop [5] (fun x => ∃ i : Nat, i ≤ n ∧ x = .int .i64 (i : Int) ∧ ∀ j (hj : j < M.length), j < i → M[j].id ≠ id) (fun x => n - (intOf x).toNat)
  case atStart => exact ⟨0, by omega, rfl, fun j hj h => by omega⟩
  case round =>
    obtain ⟨i, hi, rfl, hbef⟩ := hrel
    have HB := Lib.hid hbef
    clear hbef
    by_cases hlt : i < n
    · have hil : i < M.length := by have := HN.out; omega
      obtain ⟨g, cap', hv, _, hg, k0, _, _⟩ := lv_cells H.out hil
      injection hv with e1 e2 e3
      subst e1
      obtain ⟨u, hu⟩ : ∃ u, M[i].id = u := ⟨_, rfl⟩
      rw [hu] at k0
      have HU := Lib.hid hu
      have r1 : (i : Int) < (n : Int) := by omega
      clear e2 e3 hu
      by_cases hus : u = id
      · subst hus
        have t1 : (u == u) = true := by simp
        go_wp2
        go_ret
        exact ⟨⟨_, rfl, .inr ⟨i, hil, rfl, HU.out⟩⟩, rfl⟩
      · have t1 : (u == id) = false := by simpa using hus
        have HU2 := Lib.hid hus
        clear hus
        go_wp2
        go_round
        case rel => exact ⟨i + 1, by omega, by go_num, fun j hj hji => by
          by_cases e : j = i
          · subst e; rw [HU.out]; exact HU2.out
          · exact HB.out j hj (by omega)⟩
        case measure => simp [intOf]; omega
    · obtain rfl : i = n := by omega
      go_wp2
      go_ret
      refine ⟨⟨_, rfl, .inl ⟨rfl, fun c hc => ?_⟩⟩, rfl⟩
      obtain ⟨x, hx, rfl⟩ := List.mem_map.1 hc
      obtain ⟨j, hj, rfl⟩ := List.mem_iff_getElem.1 hx
      exact HB.out j hj (by have := HN.out; omega)
end Go.Proofs.YtnegappgdpeabaaGreat
/-
  LeasePlays: the document's leases: Expire, Meet.
-/
namespace Go.Proofs.YtnegappgdpeabaaGreat
open Go.RowKit
variable {w w' w0 w1 w2 w3 w4 : World} {rb B : Nat} {lv lv' : Value} {M : List Lv} {last now : Int} {F F' G : Nat → Prop} {L : List Cr}

def liveV (now : Int) (M : List Lv) : List Lv := M.filter (fun x => decide (now < x.till))
theorem liveV_core (now : Int) (M : List Lv) : (liveV now M).map core = liveC now (M.map core) := by
  unfold liveV liveC
  rw [List.filter_map]
  rfl
theorem exp_step {i : Nat} (hi : i < M.length) (now : Int) :
    (M[i].till ≤ now → expI now ((M.take (i + 1)).map core) = expI now ((M.take i).map core) ++ [M[i].id] ∧ liveV now (M.take (i + 1)) = liveV now (M.take i)) ∧
    (¬ M[i].till ≤ now → expI now ((M.take (i + 1)).map core) = expI now ((M.take i).map core) ∧ liveV now (M.take (i + 1)) = liveV now (M.take i) ++ [M[i]]) := by
  have htk : M.take (i + 1) = M.take i ++ [M[i]] := List.take_succ_eq_append_getElem hi
  have h1 : expI now ((M.take (i + 1)).map core) = if (core M[i]).2.2 ≤ now then expI now ((M.take i).map core) ++ [(core M[i]).1] else expI now ((M.take i).map core) := by
    rw [htk, List.map_append]
    exact expI_snoc now _ _
  have h2 : liveV now (M.take (i + 1)) = liveV now (M.take i) ++ (if now < M[i].till then [M[i]] else []) := by
    rw [htk]
    unfold liveV
    rw [List.filter_append]
    congr 1
    by_cases h : now < M[i].till
    · rw [if_pos h]; simp [h]
    · rw [if_neg h]; simp [h]
  constructor
  · intro h
    rw [h1, h2, if_pos (show (core M[i]).2.2 ≤ now from h), if_neg (by omega), List.append_nil]
    exact ⟨rfl, rfl⟩
  · intro h
    rw [h1, h2, if_neg (show ¬ (core M[i]).2.2 ≤ now from h), if_pos (by omega)]
    exact ⟨rfl, rfl⟩
/-- A list of the document's is another one now. -/
theorem RlAt.relist {M' : List Lv} (h : RlAt F w rb lv M last) (hF : ∀ q, F q → q < w.heap.size) (hb : Below w.heap.size w w') (ho : Own eLse w' w.heap.size lv' M') (hrd : ∀ x ∈ M', RdX F w' x) (hfit : GoodL last (M'.map core)) :
    RlAt F (w'.setCell ⟨rb, 0, none⟩ lv') rb lv' M' last ∧ Tn (fun q => q = rb) w (w'.setCell ⟨rb, 0, none⟩ lv') := by
  have hlt := h.ltb
  have h2 := h.below hb
  have ts : Tn (fun q => q = rb) w' (w'.setCell ⟨rb, 0, none⟩ lv') := Tn.setCell _ _ _ rfl
  refine ⟨⟨World.cell?_setCell_same _ _ _ h2.c0, by rw [World.cell?_setCell_other _ _ _ _ (by intro e; injection e with _ e2; omega)]; exact h2.c1, fun j => (World.frozen?_setCell _ _ _ _).trans (h2.fz j), ts.row (row_mono ho (Nat.zero_le _)) (fun q hq e => by have := (ho.lt q hq).1; omega), fun q hq e => by have := (ho.lt q hq).1; have := hF q e; omega, h.fr, fun x hx => (hrd x hx).tn ts (fun q _ e => e ▸ h.fr), hfit⟩, (Tn.ofBelow hb).trans ts⟩
def RlStep (F : Nat → Prop) (w w' : World) (rb : Nat) (last : Int) (L' : List Cr) : Prop := ∃ lv' M', RlAt F w' rb lv' M' last ∧ M'.map core = L' ∧ Tn (fun q => q = rb) w w'
theorem RlStep.same (h : RlAt F w rb lv M last) : RlStep F w w rb last (M.map core) := ⟨lv, M, h, rfl, Tn.refl _ _⟩

theorem two_app {w w' : World} {B2 e2 k2 n2 : Nat} {v v' sv : Value} {xs : List Value} (hs : w.ownsRow B2 e2 k2 sv n2 xs) (hg : w.grownBy w' v.ownBlock) (hv : v'.ownBlock = v.ownBlock ∨ v'.ownBlock = some w.heap.size) (hsep : ∀ q, v.ownBlock = some q → sv.ownBlock ≠ some q) :
    w'.ownsRow B2 e2 k2 sv n2 xs ∧ ∀ q, v'.ownBlock = some q → sv.ownBlock ≠ some q :=
  ⟨(Tn.ofGrown (F := fun q => v.ownBlock = some q) hg (fun q hq => hq)).row hs (fun q hq h2 => hsep q h2 hq), fun q hq h2 => by
    rcases hv with e | e
    · rw [e] at hq; exact hsep q hq h2
    · rw [e] at hq
      have := Option.some.inj hq
      have := (hs.lt q h2).2
      omega⟩
set_option maxRecDepth 100000 in
set_option maxHeartbeats 2000000 in
theorem rlexpire_any (h : RlAt F w rb lv M last) (hF : ∀ q, F q → q < w.heap.size) (now : Int) : Calls Tryz.prog 17 #[.pointer (some ⟨rb, 0, none⟩), .int .i64 now] w fun e w' =>
    ∃ a c, e = .returned (.slice a (expI now (M.map core)).length c) ∧ Own eInt w' w.heap.size (.slice a (expI now (M.map core)).length c) (expI now (M.map core)) ∧ RlStep F w w' rb last (liveC now (M.map core)) := by
  obtain ⟨a0, cap0, hlv, _, _⟩ := rl_form h
  obtain ⟨n, hn⟩ : ∃ n, M.length = n := ⟨_, rfl⟩
  rw [hn] at hlv
  have hn16 : n ≤ 16 := by rw [← hn]; exact h.few
  have c0 := h.c0
  rw [hlv] at c0
  have hrb := h.ltb
  have H := Lib.hid (And.intro h hF)
  have HN := Lib.hid hn
  have HLV := Lib.hid hlv
  clear h hF hn hlv
  go_enter Tryz.func17, Tryz.ntmps17
  go_wp2
  go_loopw [5, 6, 7] (fun ov sv iv wr => ∃ i : Nat, i ≤ n ∧ iv = .int .i64 (i : Int) ∧ Own eInt wr w.heap.size ov (expI now ((M.take i).map core)) ∧ Own eLse wr w.heap.size sv (liveV now (M.take i)) ∧ Below w.heap.size w wr ∧ ∀ q, ov.ownBlock = some q → sv.ownBlock ≠ some q) (fun _ _ iv _ => n - (intOf iv).toNat)
  case atStart => exact ⟨0, by omega, rfl, World.ownsRow_nil _ _ _ _, World.ownsRow_nil _ _ _ _, Below.refl _ _, fun q hq => by cases hq⟩
  case round =>
    obtain ⟨i, hi, rfl, ho, hs, hb, hsep⟩ := hrel
    obtain ⟨oa, oc, rfl, _, _⟩ := row_form ho
    obtain ⟨sa, sc, rfl, _, _⟩ := row_form hs
    obtain ⟨on, hon⟩ : ∃ on, (expI now ((M.take i).map core)).length = on := ⟨_, rfl⟩
    obtain ⟨sn, hsn⟩ : ∃ sn, (liveV now (M.take i)).length = sn := ⟨_, rfl⟩
    have hol : on ≤ 16 := by
      rw [← hon]
      refine Nat.le_trans (expI_len _ _) ?_
      rw [List.length_map, List.length_take]
      omega
    have hsl : sn ≤ 16 := by
      rw [← hsn]
      refine Nat.le_trans (List.length_filter_le _ _) ?_
      rw [List.length_take]
      omega
    rw [hon] at ho
    rw [hsn] at hs
    have d0 := (hb.cell (p := ⟨rb, 0, none⟩) hrb).trans c0
    have z0 := (hb.frozen (p := ⟨rb, 0, none⟩) hrb).trans (H.out.1.fz 0)
    have hrl := H.out.1.below hb
    rw [hon, hsn] at hsep
    have HB := Lib.hid (And.intro ho (And.intro hs (And.intro hb (And.intro hon (And.intro hsn hsep)))))
    simp only [hon, hsn]
    by_cases hlt : i < n
    · have hil : i < M.length := by have := HN.out; omega
      obtain ⟨g, cap', hv, _, hg, k0, k1, k2⟩ := lv_cells hrl.row hil
      have e9 := HLV.out.symm.trans hv
      injection e9 with e1 _ _
      subst e1
      have hO := rover_any hrl hil now
      have hst := exp_step hil now
      have hrx := hrl.rd _ (List.getElem_mem hil)
      obtain ⟨x, hx⟩ : ∃ x, M[i] = x := ⟨_, rfl⟩
      rw [hx] at k0 k1 k2 hO hst hrx
      obtain ⟨xi, xa, xc, xv, xt⟩ := x
      obtain ⟨xn, hxn⟩ : ∃ xn, xv.length = xn := ⟨_, rfl⟩
      have j0 : wr.cell? ⟨g, i * 3, none⟩ = some (.int .i64 xi) := k0
      have j1 : wr.cell? ⟨g, i * 3 + 1, none⟩ = some (.slice xa xn xc) := by rw [← hxn]; exact k1
      have j2 : wr.cell? ⟨g, i * 3 + 2, none⟩ = some (.int .i64 xt) := k2
      have hO2 : Calls Tryz.prog 34 #[.pointer (some ⟨rb, 0, none⟩), .int .i64 (i : Int), .int .i64 now] wr fun e w' => e = .returned (.bool (decide (xt ≤ now))) ∧ wr = w' := hO
      have r1 : (i : Int) < (n : Int) := by omega
      clear k0 k1 k2 hO hv ho hs hb hrl hon hsn hrx hsep hx hil
      by_cases ht : xt ≤ now
      · have h5 := hst.1 ht
        rw [decide_eq_true ht] at hO2
        obtain ⟨W1, hW1⟩ : ∃ W1, wr.alloc (.cells #[.int .i64 xi] 3) = W1 := ⟨_, rfl⟩
        have hsrc : Src eInt W1 (.slice (some ⟨wr.heap.size, 0, none⟩) 1 1) [xi] := by rw [← hW1]; exact src_one wr xi _ _ rfl 1
        have ho1 : Own eInt W1 w.heap.size (.slice oa on oc) (expI now ((M.take i).map core)) := by have h9 := HB.out.1; rw [← hW1]; exact row_below h9 ((Below.refl _ _).alloc (Nat.le_refl _) _)
        have hb1 : Below w.heap.size w W1 := by rw [← hW1]; exact HB.out.2.2.1.alloc HB.out.2.2.1.size _
        have hb0 : Below wr.heap.size wr W1 := by rw [← hW1]; exact (Below.refl _ _).alloc (Nat.le_refl _) _
        have H1 := Lib.hid (And.intro ho1 (And.intro hsrc (And.intro hb1 (And.intro hb0 h5))))
        clear ho1 hsrc hb1 hb0 h5 hst
        go_wp2_with (first
          | (go_at_call 34; refine hO2.mono ?_; rintro e v1 ⟨rfl, rfl⟩)
          | (at_builtin; refine wpl_app eInt rfl _ _ rfl rfl rfl H1.out.1 H1.out.2.1 (by rw [HB.out.2.2.2.1]; simp; omega) H1.out.2.2.1.size ?_; rw [HB.out.2.2.2.1]; intro a3 cap3 w3 ho3 hb3 hg3 hv3; have t3 := two_app (row_below HB.out.2.1 H1.out.2.2.2.1) hg3 hv3 HB.out.2.2.2.2.2; have H3 := Lib.hid (And.intro ho3 (And.intro (H1.out.2.2.1.trans hb3) t3)); clear ho3 hb3 hg3 hv3 t3))
        go_roundw
        case rel => exact ⟨i + 1, by omega, by go_num, by rw [H1.out.2.2.2.2.1]; exact H3.out.1, by rw [H1.out.2.2.2.2.2]; exact H3.out.2.2.1, H3.out.2.1, H3.out.2.2.2⟩
        case measure => simp [intOf]; omega
      · have h5 := hst.2 ht
        rw [decide_eq_false ht] at hO2
        obtain ⟨W1, hW1⟩ : ∃ W1, wr.alloc (.cells #[.int .i64 xi, .slice xa xn xc, .int .i64 xt] 65) = W1 := ⟨_, rfl⟩
        have hsrc : Src eLse W1 (.slice (some ⟨wr.heap.size, 0, none⟩) 1 1) [⟨xi, xa, xc, xv, xt⟩] := by rw [← hW1]; exact src_one wr _ _ _ (by show [Value.int .i64 xi, Value.slice xa xv.length xc, Value.int .i64 xt] = _; rw [hxn]) 1
        have ho1 : Own eLse W1 w.heap.size (.slice sa sn sc) (liveV now (M.take i)) := by have h9 := HB.out.2.1; rw [← hW1]; exact row_below h9 ((Below.refl _ _).alloc (Nat.le_refl _) _)
        have hb1 : Below w.heap.size w W1 := by rw [← hW1]; exact HB.out.2.2.1.alloc HB.out.2.2.1.size _
        have hb0 : Below wr.heap.size wr W1 := by rw [← hW1]; exact (Below.refl _ _).alloc (Nat.le_refl _) _
        have H1 := Lib.hid (And.intro ho1 (And.intro hsrc (And.intro hb1 (And.intro hb0 h5))))
        clear ho1 hsrc hb1 hb0 h5 hst
        go_wp2_with (first
          | (go_at_call 34; refine hO2.mono ?_; rintro e v1 ⟨rfl, rfl⟩)
          | (at_builtin; refine wpl_app eLse rfl _ _ rfl rfl rfl H1.out.1 H1.out.2.1 (by rw [HB.out.2.2.2.2.1]; simp; omega) H1.out.2.2.1.size ?_; rw [HB.out.2.2.2.2.1]; intro a3 cap3 w3 ho3 hb3 hg3 hv3; have t3 := two_app (row_below HB.out.1 H1.out.2.2.2.1) hg3 hv3 (fun q h1 h2 => HB.out.2.2.2.2.2 q h2 h1); have H3 := Lib.hid (And.intro ho3 (And.intro (H1.out.2.2.1.trans hb3) t3)); clear ho3 hb3 hg3 hv3 t3))
        go_roundw
        case rel => exact ⟨i + 1, by omega, by go_num, by rw [H1.out.2.2.2.2.1]; exact H3.out.2.2.1, by rw [H1.out.2.2.2.2.2]; exact H3.out.1, H3.out.2.1, fun q h1 h2 => H3.out.2.2.2 q h2 h1⟩
        case measure => simp [intOf]; omega
    · obtain rfl : i = n := by omega
      have hall : M.take i = M := List.take_of_length_le (by rw [HN.out]; exact Nat.le_refl _)
      have ho9 := HB.out.1
      have hs9 := HB.out.2.1
      have hon9 := HB.out.2.2.2.1
      rw [hall] at ho9 hs9 hon9
      have HE := Lib.hid (And.intro ho9 (And.intro hs9 hon9))
      clear ho hs hrl hon hsn hsep ho9 hs9 hon9 hall
      go_wp2
      go_ret
      have hrl := H.out.1.below HB.out.2.2.1
      have hfin := H.out.1.relist H.out.2 HB.out.2.2.1 HE.out.2.1 (fun x hx => hrl.rd x (List.mem_filter.1 hx).1) (by rw [liveV_core]; exact Fit.live H.out.1.fit now)
      refine ⟨oa, oc, by rw [HE.out.2.2]; rfl, ?_, _, _, hfin.1, liveV_core now M, hfin.2⟩
      rw [HE.out.2.2]
      exact (Tn.setCell (F := fun q => q = rb) wr ⟨rb, 0, none⟩ _ rfl).row HE.out.1 (fun q hq e => by have := (HE.out.1.lt q hq).1; omega)

set_option maxRecDepth 100000 in
set_option maxHeartbeats 1000000 in
theorem rmeetv_any {x y : Value} {a b : List Int} (hx : RdI w x a) (hy : RdI w y b) (hl : a.length = b.length) (hn8 : a.length ≤ 1000000) :
    Calls Tryz.prog 125 #[x, y] w fun e w' => ∃ ao c, e = .returned (.slice ao a.length c) ∧ Own eVec w' w.heap.size (.slice ao a.length c) (meetV a b) ∧ Below w.heap.size w w' := by
  obtain ⟨a1, c1, rfl, h1⟩ := hx
  obtain ⟨a2, c2, rfl, h2⟩ := hy
  obtain ⟨n, hn⟩ : ∃ n, a.length = n := ⟨_, rfl⟩
  rw [← hl, hn]
  rw [hn] at hn8
  have HN := Lib.hid (And.intro hn (hl.symm.trans hn))
  have H := Lib.hid (And.intro h1 h2)
  have t0 : ((n : Int) != (n : Int)) = false := by simp
  clear h1 h2 hn hl
  go_enter Tryz.func125, Tryz.ntmps125
  go_wp2
  go_loopw [5, 6] (fun v iv wr => ∃ i : Nat, i ≤ n ∧ iv = .int .i64 (i : Int) ∧ ∃ ao c, v = .slice ao i c ∧ Own eVec wr w.heap.size (.slice ao i c) ((meetV a b).take i) ∧ Below w.heap.size w wr) (fun _ iv _ => n - (intOf iv).toNat)
  case atStart => exact ⟨0, by omega, rfl, none, 0, rfl, World.ownsRow_nil _ _ _ _, Below.refl _ _⟩
  case round =>
    obtain ⟨i, hi, rfl, ao, co, rfl, ho, hb⟩ := hrel
    have HO := Lib.hid (And.intro ho hb)
    by_cases hlt : i < n
    · have hil : i < a.length := by have := HN.out; omega
      have hil2 : i < b.length := by have := HN.out; omega
      obtain ⟨b1, o1, rfl, l1, k1⟩ := H.out.1.resolve_left (fun e => by rw [e] at hil; simp at hil)
      obtain ⟨b2, o2, rfl, l2, k2⟩ := H.out.2.resolve_left (fun e => by rw [e] at hil2; simp at hil2)
      have d1 := (hb.cell (p := ⟨b1, o1 + i, none⟩) l1).trans (k1 i hil)
      have d2 := (hb.cell (p := ⟨b2, o2 + i, none⟩) l2).trans (k2 i hil2)
      have htk := meetV_take hil hil2
      obtain ⟨u, hu⟩ : ∃ u, a[i] = u := ⟨_, rfl⟩
      obtain ⟨v, hv⟩ : ∃ v, b[i] = v := ⟨_, rfl⟩
      rw [hu] at d1 htk
      rw [hv] at d2 htk
      have hbl : b.length = n := HN.out.2
      have HT := Lib.hid (And.intro htk hbl)
      have r1 : (i : Int) < (n : Int) := by omega
      have hlm : ((meetV a b).take i).length = i := by rw [List.length_take, meetV_len (by have := HN.out; omega), HN.out.1]; omega
      have HL := Lib.hid hlm
      clear k1 k2 hu hv htk ho hb hlm hbl
      go_wp2
      have e1 : wr.drew.cell? ⟨b1, o1 + i, none⟩ = some (.int .i64 u) := d1
      have e2 : wr.drew.cell? ⟨b2, o2 + i, none⟩ = some (.int .i64 v) := d2
      refine wp_region_K (fun w' => w'.cell? ⟨b1, o1 + i, none⟩ = some (.int .i64 u) ∧ w'.cell? ⟨b2, o2 + i, none⟩ = some (.int .i64 v)) 8 9 (by kernel_rfl) (by kernel_rfl) ⟨e1, e2⟩ (fun hH => ?_)
      refine wpAnyK_take (i := 0) [2, 3, 8] (v := ?v1) rfl (by kernel_rfl) (by kernel_rfl) (by kernel_rfl) (by kernel_rfl) (fun _ _ _ h => h) (Or.inl ⟨by rfl, ?hy1⟩) hH ?rest1
      case hy1 => (intro w hSw; (try dsimp only at hSw); go_simp; with_reducible rfl)
      try simp only [Act.put, List.setIfInBounds_toArray, List.set_cons_zero, List.set_cons_succ]
      refine wpAnyK_take (i := 1) [2, 3, 8] (v := ?v2) rfl (by kernel_rfl) (by kernel_rfl) (by kernel_rfl) (by kernel_rfl) (fun _ _ _ h => h) (Or.inl ⟨by rfl, ?hy2⟩) hH ?rest2
      case hy2 => (intro w hSw; (try dsimp only at hSw); go_simp; with_reducible rfl)
      try simp only [Act.put, List.setIfInBounds_toArray, List.set_cons_zero, List.set_cons_succ]
      refine wpAnyK_take (i := 2) [3, 8] (v := ?v3) rfl (by kernel_rfl) (by kernel_rfl) (by kernel_rfl) (by kernel_rfl) (fun _ _ _ h => h) (Or.inl ⟨by rfl, ?hy3⟩) hH ?rest3
      case hy3 => (intro w hSw; (try dsimp only at hSw); go_simp; with_reducible rfl)
      try simp only [Act.put, List.setIfInBounds_toArray, List.set_cons_zero, List.set_cons_succ]
      refine wpAnyK_take (i := 3) [8] (v := ?v4) rfl (by kernel_rfl) (by kernel_rfl) (by kernel_rfl) (by kernel_rfl) (fun _ _ _ h => h) (Or.inl ⟨by rfl, ?hy4⟩) hH ?rest4
      case hy4 => (intro w hSw; (try dsimp only at hSw); go_simp; with_reducible rfl)
      try simp only [Act.put, List.setIfInBounds_toArray, List.set_cons_zero, List.set_cons_succ]
      refine wpAnyK_take (i := 4) [6, 7, 8] (v := ?v5) rfl (by kernel_rfl) (by kernel_rfl) (by kernel_rfl) (by kernel_rfl) (fun _ _ _ h => h) (Or.inl ⟨by rfl, ?hy5⟩) hH ?rest5
      case hy5 => (intro w hSw; (try dsimp only at hSw); go_simp; with_reducible rfl)
      try simp only [Act.put, List.setIfInBounds_toArray, List.set_cons_zero, List.set_cons_succ]
      refine wpAnyK_take (i := 5) [6, 7, 8] (v := ?v6) rfl (by kernel_rfl) (by kernel_rfl) (by kernel_rfl) (by kernel_rfl) (fun _ _ _ h => h) (Or.inl ⟨by rfl, ?hy6⟩) hH ?rest6
      case hy6 => (intro w hSw; (try dsimp only at hSw); go_simp; with_reducible rfl)
      try simp only [Act.put, List.setIfInBounds_toArray, List.set_cons_zero, List.set_cons_succ]
      refine wpAnyK_take (i := 6) [7, 8] (v := ?v7) rfl (by kernel_rfl) (by kernel_rfl) (by kernel_rfl) (by kernel_rfl) (fun _ _ _ h => h) (Or.inl ⟨by rfl, ?hy7⟩) hH ?rest7
      case hy7 => (intro w hSw; (try dsimp only at hSw); go_simp; with_reducible rfl)
      try simp only [Act.put, List.setIfInBounds_toArray, List.set_cons_zero, List.set_cons_succ]
      refine wpAnyK_take (i := 7) [8] (v := ?v8) rfl (by kernel_rfl) (by kernel_rfl) (by kernel_rfl) (by kernel_rfl) (fun _ _ _ h => h) (Or.inl ⟨by rfl, ?hy8⟩) hH ?rest8
      case hy8 => (intro w hSw; (try dsimp only at hSw); go_simp; with_reducible rfl)
      try simp only [Act.put, List.setIfInBounds_toArray, List.set_cons_zero, List.set_cons_succ]
      refine wpAnyK_last (by kernel_rfl) rfl (fun K hK => ?_) (by kernel_rfl)
      go_simp
      refine hK.out _ _ (wpAnyK_done (by kernel_rfl) ?_ _)
      clear hK K hH
      obtain ⟨W0, hW0⟩ : ∃ W0, wr.drew = W0 := ⟨_, rfl⟩
      rw [hW0] at e1 e2 ⊢
      have hb0 : Below w.heap.size w W0 := by rw [← hW0]; exact HO.out.2.drew
      have ho0 : Own eVec W0 w.heap.size (.slice ao i co) ((meetV a b).take i) := by rw [← hW0]; exact World.ownsRow.drew HO.out.1
      clear hW0 d1 d2
      by_cases huv : u < v
      · have hz : min u v = u := by omega
        obtain ⟨W1, hW1⟩ : ∃ W1, W0.alloc (.cells #[.int .i64 u] 3) = W1 := ⟨_, rfl⟩
        have hsrc : Src eVec W1 (.slice (some ⟨W0.heap.size, 0, none⟩) 1 1) [u] := by rw [← hW1]; exact src_one W0 u _ _ rfl 1
        have ho1 : Own eVec W1 w.heap.size (.slice ao i co) ((meetV a b).take i) := by rw [← hW1]; exact row_below ho0 ((Below.refl _ _).alloc (Nat.le_refl _) _)
        have hb1 : Below w.heap.size w W1 := by rw [← hW1]; exact hb0.alloc hb0.size _
        have H1 := Lib.hid (And.intro ho1 (And.intro hsrc (And.intro hb1 hz)))
        clear ho1 hsrc hb1 hz hb0 ho0
        go_wp2_with (at_builtin; go_loud (refine wpl_app eVec rfl _ _ rfl rfl rfl H1.out.1 H1.out.2.1 (by rw [HL.out]; simp; omega) H1.out.2.2.1.size ?_); rw [HL.out]; intro a3 cap3 w3 ho3 hb3 _ _; have H3 := Lib.hid (And.intro ho3 (H1.out.2.2.1.trans hb3)); clear ho3 hb3)
        go_roundw
        case rel => exact ⟨i + 1, by omega, by go_num, a3, cap3, rfl, by rw [HT.out.1, H1.out.2.2.2]; exact H3.out.1, H3.out.2⟩
        case measure => simp [intOf]; omega
      · have hz : min u v = v := by omega
        obtain ⟨W1, hW1⟩ : ∃ W1, W0.alloc (.cells #[.int .i64 v] 3) = W1 := ⟨_, rfl⟩
        have hsrc : Src eVec W1 (.slice (some ⟨W0.heap.size, 0, none⟩) 1 1) [v] := by rw [← hW1]; exact src_one W0 v _ _ rfl 1
        have ho1 : Own eVec W1 w.heap.size (.slice ao i co) ((meetV a b).take i) := by rw [← hW1]; exact row_below ho0 ((Below.refl _ _).alloc (Nat.le_refl _) _)
        have hb1 : Below w.heap.size w W1 := by rw [← hW1]; exact hb0.alloc hb0.size _
        have H1 := Lib.hid (And.intro ho1 (And.intro hsrc (And.intro hb1 hz)))
        clear ho1 hsrc hb1 hz hb0 ho0
        go_wp2_with (at_builtin; go_loud (refine wpl_app eVec rfl _ _ rfl rfl rfl H1.out.1 H1.out.2.1 (by rw [HL.out]; simp; omega) H1.out.2.2.1.size ?_); rw [HL.out]; intro a3 cap3 w3 ho3 hb3 _ _; have H3 := Lib.hid (And.intro ho3 (H1.out.2.2.1.trans hb3)); clear ho3 hb3)
        go_roundw
        case rel => exact ⟨i + 1, by omega, by go_num, a3, cap3, rfl, by rw [HT.out.1, H1.out.2.2.2]; exact H3.out.1, H3.out.2⟩
        case measure => simp [intOf]; omega
    · obtain rfl : i = n := by omega
      clear ho hb
      go_wp2
      go_ret
      have h5 := HO.out.1
      rw [List.take_of_length_le (by rw [meetV_len (by have := HN.out; omega), HN.out.1]; omega)] at h5
      exact ⟨ao, co, rfl, h5, HO.out.2⟩

set_option maxRecDepth 100000 in
set_option maxHeartbeats 2000000 in
theorem rlmeet_any (h : RlAt F w rb lv M last) : Calls Tryz.prog 49 #[.pointer (some ⟨rb, 0, none⟩)] w fun e w' =>
    ∃ v, e = .returned v ∧ Own eVec w' w.heap.size v (meetD (M.map (·.vs))) ∧ Below w.heap.size w w' := by
  obtain ⟨a0, cap0, hlv, _, _⟩ := rl_form h
  obtain ⟨n, hn⟩ : ∃ n, M.length = n := ⟨_, rfl⟩
  rw [hn] at hlv
  have hn16 : n ≤ 16 := by rw [← hn]; exact h.few
  have c0 := h.c0
  rw [hlv] at c0
  have hrb := h.ltb
  by_cases hn0 : n = 0
  · subst hn0
    have hM : M = [] := List.eq_nil_of_length_eq_zero hn
    subst hM
    clear h hn hlv
    go_enter Tryz.func49, Tryz.ntmps49
    go_wp2
    go_ret
    exact ⟨_, rfl, World.ownsRow_nil _ _ _ _, Below.refl _ _⟩
  · have t0 : ((n : Int) == 0) = false := by simp; omega
    have t0n : ¬ n = 0 := hn0
    have hil0 : 0 < M.length := by omega
    obtain ⟨g, cap', hv, -, hg, -, k1, -⟩ := lv_cells h.row hil0
    have e9 := hlv.symm.trans hv
    injection e9 with e1 _ _
    subst e1
    have hrx := (h.rd _ (List.getElem_mem hil0)).rd
    have hvx := h.vec (List.getElem_mem hil0)
    have hdr : (M.map (·.vs)) = M[0].vs :: (M.map (·.vs)).drop 1 := by
      have h0 := List.drop_eq_getElem_cons (l := M.map (·.vs)) (i := 0) (by rw [List.length_map]; exact hil0)
      rw [List.drop_zero, List.getElem_map] at h0
      exact h0
    obtain ⟨x, hx⟩ : ∃ x, M[0] = x := ⟨_, rfl⟩
    rw [hx] at k1 hrx hvx hdr
    obtain ⟨xi, xa, xc, xv, xt⟩ := x
    obtain ⟨xn, hxn⟩ : ∃ xn, xv.length = xn := ⟨_, rfl⟩
    have hvx : 1 ≤ xv.length ∧ xv.length ≤ 8 := hvx
    rw [hxn] at hvx
    have j1 : w.cell? ⟨g, 1, none⟩ = some (.slice xa xn xc) := by rw [← hxn]; simpa using k1
    have hrx2 : RdI w (.slice xa xn xc) xv := by rw [← hxn]; exact hrx
    have HC := Lib.hid (rcopy_any hrx2 (by omega) (by omega))
    have hbd : 1 ≤ n := by omega
    have H := Lib.hid (And.intro h (And.intro hn (And.intro hlv (And.intro hdr hxn))))
    clear k1 hrx hrx2 hdr hxn hv hx hn0 hil0
    clear h hn hlv
    go_enter Tryz.func49, Tryz.ntmps49
    go_wp2_with (go_at_call 35; refine HC.out.mono ?_; rintro e w1 ⟨ca, cc, rfl, hco, hcb⟩; have H1 := Lib.hid (And.intro hco hcb); clear hco hcb)
    go_loopw [3, 4] (fun v iv wr => ∃ i : Nat, 1 ≤ i ∧ i ≤ n ∧ iv = .int .i64 (i : Int) ∧ ∃ cur a c, v = .slice a cur.length c ∧ (1 ≤ cur.length ∧ cur.length ≤ 8) ∧ meetD (M.map (·.vs)) = meetC ((M.map (·.vs)).drop i) cur ∧ Own eVec wr w.heap.size (.slice a cur.length c) cur ∧ Below w.heap.size w wr) (fun _ iv _ => n - (intOf iv).toNat)
    case atStart =>
      refine ⟨1, Nat.le_refl _, hbd, rfl, xv, ca, cc, by rw [H.out.2.2.2.2], by rw [H.out.2.2.2.2]; exact hvx, ?_, by rw [H.out.2.2.2.2]; exact H1.out.1, H1.out.2⟩
      conv => lhs; rw [H.out.2.2.2.1]
      rfl
    case round =>
      obtain ⟨i, hi1, hi, rfl, cur, va, vc, rfl, hcl, hmd, hown, hb⟩ := hrel
      obtain ⟨cn, hcn⟩ : ∃ cn, cur.length = cn := ⟨_, rfl⟩
      rw [hcn] at hcl hown
      have d0 := (hb.cell (p := ⟨rb, 0, none⟩) hrb).trans c0
      have hrl := H.out.1.below hb
      have HB := Lib.hid (And.intro hown (And.intro hb (And.intro hmd hcn)))
      simp only [hcn]
      by_cases hlt : i < n
      · have hil : i < M.length := by have := H.out.2.1; omega
        obtain ⟨g', cap', hv, -, hg, k0, k1, k2⟩ := lv_cells hrl.row hil
        have e9 := H.out.2.2.1.symm.trans hv
        injection e9 with e1 _ _
        injection e1 with e1
        injection e1 with e1
        subst e1
        have hrx := (hrl.rd _ (List.getElem_mem hil)).rd
        have hdr : (M.map (·.vs)).drop i = M[i].vs :: (M.map (·.vs)).drop (i + 1) := by rw [List.drop_eq_getElem_cons (by rw [List.length_map]; exact hil), List.getElem_map]
        obtain ⟨x, hx⟩ : ∃ x, M[i] = x := ⟨_, rfl⟩
        rw [hx] at k1 hrx hdr
        obtain ⟨yi, ya, yc, yv, yt⟩ := x
        obtain ⟨yn, hyn⟩ : ∃ yn, yv.length = yn := ⟨_, rfl⟩
        have j1 : wr.cell? ⟨g, i * 3 + 1, none⟩ = some (.slice ya yn yc) := by rw [← hyn]; exact k1
        have hrx2 : RdI wr (.slice ya yn yc) yv := by rw [← hyn]; exact hrx
        have hro : RdI wr (.slice va cn vc) cur := rdI_own hown
        have HX := Lib.hid (And.intro hdr (And.intro hyn hro))
        have r1 : (i : Int) < (n : Int) := by omega
        by_cases hyc : yn = cn
        · subst hyc
          have t1 : ((yn : Int) != (yn : Int)) = false := by simp
          have t1n : (yn != yn) = false := by simp
          have hM := rmeetv_any hro hrx2 (by rw [hcn, hyn]) (by rw [hcn]; omega)
          rw [hcn] at hM
          clear k0 k1 k2 hrx hrx2 hro hdr hyn hcn hmd hown hb hv hx hrl hil
          go_wp2_with (go_at_call 125; refine hM.mono ?_; rintro e w2 ⟨ao, ac, rfl, ho2, hb2⟩; have H2 := Lib.hid (And.intro ho2 hb2); clear ho2 hb2)
          go_roundw
          case rel =>
            have hml : (meetV cur yv).length = yn := by rw [meetV_len (by rw [HB.out.2.2.2, HX.out.2.1])]; exact HB.out.2.2.2
            refine ⟨i + 1, by omega, by omega, by go_num, meetV cur yv, ao, ac, by rw [hml], by rw [hml]; exact hcl, ?_, ?_, HB.out.2.1.trans (H2.out.2.mono HB.out.2.1.size)⟩
            · rw [HB.out.2.2.1, HX.out.1]
              exact meetC_eq (show yv.length = cur.length by rw [HB.out.2.2.2, HX.out.2.1])
            · rw [hml]
              exact row_mono H2.out.1 (B' := w.heap.size) HB.out.2.1.size
          case measure => simp [intOf]; omega
        · have t1 : ((yn : Int) != (cn : Int)) = true := by simp; omega
          have t1n : (yn != cn) = true := by simp; omega
          clear k0 k1 k2 hrx hrx2 hro hdr hyn hcn hmd hown hb hv hx hrl hil
          go_wp2
          go_ret
          refine ⟨_, rfl, ?_, HB.out.2.1⟩
          rw [HB.out.2.2.1, HX.out.1, meetC_no (show ¬ yv.length = cur.length by rw [HB.out.2.2.2, HX.out.2.1]; exact hyc)]
          exact World.ownsRow_nil _ _ _ _
      · obtain rfl : i = n := by omega
        have hall : (M.map (·.vs)).drop i = [] := List.drop_eq_nil_of_le (by rw [List.length_map, H.out.2.1]; exact Nat.le_refl _)
        have HA := Lib.hid hall
        clear hrl hall hmd hown hb hcn
        go_wp2
        go_ret
        refine ⟨_, rfl, ?_, HB.out.2.1⟩
        rw [HB.out.2.2.1, HA.out]
        exact HB.out.1
end Go.Proofs.YtnegappgdpeabaaGreat
/-
  LeasePlays: the document's leases: Renew, Release, Acquire.
-/
namespace Go.Proofs.YtnegappgdpeabaaGreat
open Go.RowKit
variable {w w' w0 w1 w2 w3 w4 : World} {rb B : Nat} {lv lv' : Value} {M : List Lv} {last now : Int} {F F' G : Nat → Prop} {L : List Cr}

theorem findV {i : Nat} (hr : (M.map core).Pairwise (fun a b => a.1 < b.1)) (hi : i < M.length) : findC (M.map core) M[i].id = some (core M[i]) :=
  findC_some hr (List.mem_map.2 ⟨M[i], List.getElem_mem hi, rfl⟩) rfl
theorem ne_other {L : List Cr} (hr : L.Pairwise (fun a b => a.1 < b.1)) {i j : Nat} (hi : i < L.length) (hj : j < L.length) (h : L[j].1 = L[i].1) : j = i := by
  have := List.pairwise_iff_getElem.1 hr
  rcases Nat.lt_trichotomy i j with h1 | h1 | h1
  · have := this i j hi hj h1; omega
  · exact h1.symm
  · have := this j i hj hi h1; omega
theorem setC_set {L : List Cr} (hr : L.Pairwise (fun a b => a.1 < b.1)) {i : Nat} (hi : i < L.length) (t : Int) : setC L[i].1 t L = L.set i (L[i].1, L[i].2.1, t) := by
  unfold setC
  apply List.ext_getElem
  · rw [List.length_map, List.length_set]
  · intro j h1 h2
    rw [List.getElem_map, List.getElem_set]
    rw [List.length_map] at h1
    by_cases e : i = j
    · subst e
      rw [if_pos rfl, if_pos rfl]
    · rw [if_neg e, if_neg (fun e2 => e (ne_other hr hi h1 e2).symm)]
theorem delC_take {L : List Cr} (hr : L.Pairwise (fun a b => a.1 < b.1)) {i : Nat} (hi : i < L.length) : delC L[i].1 L = L.take i ++ L.drop (i + 1) := by
  have h1 : L.take i ++ L[i] :: L.drop (i + 1) = L := by rw [← List.drop_eq_getElem_cons hi, List.take_append_drop]
  obtain ⟨d, hd⟩ : ∃ d, L[i] = d := ⟨_, rfl⟩
  rw [hd] at h1 ⊢
  obtain ⟨A, hA⟩ : ∃ A, L.take i = A := ⟨_, rfl⟩
  obtain ⟨B, hB⟩ : ∃ B, L.drop (i + 1) = B := ⟨_, rfl⟩
  rw [hA, hB] at h1 ⊢
  clear hd hA hB
  subst h1
  have h3 := List.pairwise_append.1 hr
  have h4 := List.pairwise_cons.1 h3.2.1
  unfold delC
  rw [List.filter_append, List.filter_cons]
  have e1 : A.filter (fun c => decide (c.1 ≠ d.1)) = A := List.filter_eq_self.2 (fun c hc => by
    have := h3.2.2 c hc d List.mem_cons_self
    exact decide_eq_true (by omega))
  have e2 : B.filter (fun c => decide (c.1 ≠ d.1)) = B := List.filter_eq_self.2 (fun c hc => by
    have := h4.1 c hc
    exact decide_eq_true (by omega))
  rw [e1, e2, if_neg (by simp)]
def putTill (x : Lv) (t : Int) : Lv := ⟨x.id, x.sa, x.sc, x.vs, t⟩
theorem lset_cells : ∀ (l : List Lv) (i : Nat) (hi : i < l.length) (t : Int), (l.set i (putTill l[i] t)).flatMap (fun x : Lv => [Value.int .i64 x.id, x.sl, .int .i64 x.till]) = (l.flatMap (fun x : Lv => [Value.int .i64 x.id, x.sl, .int .i64 x.till])).set (i * 3 + 2) (.int .i64 t)
  | [], i, hi, t => by simp at hi
  | m :: ms, 0, _, t => by simp [putTill, Lv.sl]
  | m :: ms, i + 1, hi, t => by
    have ih := lset_cells ms i (by simpa using hi) t
    rw [List.set_cons_succ, List.flatMap_cons, List.flatMap_cons]
    simp only [List.getElem_cons_succ]
    rw [ih, show (i + 1) * 3 + 2 = (i * 3 + 2) + 1 + 1 + 1 by omega]
    rfl
theorem lset {g n cap : Nat} (h : Own eLse w B (.slice (some ⟨g, 0, none⟩) n cap) M) (hn : M.length = n) {i : Nat} (hi : i < M.length) (t : Int) : Own eLse (w.setCell ⟨g, i * 3 + 2, none⟩ (.int .i64 t)) B (.slice (some ⟨g, 0, none⟩) n cap) (M.set i (putTill M[i] t)) := by
  subst hn
  have h1 := (World.ownsRow.stored h (i * 3 + 2) (.int .i64 t)).1
  show World.ownsRow _ _ _ _ _ _ _
  rw [lset_cells M i hi t, List.length_set]
  exact h1
theorem set_core {i : Nat} (hi : i < M.length) (t : Int) : (M.set i (putTill M[i] t)).map core = (M.map core).set i (M[i].id, M[i].vs, t) := by
  rw [List.map_set]
  rfl
theorem RlStep.relist (h : RlAt F w rb lv M last) {M' : List Lv} (hF : ∀ q, F q → q < w.heap.size) (hb : Below w.heap.size w w') (ho : Own eLse w' w.heap.size lv' M') (hrd : ∀ x ∈ M', RdX F w' x) (hfit : GoodL last (M'.map core)) : RlStep F w (w'.setCell ⟨rb, 0, none⟩ lv') rb last (M'.map core) :=
  ⟨_, _, (h.relist hF hb ho hrd hfit).1, rfl, (h.relist hF hb ho hrd hfit).2⟩

theorem RlStep.then_ {L' : List Cr} (h : RlStep F w w' rb last L') {w'' : World} (hb : Below w'.heap.size w' w'') : RlStep F w w'' rb last L' := by
  obtain ⟨lv', M', f1, f2, f3⟩ := h
  exact ⟨lv', M', f1.below hb, f2, f3.trans (Tn.ofBelow hb)⟩
theorem RlStep.retill (h : RlAt F w rb lv M last) (hF : ∀ q, F q → q < w.heap.size) {W Wd : World} {g n cap i : Nat} (hb : Below w.heap.size w W) (ho : Own eLse W w.heap.size (.slice (some ⟨g, 0, none⟩) n cap) M) (hn : M.length = n) (hi : i < M.length) (hd : Tn (fun _ => False) (W.setCell ⟨rb, 0, none⟩ (.slice (some ⟨g, 0, none⟩) n cap)) Wd) (t : Int)
    (hfit : GoodL last ((M.set i (putTill M[i] t)).map core)) : RlStep F w (Wd.setCell ⟨g, i * 3 + 2, none⟩ (.int .i64 t)) rb last ((M.set i (putTill M[i] t)).map core) := by
  have h1 := h.relist hF hb ho (h.below hb).rd h.fit
  have h2 : RlAt F Wd rb (.slice (some ⟨g, 0, none⟩) n cap) M last := h1.1.turn hd (fun _ _ e => e.elim) (fun _ _ e => e) h.fr
  have hg : w.heap.size ≤ g := (ho.lt g rfl).1
  have hgr : rb ≠ g := fun e => by have := h.ltb; omega
  have t1 : Tn (fun q => q = rb) w Wd := h1.2.trans (hd.mono (fun _ e => e.elim))
  have t2 : Tn (fun q => q = rb) w (Wd.setCell ⟨g, i * 3 + 2, none⟩ (.int .i64 t)) := t1.andThen (Tn.setCell (F := fun q => q = g) _ _ _ rfl) (fun q e => .inr (by omega))
  have hne : ∀ j k, (⟨g, j, none⟩ : Addr) ≠ ⟨rb, k, none⟩ := fun j k e => by injection e with e1; exact hgr e1.symm
  refine ⟨_, _, ⟨by rw [World.cell?_setCell_other _ _ _ _ (hne _ _)]; exact h2.c0, by rw [World.cell?_setCell_other _ _ _ _ (hne _ _)]; exact h2.c1, fun j => (World.frozen?_setCell _ _ _ _).trans (h2.fz j), lset h2.row hn hi t, fun q hq e => h2.nf q hq e, h2.fr, fun x hx => ?_, hfit⟩, rfl, t2⟩
  rcases List.mem_or_eq_of_mem_set hx with h3 | h3
  · exact (h.rd x h3).tn t2 (fun q _ e => e ▸ h.fr)
  · subst h3
    exact (h.rd M[i] (List.getElem_mem hi)).tn t2 (fun q _ e => e ▸ h.fr)
theorem src_rowsL {g n cap i j c : Nat} {m : List Lv} (h : Own eLse w 0 (.slice (some ⟨g, 0, none⟩) n cap) m) (hn : m.length = n) (hij : i ≤ j) (hj : j ≤ n) : Src eLse w (.slice (some ⟨g, i * 3, none⟩) (j - i) c) ((m.take j).drop i) := by
  subst hn
  have hl : ((m.take j).drop i).length = j - i := by rw [List.length_drop, List.length_take]; omega
  refine .inr ⟨⟨g, i * 3, none⟩, c, by rw [hl], fun k u hk => ?_⟩
  have hkl : k < ((m.take j).drop i).length * 3 := by
    have := (List.getElem?_eq_some_iff.1 hk).1
    rwa [eLse.lens] at this
  rw [hl] at hkl
  obtain ⟨p, r, hr, rfl⟩ : ∃ p r, r < 3 ∧ k = p * 3 + r := ⟨k / 3, k % 3, Nat.mod_lt _ (by decide), by omega⟩
  have hp : p < j - i := by omega
  rw [eLse.get _ p r (by rw [hl]; exact hp) hr] at hk
  have hpm : i + p < m.length := by omega
  have he : ((m.take j).drop i)[p]'(by rw [hl]; exact hp) = m[i + p] := by rw [List.getElem_drop, List.getElem_take]
  rw [he] at hk
  have h2 := h.cellAt ((i + p) * 3 + r) (by omega)
  have h3 := eLse.get m (i + p) r hpm hr
  rw [hk] at h3
  rw [h3] at h2
  rw [add_off, show i * 3 + (p * 3 + r) = (i + p) * 3 + r by omega]
  rw [← h2]
theorem id_cases (M : List Lv) (id : Int) : (∀ c ∈ M.map core, c.1 ≠ id) ∨ ∃ (i : Nat) (hi : i < M.length), M[i].id = id := by
  by_cases h : ∃ (i : Nat) (hi : i < M.length), M[i].id = id
  · exact .inr h
  · refine .inl (fun c hc e => h ?_)
    obtain ⟨x, hx, rfl⟩ := List.mem_map.1 hc
    obtain ⟨j, hj, rfl⟩ := List.mem_iff_getElem.1 hx
    exact ⟨j, hj, e⟩
theorem rlat_no (h : RlAt F w rb lv M last) {id : Int} (hn : ∀ c ∈ M.map core, c.1 ≠ id) : Calls Tryz.prog 38 #[.pointer (some ⟨rb, 0, none⟩), .int .i64 id] w fun e w' => e = .returned (.int .i64 (-1)) ∧ w = w' := by
  refine (rlat_any h id).mono ?_
  rintro e w1 ⟨⟨z, rfl, hz⟩, rfl⟩
  rcases hz with ⟨rfl, _⟩ | ⟨i, hi, rfl, hz⟩
  · exact ⟨rfl, rfl⟩
  · exact absurd hz (hn _ (List.mem_map.2 ⟨M[i], List.getElem_mem hi, rfl⟩))
theorem rlat_yes (h : RlAt F w rb lv M last) {i : Nat} (hi : i < M.length) : Calls Tryz.prog 38 #[.pointer (some ⟨rb, 0, none⟩), .int .i64 M[i].id] w fun e w' => e = .returned (.int .i64 (i : Int)) ∧ w = w' := by
  refine (rlat_any h _).mono ?_
  rintro e w1 ⟨⟨z, rfl, hz⟩, rfl⟩
  rcases hz with ⟨_, hz⟩ | ⟨j, hj, rfl, hz⟩
  · exact absurd rfl (hz _ (List.mem_map.2 ⟨M[i], List.getElem_mem hi, rfl⟩))
  · have := ne_other h.fit.rise (i := i) (j := j) (by rw [List.length_map]; exact hi) (by rw [List.length_map]; exact hj) (by rw [List.getElem_map, List.getElem_map]; exact hz)
    subst this
    exact ⟨rfl, rfl⟩

set_option maxRecDepth 100000 in
set_option maxHeartbeats 4000000 in
theorem rlrenew_any (h : RlAt F w rb lv M last) (hF : ∀ q, F q → q < w.heap.size) (id ttl now : Int) : Calls Tryz.prog 11 #[.pointer (some ⟨rb, 0, none⟩), .int .i64 id, .int .i64 ttl, .int .i64 now] w fun e w' =>
    e = .returned (.int .i64 (renC (M.map core) id ttl now).1) ∧ RlStep F w w' rb last (renC (M.map core) id ttl now).2 := by
  have HR := rright_any ttl now
  unfold renC
  cases hr : rightB ttl now with
  | false =>
    rw [if_pos rfl]
    rw [hr] at HR
    have HA := Lib.hid (rlat_any h id)
    have H := Lib.hid h
    clear h hF hr
    go_enter Tryz.func11, Tryz.ntmps11
    go_wp2_with fail
    refine HA.out.mono ?_
    rintro e w1 ⟨⟨z, rfl, hz⟩, rfl⟩
    clear hz
    go_wp2_with (go_at_call 33; refine (HR _).mono ?_; rintro e v1 ⟨rfl, rfl⟩)
    go_ret
    exact ⟨rfl, RlStep.same H.out⟩
  | true =>
    rw [if_neg (by decide)]
    rw [hr] at HR
    have HRR := Lib.hid hr
    clear hr
    have H := Lib.hid (And.intro h hF)
    clear h hF
    rcases id_cases M id with hz | ⟨i, hi, rfl⟩
    · rw [findC_none hz]
      have HA := Lib.hid (rlat_no H.out.1 hz)
      clear hz
      go_enter Tryz.func11, Tryz.ntmps11
      go_wp2_with (first
        | (go_at_call 33; refine (HR _).mono ?_; rintro e v1 ⟨rfl, rfl⟩)
        | (go_at_call 38; refine HA.out.mono ?_; rintro e v2 ⟨rfl, rfl⟩))
      go_ret
      exact ⟨rfl, RlStep.same H.out.1⟩
    · rw [findV H.out.1.fit.rise hi]
      have HA := Lib.hid (rlat_yes H.out.1 hi)
      have hO := rover_any H.out.1 hi now
      have h16 := H.out.1.few
      simp only
      by_cases ht : M[i].till ≤ now
      · rw [decide_eq_true ht] at hO
        rw [if_pos (show (core M[i]).2.2 ≤ now from ht)]
        have HO := Lib.hid hO
        obtain ⟨idv, hidv⟩ : ∃ idv, M[i].id = idv := ⟨_, rfl⟩
        rw [hidv] at HA ⊢
        clear hO ht hidv
        go_enter Tryz.func11, Tryz.ntmps11
        go_wp2_with (first
          | (go_at_call 34; refine HO.out.mono ?_; rintro e v2 ⟨rfl, rfl⟩)
          | (go_at_call 33; refine (HR _).mono ?_; rintro e v1 ⟨rfl, rfl⟩)
          | (go_at_call 38; refine HA.out.mono ?_; rintro e v2 ⟨rfl, rfl⟩))
        go_ret
        exact ⟨rfl, RlStep.same H.out.1⟩
      · rw [decide_eq_false ht] at hO
        rw [if_neg (show ¬ (core M[i]).2.2 ≤ now from ht)]
        have hset := setC_set H.out.1.fit.rise (i := i) (by rw [List.length_map]; exact hi) (max M[i].till (tillZ ttl now))
        rw [List.getElem_map] at hset
        have hset2 : setC M[i].id (max (core M[i]).2.2 (tillZ ttl now)) (M.map core) = (M.set i (putTill M[i] (max M[i].till (tillZ ttl now)))).map core := by rw [set_core hi]; exact hset
        rw [hset2]
        obtain ⟨g0, cap, hlv, -, hg, k0, k1, k2⟩ := lv_cells H.out.1.row hi
        have c0 := H.out.1.c0
        rw [hlv] at c0
        obtain ⟨n, hn⟩ : ∃ n, M.length = n := ⟨_, rfl⟩
        have hsrc : Src eLse w (.slice (some ⟨g0, 0, none⟩) n cap) M := by
          have := Own.src H.out.1.row
          rw [hlv, hn] at this
          exact this
        rw [hn] at c0 h16
        have hin : i < n := by omega
        obtain ⟨t0, ht0⟩ : ∃ t0, M[i].till = t0 := ⟨_, rfl⟩
        obtain ⟨tz, htz⟩ : ∃ tz, tillZ ttl now = tz := ⟨_, rfl⟩
        have hU := fun w => until_any HRR.out w
        simp only [htz] at hU hset2 ⊢
        have hrb := H.out.1.ltb
        have hnil : ([] : List Lv).length + M.length = n := by rw [hn]; simp
        have hft := till_fit HRR.out
        rw [htz] at hft
        have htl := (H.out.1.fit.each (core M[i]) (List.mem_map.2 ⟨M[i], List.getElem_mem hi, rfl⟩)).2.2.2
        have htl2 : 1 ≤ M[i].till ∧ M[i].till ≤ 281474976710656 := htl
        have hfit2 : GoodL last ((M.set i (putTill M[i] (max M[i].till tz))).map core) := by
          rw [← hset2]
          exact Fit.set H.out.1.fit (by show 1 ≤ max M[i].till tz ∧ max M[i].till tz ≤ _; omega)
        obtain ⟨idv, hidv⟩ : ∃ idv, M[i].id = idv := ⟨_, rfl⟩
        rw [hidv] at HA ⊢
        rw [ht0] at hfit2
        have HX := Lib.hid (And.intro hsrc (And.intro hnil (And.intro hn (And.intro ht0 (And.intro hfit2 hi)))))
        have HO := Lib.hid hO
        have HRD := Lib.hid (fun (W : World) (hb : Below w.heap.size w W) (t : Int) (x : Lv) (hx : x ∈ M.set i (putTill M[i] t)) => (by
          have hW := H.out.1.below hb
          rcases List.mem_or_eq_of_mem_set hx with h1 | h1
          · exact hW.rd x h1
          · subst h1
            exact hW.rd M[i] (List.getElem_mem hi) : RdX F W x))
        have tn0 : ∀ W, Below w.heap.size w W → ∀ B a c, Own eLse W B (.slice a n c) M → ∃ g, a = some ⟨g, 0, none⟩ ∧ B ≤ g ∧ W.cell? ⟨g, i * 3 + 2, none⟩ = some (.int .i64 t0) ∧ W.frozen? ⟨g, i * 3 + 2, none⟩ = false := fun W hb B a c ho => by
          have ho2 : Own eLse W B (.slice a M.length c) M := by rw [hn]; exact ho
          obtain ⟨g, cap', hv, hB, _, _, _, j2⟩ := lv_cells ho2 hi
          injection hv with e1 e2 e3
          subst e1
          exact ⟨g, rfl, hB, by rw [j2, ht0], World.ownsRow.frozenAt ho2 _⟩
        have HT0 := Lib.hid tn0
        have HTM : Hid (M[i].till = t0) := ht0
        clear hsrc hnil hn hO ht hset hset2 hlv k0 k1 k2 htl htl2 hft htz hfit2 hidv tn0
        by_cases hgt : t0 < tz
        · have hmx : max M[i].till tz = tz := by rw [HTM.out]; omega
          rw [hmx]
          have HMX := Lib.hid (show max t0 tz = tz by omega)
          clear hmx ht0
          go_enter Tryz.func11, Tryz.ntmps11
          go_wp2_with (first
            | (at_builtin; refine wpl_app eLse rfl _ _ rfl rfl rfl (v := .slice none 0 0) (l := []) (l2 := M) (B := w.heap.size) (World.ownsRow_nil _ _ _ _) HX.out.1 (by rw [HX.out.2.1]; omega) (Nat.le_refl _) ?_; rw [HX.out.2.1, List.nil_append]; intro a3 cap3 w3 ho3 hb3 _ _; obtain ⟨g, rfl, hgB, d2, z2⟩ := HT0.out w3 hb3 _ _ _ ho3; have H3 := Lib.hid (And.intro ho3 hb3); have d3 := (hb3.cell (p := ⟨rb, 0, none⟩) hrb).trans c0; have z3 := (hb3.frozen (p := ⟨rb, 0, none⟩) hrb).trans (H.out.1.fz 0); clear ho3 hb3)
            | (go_at_call 34; refine HO.out.mono ?_; rintro e v2 ⟨rfl, rfl⟩)
            | (go_at_call 33; refine (HR _).mono ?_; rintro e v1 ⟨rfl, rfl⟩)
            | (go_at_call 38; refine HA.out.mono ?_; rintro e v2 ⟨rfl, rfl⟩))
          have hgr : rb ≠ g := fun e => by omega
          obtain ⟨W4, hW4⟩ : ∃ W4, w3.setCell ⟨rb, 0, none⟩ (.slice (some ⟨g, 0, none⟩) n cap3) = W4 := ⟨_, rfl⟩
          have e4 : W4.cell? ⟨rb, 0, none⟩ = some (.slice (some ⟨g, 0, none⟩) n cap3) := by rw [← hW4]; exact World.cell?_setCell_same _ _ _ d3
          have e5 : W4.cell? ⟨g, i * 3 + 2, none⟩ = some (.int .i64 t0) := by rw [← hW4]; exact cell_ob d2 hgr
          have e6 : W4.frozen? ⟨g, i * 3 + 2, none⟩ = false := by rw [← hW4]; exact (World.frozen?_setCell _ _ _ _).trans z2
          have HW4 := Lib.hid hW4
          rw [hW4]
          clear hW4 d2 d3 z2 z3
          have r1 : (i : Int) < (n : Int) := by omega
          have i4 : W4.drew.cell? ⟨rb, 0, none⟩ = some (.slice (some ⟨g, 0, none⟩) n cap3) := e4
          have i5 : W4.drew.cell? ⟨g, i * 3 + 2, none⟩ = some (.int .i64 t0) := e5
          refine wp_region_K (fun w' => w'.cell? ⟨rb, 0, none⟩ = some (.slice (some ⟨g, 0, none⟩) n cap3) ∧ w'.cell? ⟨g, i * 3 + 2, none⟩ = some (.int .i64 t0)) 11 12 (by kernel_rfl) (by kernel_rfl) ⟨i4, i5⟩ (fun hH => ?_)
          refine wpAnyK_take (i := 0) [2, 11] (v := ?v9) rfl (by kernel_rfl) (by kernel_rfl) (by kernel_rfl) (by kernel_rfl) (fun _ _ _ h => h) (Or.inl ⟨by rfl, ?hy9⟩) hH ?rest9
          case hy9 => (intro w hSw; (try dsimp only at hSw); go_simp; with_reducible rfl)
          try simp only [Act.put, List.setIfInBounds_toArray, List.set_cons_zero, List.set_cons_succ]
          refine wpAnyK_take (i := 1) [2, 11] (v := ?v10) rfl (by kernel_rfl) (by kernel_rfl) (by kernel_rfl) (by kernel_rfl) (fun _ _ _ h => h) (Or.inl ⟨by rfl, ?hy10⟩) hH ?rest10
          case hy10 => (intro w hSw; (try dsimp only at hSw); go_simp; with_reducible rfl)
          try simp only [Act.put, List.setIfInBounds_toArray, List.set_cons_zero, List.set_cons_succ]
          refine wpAnyK_take (i := 3) [4, 5, 6, 8, 9, 10, 11] (v := ?v11) rfl (by kernel_rfl) (by kernel_rfl) (by kernel_rfl) (by kernel_rfl) (fun _ _ _ h => h) (Or.inl ⟨by rfl, ?hy11⟩) hH ?rest11
          case hy11 => (intro w hSw; (try dsimp only at hSw); go_simp; with_reducible rfl)
          try simp only [Act.put, List.setIfInBounds_toArray, List.set_cons_zero, List.set_cons_succ]
          refine wpAnyK_take (i := 4) [5, 6, 8, 9, 10, 11] (v := ?v12) rfl (by kernel_rfl) (by kernel_rfl) (by kernel_rfl) (by kernel_rfl) (fun _ _ _ h => h) (Or.inl ⟨by rfl, ?hy12⟩) hH ?rest12
          case hy12 => (intro w hSw; (try dsimp only at hSw); go_simp; with_reducible rfl)
          try simp only [Act.put, List.setIfInBounds_toArray, List.set_cons_zero, List.set_cons_succ]
          refine wpAnyK_take (i := 5) [6, 8, 9, 10, 11] (v := ?v13) rfl (by kernel_rfl) (by kernel_rfl) (by kernel_rfl) (by kernel_rfl) (fun _ _ _ h => h) (Or.inl ⟨by rfl, ?hy13⟩) hH ?rest13
          case hy13 => (intro w hSw; (try dsimp only at hSw); go_simp; with_reducible rfl)
          try simp only [Act.put, List.setIfInBounds_toArray, List.set_cons_zero, List.set_cons_succ]
          refine wpAnyK_take (i := 6) [8, 9, 10, 11] (v := ?v14) rfl (by kernel_rfl) (by kernel_rfl) (by kernel_rfl) (by kernel_rfl) (fun _ _ _ h => h) (Or.inl ⟨by rfl, ?hy14⟩) hH ?rest14
          case hy14 => (intro w hSw; (try dsimp only at hSw); go_simp; with_reducible rfl)
          try simp only [Act.put, List.setIfInBounds_toArray, List.set_cons_zero, List.set_cons_succ]
          refine wpAnyK_take (i := 7) [8, 9, 10, 11] (v := ?v15) rfl (by kernel_rfl) (by kernel_rfl) (by kernel_rfl) (by kernel_rfl) (fun _ _ _ h => h) (Or.inl ⟨by rfl, ?hy15⟩) hH ?rest15
          case hy15 => (intro w hSw; (try dsimp only at hSw); go_simp; with_reducible rfl)
          try simp only [Act.put, List.setIfInBounds_toArray, List.set_cons_zero, List.set_cons_succ]
          refine wpAnyK_take (i := 8) [9, 10, 11] (v := ?v16) rfl (by kernel_rfl) (by kernel_rfl) (by kernel_rfl) (by kernel_rfl) (fun _ _ _ h => h) (Or.inl ⟨by rfl, ?hy16⟩) hH ?rest16
          case hy16 => (intro w hSw; (try dsimp only at hSw); go_simp; with_reducible rfl)
          try simp only [Act.put, List.setIfInBounds_toArray, List.set_cons_zero, List.set_cons_succ]
          refine wpAnyK_take (i := 9) [10, 11] (v := ?v17) rfl (by kernel_rfl) (by kernel_rfl) (by kernel_rfl) (by kernel_rfl) (fun _ _ _ h => h) (Or.inl ⟨by rfl, ?hy17⟩) hH ?rest17
          case hy17 => (intro w hSw; (try dsimp only at hSw); go_simp; with_reducible rfl)
          try simp only [Act.put, List.setIfInBounds_toArray, List.set_cons_zero, List.set_cons_succ]
          refine wpAnyK_take (i := 10) [11] (v := ?v18) rfl (by kernel_rfl) (by kernel_rfl) (by kernel_rfl) (by kernel_rfl) (fun _ _ _ h => h) (Or.inl ⟨by rfl, ?hy18⟩) hH ?rest18
          case hy18 => (intro w hSw; (try dsimp only at hSw); go_simp; with_reducible rfl)
          try simp only [Act.put, List.setIfInBounds_toArray, List.set_cons_zero, List.set_cons_succ]
          refine wpAnyK_one (i := 2) (by kernel_rfl) rfl (fun K hK => ?_) (by kernel_rfl)
          go_simp
          go_at_call 36
          refine (hU _).mono ?_
          rintro e v5 ⟨rfl, rfl⟩
          refine hK.out _ _ ⟨i4, i5⟩ (fun hH => ?_)
          clear hK K
          try simp only [Act.put, List.setIfInBounds_toArray, List.set_cons_zero, List.set_cons_succ]
          refine wpAnyK_last (by kernel_rfl) rfl (fun K hK => ?_) (by kernel_rfl)
          go_simp
          refine hK.out _ _ (wpAnyK_done (by kernel_rfl) ?_ _)
          clear hK K hH
          go_wp2
          refine wp_region_K (fun w' => w'.cell? ⟨rb, 0, none⟩ = some (.slice (some ⟨g, 0, none⟩) n cap3)) 10 11 (by kernel_rfl) (by kernel_rfl) i4 (fun hH => ?_)
          refine wpAnyK_take (i := 0) [10] (v := ?v19) rfl (by kernel_rfl) (by kernel_rfl) (by kernel_rfl) (by kernel_rfl) (fun _ _ _ h => h) (Or.inl ⟨by rfl, ?hy19⟩) hH ?rest19
          case hy19 => (intro w hSw; (try dsimp only at hSw); go_simp; with_reducible rfl)
          try simp only [Act.put, List.setIfInBounds_toArray, List.set_cons_zero, List.set_cons_succ]
          refine wpAnyK_take (i := 1) [10] (v := ?v20) rfl (by kernel_rfl) (by kernel_rfl) (by kernel_rfl) (by kernel_rfl) (fun _ _ _ h => h) (Or.inl ⟨by rfl, ?hy20⟩) hH ?rest20
          case hy20 => (intro w hSw; (try dsimp only at hSw); go_simp; with_reducible rfl)
          try simp only [Act.put, List.setIfInBounds_toArray, List.set_cons_zero, List.set_cons_succ]
          refine wpAnyK_take (i := 2) [10] (v := ?v21) rfl (by kernel_rfl) (by kernel_rfl) (by kernel_rfl) (by kernel_rfl) (fun _ _ _ h => h) (Or.inl ⟨by rfl, ?hy21⟩) hH ?rest21
          case hy21 => (intro w hSw; (try dsimp only at hSw); go_simp; with_reducible rfl)
          try simp only [Act.put, List.setIfInBounds_toArray, List.set_cons_zero, List.set_cons_succ]
          refine wpAnyK_take (i := 3) [10] (v := ?v22) rfl (by kernel_rfl) (by kernel_rfl) (by kernel_rfl) (by kernel_rfl) (fun _ _ _ h => h) (Or.inl ⟨by rfl, ?hy22⟩) hH ?rest22
          case hy22 => (intro w hSw; (try dsimp only at hSw); go_simp; with_reducible rfl)
          try simp only [Act.put, List.setIfInBounds_toArray, List.set_cons_zero, List.set_cons_succ]
          refine wpAnyK_take (i := 4) [10] (v := ?v23) rfl (by kernel_rfl) (by kernel_rfl) (by kernel_rfl) (by kernel_rfl) (fun _ _ _ h => h) (Or.inl ⟨by rfl, ?hy23⟩) hH ?rest23
          case hy23 => (intro w hSw; (try dsimp only at hSw); go_simp; with_reducible rfl)
          try simp only [Act.put, List.setIfInBounds_toArray, List.set_cons_zero, List.set_cons_succ]
          refine wpAnyK_take (i := 5) [10] (v := ?v24) rfl (by kernel_rfl) (by kernel_rfl) (by kernel_rfl) (by kernel_rfl) (fun _ _ _ h => h) (Or.inl ⟨by rfl, ?hy24⟩) hH ?rest24
          case hy24 => (intro w hSw; (try dsimp only at hSw); go_simp; with_reducible rfl)
          try simp only [Act.put, List.setIfInBounds_toArray, List.set_cons_zero, List.set_cons_succ]
          refine wpAnyK_take (i := 6) [10] (v := ?v25) rfl (by kernel_rfl) (by kernel_rfl) (by kernel_rfl) (by kernel_rfl) (fun _ _ _ h => h) (Or.inl ⟨by rfl, ?hy25⟩) hH ?rest25
          case hy25 => (intro w hSw; (try dsimp only at hSw); go_simp; with_reducible rfl)
          try simp only [Act.put, List.setIfInBounds_toArray, List.set_cons_zero, List.set_cons_succ]
          refine wpAnyK_one (i := 7) (by kernel_rfl) rfl (fun K hK => ?_) (by kernel_rfl)
          go_simp
          go_at_call 36
          refine (hU _).mono ?_
          rintro e v5 ⟨rfl, rfl⟩
          refine hK.out _ _ i4 (fun hH => ?_)
          clear hK K
          try simp only [Act.put, List.setIfInBounds_toArray, List.set_cons_zero, List.set_cons_succ]
          refine wpAnyK_take (i := 8) [9, 10] (v := ?v26) rfl (by kernel_rfl) (by kernel_rfl) (by kernel_rfl) (by kernel_rfl) (fun _ _ _ h => h) (Or.inl ⟨by rfl, ?hy26⟩) hH ?rest26
          case hy26 => (intro w hSw; (try dsimp only at hSw); go_simp; with_reducible rfl)
          try simp only [Act.put, List.setIfInBounds_toArray, List.set_cons_zero, List.set_cons_succ]
          refine wpAnyK_take (i := 9) [10] (v := ?v27) rfl (by kernel_rfl) (by kernel_rfl) (by kernel_rfl) (by kernel_rfl) (fun _ _ _ h => h) (Or.inl ⟨by rfl, ?hy27⟩) hH ?rest27
          case hy27 => (intro w hSw; (try dsimp only at hSw); go_simp; with_reducible rfl)
          try simp only [Act.put, List.setIfInBounds_toArray, List.set_cons_zero, List.set_cons_succ]
          refine wpAnyK_last (by kernel_rfl) rfl (fun K hK => ?_) (by kernel_rfl)
          go_simp
          refine hK.out _ _ (wpAnyK_done (by kernel_rfl) ?_ _)
          clear hK K hH
          go_wp2
          go_ret
          refine ⟨rfl, ?_⟩
          have hfit3 := HX.out.2.2.2.2.1
          rw [HMX.out] at hfit3
          refine RlStep.then_ (w' := W4.setCell ⟨g, i * 3 + 2, none⟩ (.int .i64 tz)) (RlStep.retill H.out.1 H.out.2 H3.out.2 H3.out.1 HX.out.2.2.1 HX.out.2.2.2.2.2 ?_ tz hfit3) (Below.refl _ _).drew.drew
          rw [HW4.out]
          exact Tn.refl _ _
        · have hmx : max M[i].till tz = t0 := by rw [HTM.out]; omega
          rw [hmx]
          clear hmx ht0
          have r2 : ¬ t0 < tz := hgt
          go_enter Tryz.func11, Tryz.ntmps11
          go_wp2_with (first
            | (at_builtin; refine wpl_app eLse rfl _ _ rfl rfl rfl (v := .slice none 0 0) (l := []) (l2 := M) (B := w.heap.size) (World.ownsRow_nil _ _ _ _) HX.out.1 (by rw [HX.out.2.1]; omega) (Nat.le_refl _) ?_; rw [HX.out.2.1, List.nil_append]; intro a3 cap3 w3 ho3 hb3 _ _; obtain ⟨g, rfl, hgB, d2, z2⟩ := HT0.out w3 hb3 _ _ _ ho3; have H3 := Lib.hid (And.intro ho3 hb3); have d3 := (hb3.cell (p := ⟨rb, 0, none⟩) hrb).trans c0; have z3 := (hb3.frozen (p := ⟨rb, 0, none⟩) hrb).trans (H.out.1.fz 0); clear ho3 hb3)
            | (go_at_call 34; refine HO.out.mono ?_; rintro e v2 ⟨rfl, rfl⟩)
            | (go_at_call 33; refine (HR _).mono ?_; rintro e v1 ⟨rfl, rfl⟩)
            | (go_at_call 38; refine HA.out.mono ?_; rintro e v2 ⟨rfl, rfl⟩))
          have hgr : rb ≠ g := fun e => by omega
          obtain ⟨W4, hW4⟩ : ∃ W4, w3.setCell ⟨rb, 0, none⟩ (.slice (some ⟨g, 0, none⟩) n cap3) = W4 := ⟨_, rfl⟩
          have e4 : W4.cell? ⟨rb, 0, none⟩ = some (.slice (some ⟨g, 0, none⟩) n cap3) := by rw [← hW4]; exact World.cell?_setCell_same _ _ _ d3
          have e5 : W4.cell? ⟨g, i * 3 + 2, none⟩ = some (.int .i64 t0) := by rw [← hW4]; exact cell_ob d2 hgr
          have HW4 := Lib.hid hW4
          rw [hW4]
          clear hW4 d2 d3 z2 z3
          have r1 : (i : Int) < (n : Int) := by omega
          have i4 : W4.drew.cell? ⟨rb, 0, none⟩ = some (.slice (some ⟨g, 0, none⟩) n cap3) := e4
          have i5 : W4.drew.cell? ⟨g, i * 3 + 2, none⟩ = some (.int .i64 t0) := e5
          refine wp_region_K (fun w' => w'.cell? ⟨rb, 0, none⟩ = some (.slice (some ⟨g, 0, none⟩) n cap3) ∧ w'.cell? ⟨g, i * 3 + 2, none⟩ = some (.int .i64 t0)) 11 12 (by kernel_rfl) (by kernel_rfl) ⟨i4, i5⟩ (fun hH => ?_)
          refine wpAnyK_take (i := 0) [2, 11] (v := ?v28) rfl (by kernel_rfl) (by kernel_rfl) (by kernel_rfl) (by kernel_rfl) (fun _ _ _ h => h) (Or.inl ⟨by rfl, ?hy28⟩) hH ?rest28
          case hy28 => (intro w hSw; (try dsimp only at hSw); go_simp; with_reducible rfl)
          try simp only [Act.put, List.setIfInBounds_toArray, List.set_cons_zero, List.set_cons_succ]
          refine wpAnyK_take (i := 1) [2, 11] (v := ?v29) rfl (by kernel_rfl) (by kernel_rfl) (by kernel_rfl) (by kernel_rfl) (fun _ _ _ h => h) (Or.inl ⟨by rfl, ?hy29⟩) hH ?rest29
          case hy29 => (intro w hSw; (try dsimp only at hSw); go_simp; with_reducible rfl)
          try simp only [Act.put, List.setIfInBounds_toArray, List.set_cons_zero, List.set_cons_succ]
          refine wpAnyK_take (i := 3) [4, 5, 6, 8, 9, 10, 11] (v := ?v30) rfl (by kernel_rfl) (by kernel_rfl) (by kernel_rfl) (by kernel_rfl) (fun _ _ _ h => h) (Or.inl ⟨by rfl, ?hy30⟩) hH ?rest30
          case hy30 => (intro w hSw; (try dsimp only at hSw); go_simp; with_reducible rfl)
          try simp only [Act.put, List.setIfInBounds_toArray, List.set_cons_zero, List.set_cons_succ]
          refine wpAnyK_take (i := 4) [5, 6, 8, 9, 10, 11] (v := ?v31) rfl (by kernel_rfl) (by kernel_rfl) (by kernel_rfl) (by kernel_rfl) (fun _ _ _ h => h) (Or.inl ⟨by rfl, ?hy31⟩) hH ?rest31
          case hy31 => (intro w hSw; (try dsimp only at hSw); go_simp; with_reducible rfl)
          try simp only [Act.put, List.setIfInBounds_toArray, List.set_cons_zero, List.set_cons_succ]
          refine wpAnyK_take (i := 5) [6, 8, 9, 10, 11] (v := ?v32) rfl (by kernel_rfl) (by kernel_rfl) (by kernel_rfl) (by kernel_rfl) (fun _ _ _ h => h) (Or.inl ⟨by rfl, ?hy32⟩) hH ?rest32
          case hy32 => (intro w hSw; (try dsimp only at hSw); go_simp; with_reducible rfl)
          try simp only [Act.put, List.setIfInBounds_toArray, List.set_cons_zero, List.set_cons_succ]
          refine wpAnyK_take (i := 6) [8, 9, 10, 11] (v := ?v33) rfl (by kernel_rfl) (by kernel_rfl) (by kernel_rfl) (by kernel_rfl) (fun _ _ _ h => h) (Or.inl ⟨by rfl, ?hy33⟩) hH ?rest33
          case hy33 => (intro w hSw; (try dsimp only at hSw); go_simp; with_reducible rfl)
          try simp only [Act.put, List.setIfInBounds_toArray, List.set_cons_zero, List.set_cons_succ]
          refine wpAnyK_take (i := 7) [8, 9, 10, 11] (v := ?v34) rfl (by kernel_rfl) (by kernel_rfl) (by kernel_rfl) (by kernel_rfl) (fun _ _ _ h => h) (Or.inl ⟨by rfl, ?hy34⟩) hH ?rest34
          case hy34 => (intro w hSw; (try dsimp only at hSw); go_simp; with_reducible rfl)
          try simp only [Act.put, List.setIfInBounds_toArray, List.set_cons_zero, List.set_cons_succ]
          refine wpAnyK_take (i := 8) [9, 10, 11] (v := ?v35) rfl (by kernel_rfl) (by kernel_rfl) (by kernel_rfl) (by kernel_rfl) (fun _ _ _ h => h) (Or.inl ⟨by rfl, ?hy35⟩) hH ?rest35
          case hy35 => (intro w hSw; (try dsimp only at hSw); go_simp; with_reducible rfl)
          try simp only [Act.put, List.setIfInBounds_toArray, List.set_cons_zero, List.set_cons_succ]
          refine wpAnyK_take (i := 9) [10, 11] (v := ?v36) rfl (by kernel_rfl) (by kernel_rfl) (by kernel_rfl) (by kernel_rfl) (fun _ _ _ h => h) (Or.inl ⟨by rfl, ?hy36⟩) hH ?rest36
          case hy36 => (intro w hSw; (try dsimp only at hSw); go_simp; with_reducible rfl)
          try simp only [Act.put, List.setIfInBounds_toArray, List.set_cons_zero, List.set_cons_succ]
          refine wpAnyK_take (i := 10) [11] (v := ?v37) rfl (by kernel_rfl) (by kernel_rfl) (by kernel_rfl) (by kernel_rfl) (fun _ _ _ h => h) (Or.inl ⟨by rfl, ?hy37⟩) hH ?rest37
          case hy37 => (intro w hSw; (try dsimp only at hSw); go_simp; with_reducible rfl)
          try simp only [Act.put, List.setIfInBounds_toArray, List.set_cons_zero, List.set_cons_succ]
          refine wpAnyK_one (i := 2) (by kernel_rfl) rfl (fun K hK => ?_) (by kernel_rfl)
          go_simp
          go_at_call 36
          refine (hU _).mono ?_
          rintro e v5 ⟨rfl, rfl⟩
          refine hK.out _ _ ⟨i4, i5⟩ (fun hH => ?_)
          clear hK K
          try simp only [Act.put, List.setIfInBounds_toArray, List.set_cons_zero, List.set_cons_succ]
          refine wpAnyK_last (by kernel_rfl) rfl (fun K hK => ?_) (by kernel_rfl)
          go_simp
          refine hK.out _ _ (wpAnyK_done (by kernel_rfl) ?_ _)
          clear hK K hH
          go_wp2
          go_ret
          refine ⟨rfl, ?_⟩
          have hM : M.set i (putTill M[i] t0) = M := by
            have : putTill M[i] t0 = M[i] := by rw [← HTM.out]; rfl
            rw [this]
            exact List.set_getElem_self _
          rw [hM]
          obtain ⟨lv', M', f1, f2, f3⟩ := RlStep.relist H.out.1 H.out.2 H3.out.2 H3.out.1 (H.out.1.below H3.out.2).rd H.out.1.fit
          rw [HW4.out] at f1 f3
          exact ⟨lv', M', f1.turn (Tn.drew (F := fun _ => False) _) (fun _ _ e => e.elim) (fun _ _ e => e) H.out.1.fr, f2, f3.trans (Tn.drew _)⟩
set_option maxRecDepth 100000 in
set_option maxHeartbeats 4000000 in
theorem rlrelease_any (h : RlAt F w rb lv M last) (hF : ∀ q, F q → q < w.heap.size) (id now : Int) : Calls Tryz.prog 13 #[.pointer (some ⟨rb, 0, none⟩), .int .i64 id, .int .i64 now] w fun e w' =>
    e = .returned (.int .i64 (relC (M.map core) id now).1) ∧ RlStep F w w' rb last (relC (M.map core) id now).2 := by
  have H := Lib.hid (And.intro h hF)
  unfold relC
  rcases id_cases M id with hz | ⟨i, hi, rfl⟩
  · rw [findC_none hz]
    have HA := Lib.hid (rlat_no h hz)
    clear h hF hz
    go_enter Tryz.func13, Tryz.ntmps13
    go_wp2_with (go_at_call 38; refine HA.out.mono ?_; rintro e v2 ⟨rfl, rfl⟩)
    go_ret
    exact ⟨rfl, RlStep.same H.out.1⟩
  · rw [findV h.fit.rise hi]
    have HA := Lib.hid (rlat_yes h hi)
    have hO := rover_any h hi now
    have h16 := h.few
    simp only
    by_cases ht : M[i].till ≤ now
    · rw [decide_eq_true ht] at hO
      rw [if_pos (show (core M[i]).2.2 ≤ now from ht)]
      have HO := Lib.hid hO
      obtain ⟨idv, hidv⟩ : ∃ idv, M[i].id = idv := ⟨_, rfl⟩
      rw [hidv] at HA ⊢
      clear hO ht hidv h hF
      go_enter Tryz.func13, Tryz.ntmps13
      go_wp2_with (first
        | (go_at_call 34; refine HO.out.mono ?_; rintro e v2 ⟨rfl, rfl⟩)
        | (go_at_call 38; refine HA.out.mono ?_; rintro e v2 ⟨rfl, rfl⟩))
      go_ret
      exact ⟨rfl, RlStep.same H.out.1⟩
    · rw [decide_eq_false ht] at hO
      rw [if_neg (show ¬ (core M[i]).2.2 ≤ now from ht)]
      have hdel := delC_take h.fit.rise (i := i) (by rw [List.length_map]; exact hi)
      rw [List.getElem_map] at hdel
      have hdel2 : delC M[i].id (M.map core) = (M.take i ++ M.drop (i + 1)).map core := by rw [List.map_append, List.map_take, List.map_drop]; exact hdel
      rw [hdel2]
      have hfit2 : GoodL last ((M.take i ++ M.drop (i + 1)).map core) := by rw [← hdel2]; exact Fit.del h.fit _
      obtain ⟨g, cap, hlv, -, -, -, -, -⟩ := lv_cells h.row hi
      have hle : M.length ≤ cap := by
        obtain ⟨a, cap', e, h1, _⟩ := rl_form h
        rw [hlv] at e
        injection e with _ _ e3
        omega
      have c0 := h.c0
      rw [hlv] at c0
      obtain ⟨n, hn⟩ : ∃ n, M.length = n := ⟨_, rfl⟩
      have hrow : Own eLse w 0 (.slice (some ⟨g, 0, none⟩) n cap) M := by have := h.row; rw [hlv, hn] at this; exact this
      rw [hn] at c0 h16 hle
      have hin : i < n := by omega
      obtain ⟨l1, l2⟩ : (M.take i).length = i ∧ (M.drop (i + 1)).length = n - (i + 1) := by rw [List.length_take, List.length_drop]; omega
      have hs1 := src_rowsL (c := cap) hrow hn (i := 0) (j := i) (by omega) (by omega)
      have hs2 := src_rowsL (c := cap - (i + 1)) hrow hn (i := i + 1) (j := n) (by omega) (by omega)
      rw [Nat.zero_mul, Nat.sub_zero, List.drop_zero] at hs1
      rw [List.take_of_length_le (by omega : M.length ≤ n)] at hs2
      obtain ⟨k2, hk2⟩ : ∃ k2, n - (i + 1) = k2 := ⟨_, rfl⟩
      obtain ⟨cc, hcc⟩ : ∃ cc, cap - (i + 1) = cc := ⟨_, rfl⟩
      rw [hk2, hcc] at hs2
      rw [hk2] at l2
      replace hs2 : Src eLse w (.slice (if cap = i + 1 then some ⟨g, 0, none⟩ else some ⟨g, (i + 1) * 3, none⟩) k2 cc) (M.drop (i + 1)) := by
        split
        · rename_i hce
          have h0 : k2 = 0 := by omega
          have hd0 : M.drop (i + 1) = [] := List.eq_nil_of_length_eq_zero (by omega)
          rw [hd0, h0]
          exact .inr ⟨_, cc, rfl, fun j u hj => by simp at hj⟩
        · exact hs2
      have HX := Lib.hid (And.intro hs1 (And.intro hs2 (And.intro l1 (And.intro l2 hfit2))))
      have e1 : IntKind.i64.wrap ((i : Int) + 1) = (i : Int) + 1 := IntWalk.i64_in _ (by omega)
      have e2 : IntKind.i64.wrap (i : Int) = (i : Int) := IntWalk.i64_in _ (by omega)
      have b1 : i ≤ n := by omega
      have b2 : i ≤ cap := by omega
      have b3 : i + 1 ≤ n := by omega
      have b4 : i + 1 ≤ cap := by omega
      have b5 : (i : Int) ≤ (cap : Int) := by omega
      have b6 : ((i : Int) + 1) ≤ (n : Int) := by omega
      have b7 : 0 ≤ (i : Int) + 1 := by omega
      have b8 : ((i : Int) + 1).toNat = i + 1 := by omega
      have hl3 : ([] : List Lv).length + (M.take i).length = i := by rw [l1]; simp
      have HL3 := Lib.hid hl3
      have HO := Lib.hid hO
      obtain ⟨idv, hidv⟩ : ∃ idv, M[i].id = idv := ⟨_, rfl⟩
      rw [hidv] at HA ⊢
      have c0' : (w.drewN 1).cell? ⟨rb, 0, none⟩ = some (.slice (some ⟨g, 0, none⟩) n cap) := c0
      have hlim : i < 16 := by omega
      have HLIM := Lib.hid h16
      clear h hF hs1 hs2 l1 l2 hl3 hn hO hrow hle hdel hdel2 hfit2 hlv hidv ht hin hi h16
      go_enter Tryz.func13, Tryz.ntmps13
      go_wp2_with (first
        | (go_at_call 34; refine HO.out.mono ?_; rintro e v2 ⟨rfl, rfl⟩)
        | (go_at_call 38; refine HA.out.mono ?_; rintro e v2 ⟨rfl, rfl⟩))
      refine wp_region_K (fun w' => w'.cell? ⟨rb, 0, none⟩ = some (.slice (some ⟨g, 0, none⟩) n cap)) 18 19 (by kernel_rfl) (by kernel_rfl) c0' (fun hH => ?_)
      refine wpAnyK_take (i := 0) [18] (v := ?v38) rfl (by kernel_rfl) (by kernel_rfl) (by kernel_rfl) (by kernel_rfl) (fun _ _ _ h => h) (Or.inl ⟨by rfl, ?hy38⟩) hH ?rest38
      case hy38 => (intro w hSw; (try dsimp only at hSw); go_simp; with_reducible rfl)
      try simp only [Act.put, List.setIfInBounds_toArray, List.set_cons_zero, List.set_cons_succ]
      refine wpAnyK_take (i := 1) [18] (v := ?v39) rfl (by kernel_rfl) (by kernel_rfl) (by kernel_rfl) (by kernel_rfl) (fun _ _ _ h => h) (Or.inl ⟨by rfl, ?hy39⟩) hH ?rest39
      case hy39 => (intro w hSw; (try dsimp only at hSw); go_simp; with_reducible rfl)
      try simp only [Act.put, List.setIfInBounds_toArray, List.set_cons_zero, List.set_cons_succ]
      refine wpAnyK_take (i := 2) [18] (v := ?v40) rfl (by kernel_rfl) (by kernel_rfl) (by kernel_rfl) (by kernel_rfl) (fun _ _ _ h => h) (Or.inl ⟨by rfl, ?hy40⟩) hH ?rest40
      case hy40 => (intro w hSw; (try dsimp only at hSw); go_simp; with_reducible rfl)
      try simp only [Act.put, List.setIfInBounds_toArray, List.set_cons_zero, List.set_cons_succ]
      refine wpAnyK_take (i := 3) [18] (v := ?v41) rfl (by kernel_rfl) (by kernel_rfl) (by kernel_rfl) (by kernel_rfl) (fun _ _ _ h => h) (Or.inl ⟨by rfl, ?hy41⟩) hH ?rest41
      case hy41 => (intro w hSw; (try dsimp only at hSw); go_simp; with_reducible rfl)
      try simp only [Act.put, List.setIfInBounds_toArray, List.set_cons_zero, List.set_cons_succ]
      refine wpAnyK_take (i := 4) [18] (v := ?v42) rfl (by kernel_rfl) (by kernel_rfl) (by kernel_rfl) (by kernel_rfl) (fun _ _ _ h => h) (Or.inl ⟨by rfl, ?hy42⟩) hH ?rest42
      case hy42 => (intro w hSw; (try dsimp only at hSw); go_simp; with_reducible rfl)
      try simp only [Act.put, List.setIfInBounds_toArray, List.set_cons_zero, List.set_cons_succ]
      refine wpAnyK_take (i := 5) [18] (v := ?v43) rfl (by kernel_rfl) (by kernel_rfl) (by kernel_rfl) (by kernel_rfl) (fun _ _ _ h => h) (Or.inl ⟨by rfl, ?hy43⟩) hH ?rest43
      case hy43 => (intro w hSw; (try dsimp only at hSw); go_simp; with_reducible rfl)
      try simp only [Act.put, List.setIfInBounds_toArray, List.set_cons_zero, List.set_cons_succ]
      refine wpAnyK_take (i := 6) [18] (v := ?v44) rfl (by kernel_rfl) (by kernel_rfl) (by kernel_rfl) (by kernel_rfl) (fun _ _ _ h => h) (Or.inl ⟨by rfl, ?hy44⟩) hH ?rest44
      case hy44 => (intro w hSw; (try dsimp only at hSw); go_simp; with_reducible rfl)
      try simp only [Act.put, List.setIfInBounds_toArray, List.set_cons_zero, List.set_cons_succ]
      refine wpAnyK_take (i := 8) [18] (v := ?v45) rfl (by kernel_rfl) (by kernel_rfl) (by kernel_rfl) (by kernel_rfl) (fun _ _ _ h => h) (Or.inl ⟨by rfl, ?hy45⟩) hH ?rest45
      case hy45 => (intro w hSw; (try dsimp only at hSw); go_simp; with_reducible rfl)
      try simp only [Act.put, List.setIfInBounds_toArray, List.set_cons_zero, List.set_cons_succ]
      refine wpAnyK_take (i := 9) [18] (v := ?v46) rfl (by kernel_rfl) (by kernel_rfl) (by kernel_rfl) (by kernel_rfl) (fun _ _ _ h => h) (Or.inl ⟨by rfl, ?hy46⟩) hH ?rest46
      case hy46 => (intro w hSw; (try dsimp only at hSw); go_simp; with_reducible rfl)
      try simp only [Act.put, List.setIfInBounds_toArray, List.set_cons_zero, List.set_cons_succ]
      refine wpAnyK_take (i := 10) [18] (v := ?v47) rfl (by kernel_rfl) (by kernel_rfl) (by kernel_rfl) (by kernel_rfl) (fun _ _ _ h => h) (Or.inl ⟨by rfl, ?hy47⟩) hH ?rest47
      case hy47 => (intro w hSw; (try dsimp only at hSw); go_simp; with_reducible rfl)
      try simp only [Act.put, List.setIfInBounds_toArray, List.set_cons_zero, List.set_cons_succ]
      refine wpAnyK_take (i := 11) [18] (v := ?v48) rfl (by kernel_rfl) (by kernel_rfl) (by kernel_rfl) (by kernel_rfl) (fun _ _ _ h => h) (Or.inl ⟨by rfl, ?hy48⟩) hH ?rest48
      case hy48 => (intro w hSw; (try dsimp only at hSw); go_simp; with_reducible rfl)
      try simp only [Act.put, List.setIfInBounds_toArray, List.set_cons_zero, List.set_cons_succ]
      refine wpAnyK_take (i := 12) [18] (v := ?v49) rfl (by kernel_rfl) (by kernel_rfl) (by kernel_rfl) (by kernel_rfl) (fun _ _ _ h => h) (Or.inl ⟨by rfl, ?hy49⟩) hH ?rest49
      case hy49 => (intro w hSw; (try dsimp only at hSw); go_simp; with_reducible rfl)
      try simp only [Act.put, List.setIfInBounds_toArray, List.set_cons_zero, List.set_cons_succ]
      refine wpAnyK_take (i := 13) [18] (v := ?v50) rfl (by kernel_rfl) (by kernel_rfl) (by kernel_rfl) (by kernel_rfl) (fun _ _ _ h => h) (Or.inl ⟨by rfl, ?hy50⟩) hH ?rest50
      case hy50 => (intro w hSw; (try dsimp only at hSw); go_simp; with_reducible rfl)
      try simp only [Act.put, List.setIfInBounds_toArray, List.set_cons_zero, List.set_cons_succ]
      refine wpAnyK_take (i := 14) [18] (v := ?v51) rfl (by kernel_rfl) (by kernel_rfl) (by kernel_rfl) (by kernel_rfl) (fun _ _ _ h => h) (Or.inl ⟨by rfl, ?hy51⟩) hH ?rest51
      case hy51 => (intro w hSw; (try dsimp only at hSw); go_simp; with_reducible rfl)
      try simp only [Act.put, List.setIfInBounds_toArray, List.set_cons_zero, List.set_cons_succ]
      refine wpAnyK_one (i := 7) (by kernel_rfl) rfl (fun K hK => ?_) (by kernel_rfl)
      refine step_app eLse rfl _ _ rfl rfl rfl (v := .slice none 0 0) (l := []) (l2 := M.take i) (B := w.heap.size) (World.ownsRow_nil _ _ _ _) (by have h9 := HX.out.1; rw [← HX.out.2.2.1] at h9 ⊢; exact h9) (by rw [HL3.out]; omega) (Nat.le_refl _) ?_
      rw [HL3.out, List.nil_append]
      intro a3 cap3 w3 ho3 hb3 _ _
      have H3 := Lib.hid (And.intro ho3 hb3)
      have d3 : w3.cell? ⟨rb, 0, none⟩ = some (.slice (some ⟨g, 0, none⟩) n cap) := (hb3.cell (p := ⟨rb, 0, none⟩) H.out.1.ltb).trans c0'
      clear ho3 hb3
      refine hK.out _ _ d3 (fun hH => ?_)
      clear hK K
      try simp only [Act.put, List.setIfInBounds_toArray, List.set_cons_zero, List.set_cons_succ]
      refine wpAnyK_one (i := 15) (by kernel_rfl) rfl (fun K hK => ?_) (by kernel_rfl)
      refine step_app eLse rfl _ _ rfl rfl rfl (v := .slice a3 i cap3) (l := M.take i) (l2 := M.drop (i + 1)) (B := w.heap.size) (by have h9 := H3.out.1; exact h9) (by
        have h9 := HX.out.2.1
        rw [← HX.out.2.2.2.1] at h9 ⊢
        refine h9.imp id ?_
        rintro ⟨ad, c, e, hc⟩
        refine ⟨ad, c, e, fun j u hj => ?_⟩
        have h8 := hc j u hj
        exact (H3.out.2.cell (p := ad.add j) (World.block_lt_of_cell? _ _ h8)).trans h8) (by rw [HX.out.2.2.1, HX.out.2.2.2.1]; have := HLIM.out; omega) H3.out.2.size ?_
      rw [HX.out.2.2.1, HX.out.2.2.2.1]
      intro a5 cap5 w5 ho5 hb5 _ _
      have H5 := Lib.hid (And.intro ho5 (H3.out.2.trans hb5))
      have d5 : w5.cell? ⟨rb, 0, none⟩ = some (.slice (some ⟨g, 0, none⟩) n cap) := (H5.out.2.cell (p := ⟨rb, 0, none⟩) H.out.1.ltb).trans c0
      have z5 : w5.frozen? ⟨rb, 0, none⟩ = false := (H5.out.2.frozen (p := ⟨rb, 0, none⟩) H.out.1.ltb).trans (H.out.1.fz 0)
      clear ho5 hb5
      refine hK.out _ _ d5 (fun hH => ?_)
      clear hK K
      try simp only [Act.put, List.setIfInBounds_toArray, List.set_cons_zero, List.set_cons_succ]
      refine wpAnyK_take (i := 16) [17, 18] (v := ?v52) rfl (by kernel_rfl) (by kernel_rfl) (by kernel_rfl) (by kernel_rfl) (fun _ _ _ h => h) (Or.inl ⟨by rfl, ?hy52⟩) hH ?rest52
      case hy52 => (intro w hSw; (try dsimp only at hSw); go_simp; with_reducible rfl)
      try simp only [Act.put, List.setIfInBounds_toArray, List.set_cons_zero, List.set_cons_succ]
      refine wpAnyK_take (i := 17) [18] (v := ?v53) rfl (by kernel_rfl) (by kernel_rfl) (by kernel_rfl) (by kernel_rfl) (fun _ _ _ h => h) (Or.inl ⟨by rfl, ?hy53⟩) hH ?rest53
      case hy53 => (intro w hSw; (try dsimp only at hSw); go_simp; with_reducible rfl)
      try simp only [Act.put, List.setIfInBounds_toArray, List.set_cons_zero, List.set_cons_succ]
      refine wpAnyK_last (by kernel_rfl) rfl (fun K hK => ?_) (by kernel_rfl)
      go_simp
      refine hK.out _ _ (wpAnyK_done (by kernel_rfl) ?_ _)
      clear hK K hH
      go_wp2
      all_goals
        go_ret
        have hb9 := (Below.refl w.heap.size w).drew.trans H5.out.2
        have hR := RlStep.relist H.out.1 H.out.2 hb9 H5.out.1 (fun x hx => (H.out.1.below hb9).rd x ((List.mem_append.1 hx).elim List.mem_of_mem_take List.mem_of_mem_drop)) HX.out.2.2.2.2
        rw [List.map_append, List.map_take, List.map_drop] at hR
        exact ⟨rfl, hR⟩
end Go.Proofs.YtnegappgdpeabaaGreat
/-
  LeasePlays: the document's leases: Acquire.
-/
namespace Go.Proofs.YtnegappgdpeabaaGreat
open Go.RowKit
variable {w w' w0 w1 w2 w3 w4 : World} {rb B : Nat} {lv lv' : Value} {M : List Lv} {last now : Int} {F F' G : Nat → Prop} {L : List Cr}

theorem liveC_snoc {i : Nat} (hi : i < M.length) (now : Int) : (liveC now ((M.take (i + 1)).map core)).length = (liveC now ((M.take i).map core)).length + (if now < M[i].till then 1 else 0) := by
  rw [List.take_succ_eq_append_getElem hi, List.map_append]
  unfold liveC
  rw [List.filter_append, List.length_append]
  congr 1
  by_cases h : now < M[i].till
  · rw [if_pos h]
    have : decide (now < (core M[i]).2.2) = true := decide_eq_true h
    simp [this]
  · rw [if_neg h]
    have : decide (now < (core M[i]).2.2) = false := decide_eq_false h
    simp [this]
/-- A vector of one's own can be read. -/
theorem rdX_own {id t : Int} {a : Option Addr} {c n : Nat} {vs : List Int} (ho : Own eVec w B (.slice a n c) vs) (hF : ∀ q, F q → q < B) : RdX F w ⟨id, a, c, vs, t⟩ := by
  obtain ⟨a', c', e, h⟩ := rdI_own ho
  injection e with e1 _ _
  refine h.imp _root_.id ?_
  rintro ⟨b, off, rfl, hlt, hc⟩
  subst e1
  refine ⟨b, off, rfl, fun hf => ?_, hlt, hc⟩
  have := (ho.lt b rfl).1
  have := hF b hf
  omega
set_option maxRecDepth 100000 in
set_option maxHeartbeats 4000000 in
theorem rlacquire_any (h : RlAt F w rb lv M last) (hF : ∀ q, F q → q < w.heap.size) (hl : last < 1000000) {xa : Option Addr} {xc : Nat} {vs : List Int} (hx : RdX (fun q => q = rb) w ⟨0, xa, xc, vs, 0⟩) (hvl : vs.length ≤ 1000000) (ttl now : Int) :
    Calls Tryz.prog 8 #[.pointer (some ⟨rb, 0, none⟩), .slice xa vs.length xc, .int .i64 ttl, .int .i64 now] w fun e w' =>
      (acqB (M.map core) vs ttl now ≠ 0 ∧ e = .returned (.tuple #[.int .i64 0, .int .i64 (acqB (M.map core) vs ttl now)]) ∧ w' = w) ∨
      (acqB (M.map core) vs ttl now = 0 ∧ e = .returned (.tuple #[.int .i64 (last + 1), .int .i64 0]) ∧
        ∃ lv' M', RlAt F w' rb lv' M' (last + 1) ∧ M'.map core = liveC now (M.map core) ++ [(last + 1, vs, tillZ ttl now)] ∧ Tn (fun q => q = rb) w w') := by
  have hV := rvalid_any hx.rd hvl
  have hR := rright_any ttl now
  have hl0 := h.fit.la.1
  obtain ⟨nv, hnv⟩ : ∃ nv, vs.length = nv := ⟨_, rfl⟩
  have hV2 : Calls Tryz.prog 32 #[.slice xa nv xc] w fun e w' => e = .returned (.bool (validB vs)) ∧ w = w' := by rw [← hnv]; exact hV
  rw [hnv]
  clear hV
  cases hv : validB vs with
  | false =>
    rw [hv] at hV2
    rw [acqB_arg (.inl hv)]
    clear h hx hv hF hnv hR
    go_enter Tryz.func8, Tryz.ntmps8
    go_wp2_with (go_at_call 32; refine hV2.mono ?_; rintro e v2 ⟨rfl, rfl⟩)
    go_ret2
    exact .inl ⟨by decide, rfl, rfl⟩
  | true =>
    rw [hv] at hV2
    cases hr : rightB ttl now with
    | false =>
      rw [hr] at hR
      rw [acqB_arg (.inr hr)]
      clear h hx hv hF hnv hr
      go_enter Tryz.func8, Tryz.ntmps8
      go_wp2_with (first
        | (go_at_call 33; refine (hR _).mono ?_; rintro e v1 ⟨rfl, rfl⟩)
        | (go_at_call 32; refine hV2.mono ?_; rintro e v2 ⟨rfl, rfl⟩))
      go_ret2
      exact .inl ⟨by decide, rfl, rfl⟩
    | true =>
      rw [hr] at hR
      have hacq : acqB (M.map core) vs ttl now = if 16 ≤ (liveC now (M.map core)).length then 24 else 0 := by unfold acqB; rw [if_neg (by rw [hv, hr]; simp)]
      have hU := fun w => until_any hr w
      have htf := till_fit hr
      obtain ⟨tz, htz⟩ : ∃ tz, tillZ ttl now = tz := ⟨_, rfl⟩
      simp only [htz] at hU htf ⊢
      have c0 := h.c0
      have c1 := h.c1
      have hrb := h.ltb
      obtain ⟨a0, cap0, hlv, _, _⟩ := rl_form h
      obtain ⟨n, hn⟩ : ∃ n, M.length = n := ⟨_, rfl⟩
      rw [hn] at hlv
      rw [hlv] at c0
      have hn16 : n ≤ 16 := by rw [← hn]; exact h.few
      have hEx := rlexpire_any h hF now
      have H := Lib.hid (And.intro h (And.intro hF (And.intro hx (And.intro hv (And.intro hnv (And.intro hn (And.intro htf (And.intro hacq hEx))))))))
      clear h hF hx hv hr hnv hn htf hacq hlv hEx htz
      go_enter Tryz.func8, Tryz.ntmps8
      go_wp2_with (first
        | (go_at_call 33; refine (hR _).mono ?_; rintro e v1 ⟨rfl, rfl⟩)
        | (go_at_call 32; refine hV2.mono ?_; rintro e v2 ⟨rfl, rfl⟩))
      clear hV2 hR
      go_loopw [10, 11] (fun nv iv wr => ∃ i : Nat, i ≤ n ∧ iv = .int .i64 (i : Int) ∧ nv = .int .i64 ((liveC now ((M.take i).map core)).length : Int) ∧ wr = w) (fun _ iv _ => n - (intOf iv).toNat)
      case atStart => exact ⟨0, by omega, rfl, rfl, rfl⟩
      case round =>
        obtain ⟨i, hi, rfl, rfl, rfl⟩ := hrel
        obtain ⟨k, hk⟩ : ∃ k, (liveC now ((M.take i).map core)).length = k := ⟨_, rfl⟩
        have hk16 : k ≤ 16 := by
          rw [← hk]
          refine Nat.le_trans (List.length_filter_le _ _) ?_
          rw [List.length_map, List.length_take]
          omega
        have HK := Lib.hid hk
        simp only [hk]
        by_cases hlt : i < n
        · have hil : i < M.length := by have := H.out.2.2.2.2.2.1; omega
          have hO := rover_any H.out.1 hil now
          have hst := liveC_snoc hil now
          rw [hk] at hst
          obtain ⟨t, ht⟩ : ∃ t, M[i].till = t := ⟨_, rfl⟩
          rw [ht] at hO hst
          have r1 : (i : Int) < (n : Int) := by omega
          clear ht hk hil
          by_cases hto : t ≤ now
          · rw [decide_eq_true hto] at hO
            rw [if_neg (by omega)] at hst
            have HST := Lib.hid hst
            clear hst
            go_wp2_with (go_at_call 34; refine hO.mono ?_; rintro e v1 ⟨rfl, rfl⟩)
            go_roundw
            case rel => exact ⟨i + 1, by omega, by go_num, by rw [HST.out]; rfl, by first | rfl | trivial⟩
            case measure => simp [intOf]; omega
          · rw [decide_eq_false hto] at hO
            rw [if_pos (by omega)] at hst
            have HST := Lib.hid hst
            clear hst
            go_wp2_with (go_at_call 34; refine hO.mono ?_; rintro e v1 ⟨rfl, rfl⟩)
            go_roundw
            case rel => exact ⟨i + 1, by omega, by go_num, by rw [HST.out]; go_num, by first | rfl | trivial⟩
            case measure => simp [intOf]; omega
        · obtain rfl : i = n := by omega
          have hall : M.take i = M := List.take_of_length_le (by have := H.out.2.2.2.2.2.1; omega)
          rw [hall] at hk
          have HK2 := Lib.hid hk
          clear hk hall
          by_cases h16 : 16 ≤ k
          · have r1 : (16 : Int) ≤ (k : Int) := by omega
            go_wp2
            go_ret2
            refine .inl ⟨?_, ?_, rfl⟩
            · rw [H.out.2.2.2.2.2.2.2.1, HK2.out, if_pos h16]; decide
            · rw [H.out.2.2.2.2.2.2.2.1, HK2.out, if_pos h16]; rfl
          · have r1 : ¬ (16 : Int) ≤ (k : Int) := by omega
            have hacq0 : acqB (M.map core) vs ttl now = 0 := by rw [H.out.2.2.2.2.2.2.2.1, HK2.out, if_neg h16]
            have HA0 := Lib.hid hacq0
            clear hacq0
            go_wp2_with fail
            refine H.out.2.2.2.2.2.2.2.2.mono ?_
            rintro e w1 ⟨ea, ec, rfl, -, lv1, M1, hr1, hm1, ht1⟩
            obtain ⟨a1, cap1, hlv1, -, -⟩ := rl_form hr1
            obtain ⟨n1, hn1⟩ : ∃ n1, M1.length = n1 := ⟨_, rfl⟩
            rw [hn1] at hlv1
            have hn1l : n1 < 16 := by
              have := congrArg List.length hm1
              rw [List.length_map, HK2.out, hn1] at this
              omega
            have d0 := hr1.c0
            rw [hlv1] at d0
            have d1 := hr1.c1
            have dz := hr1.fz 1
            have dz0 := hr1.fz 0
            have hw : IntKind.i64.wrap (last + 1) = last + 1 := IntWalk.i64_in _ (by omega)
            have hx1 : RdX (fun q => q = rb) w1 ⟨0, xa, xc, vs, 0⟩ := H.out.2.2.1.tn ht1 (fun q _ e => e)
            obtain ⟨W2, hW2⟩ : ∃ W2, w1.setCell ⟨rb, 1, none⟩ (.int .i64 (last + 1)) = W2 := ⟨_, rfl⟩
            have ts : Tn (fun q => q = rb) w1 W2 := by rw [← hW2]; exact Tn.setCell _ _ _ rfl
            have e0 : W2.cell? ⟨rb, 0, none⟩ = some (.slice a1 n1 cap1) := by rw [← hW2, World.cell?_setCell_other _ _ _ _ (by intro e; injection e with _ e2; omega)]; exact d0
            have e1 : W2.cell? ⟨rb, 1, none⟩ = some (.int .i64 (last + 1)) := by rw [← hW2]; exact World.cell?_setCell_same _ _ _ d1
            have e2 : ∀ j, W2.frozen? ⟨rb, j, none⟩ = false := fun j => by rw [← hW2]; exact (World.frozen?_setCell _ _ _ _).trans (hr1.fz j)
            have hx2 : RdI W2 (.slice xa nv xc) vs := by
              have := (hx1.tn ts (fun q _ e => e)).rd
              rw [← H.out.2.2.2.2.1]
              exact this
            have row2 : Own eLse W2 0 (.slice a1 n1 cap1) M1 := by
              have := ts.row hr1.row (fun q hq e => hr1.nf q hq (e ▸ hr1.fr))
              rw [hlv1] at this
              rw [← hn1] at this ⊢
              exact this
            have rd2 : ∀ x ∈ M1, RdX F W2 x := fun x hx => (hr1.rd x hx).tn ts (fun q _ e => e ▸ hr1.fr)
            have hrb2 : rb < W2.heap.size := World.block_lt_of_cell? _ _ e0
            have hnil : ([] : List Lv).length + M1.length = n1 := by rw [hn1]; simp
            have hv1 : 1 ≤ vs.length ∧ vs.length ≤ 8 := by
              have := H.out.2.2.2.1
              simp only [validB, Bool.and_eq_true, decide_eq_true_eq] at this
              exact this.1
            have H2 := Lib.hid (And.intro (ht1.trans ts) (And.intro row2 (And.intro rd2 (And.intro hx2 (And.intro hnil (And.intro hn1 (And.intro hm1 (And.intro hr1.fit (And.intro hv1 e2)))))))))
            have HN1 := Lib.hid hn1l
            clear hx1 ts hx2 row2 rd2 hr1 hm1 ht1 hlv1 hn1 hnil hv1 e2 hn1l
            have i0 : W2.drew.cell? ⟨rb, 0, none⟩ = some (.slice a1 n1 cap1) := e0
            have i1 : W2.drew.cell? ⟨rb, 1, none⟩ = some (.int .i64 (last + 1)) := e1
            go_wp2_with fail
            try rw [hW2]
            clear hW2 d0 d1 dz dz0
            refine wp_region_K (fun w' => w'.cell? ⟨rb, 0, none⟩ = some (.slice a1 n1 cap1) ∧ w'.cell? ⟨rb, 1, none⟩ = some (.int .i64 (last + 1))) 20 21 (by kernel_rfl) (by kernel_rfl) ⟨i0, i1⟩ (fun hH => ?_)
            refine wpAnyK_take (i := 0) [20] (v := ?v54) rfl (by kernel_rfl) (by kernel_rfl) (by kernel_rfl) (by kernel_rfl) (fun _ _ _ h => h) (Or.inl ⟨by rfl, ?hy54⟩) hH ?rest54
            case hy54 => (intro w hSw; (try dsimp only at hSw); go_simp; with_reducible rfl)
            try simp only [Act.put, List.setIfInBounds_toArray, List.set_cons_zero, List.set_cons_succ]
            refine wpAnyK_take (i := 1) [20] (v := ?v55) rfl (by kernel_rfl) (by kernel_rfl) (by kernel_rfl) (by kernel_rfl) (fun _ _ _ h => h) (Or.inl ⟨by rfl, ?hy55⟩) hH ?rest55
            case hy55 => (intro w hSw; (try dsimp only at hSw); go_simp; with_reducible rfl)
            try simp only [Act.put, List.setIfInBounds_toArray, List.set_cons_zero, List.set_cons_succ]
            refine wpAnyK_take (i := 2) [20] (v := ?v56) rfl (by kernel_rfl) (by kernel_rfl) (by kernel_rfl) (by kernel_rfl) (fun _ _ _ h => h) (Or.inl ⟨by rfl, ?hy56⟩) hH ?rest56
            case hy56 => (intro w hSw; (try dsimp only at hSw); go_simp; with_reducible rfl)
            try simp only [Act.put, List.setIfInBounds_toArray, List.set_cons_zero, List.set_cons_succ]
            refine wpAnyK_take (i := 3) [20] (v := ?v57) rfl (by kernel_rfl) (by kernel_rfl) (by kernel_rfl) (by kernel_rfl) (fun _ _ _ h => h) (Or.inl ⟨by rfl, ?hy57⟩) hH ?rest57
            case hy57 => (intro w hSw; (try dsimp only at hSw); go_simp; with_reducible rfl)
            try simp only [Act.put, List.setIfInBounds_toArray, List.set_cons_zero, List.set_cons_succ]
            refine wpAnyK_take (i := 4) [20] (v := ?v58) rfl (by kernel_rfl) (by kernel_rfl) (by kernel_rfl) (by kernel_rfl) (fun _ _ _ h => h) (Or.inl ⟨by rfl, ?hy58⟩) hH ?rest58
            case hy58 => (intro w hSw; (try dsimp only at hSw); go_simp; with_reducible rfl)
            try simp only [Act.put, List.setIfInBounds_toArray, List.set_cons_zero, List.set_cons_succ]
            refine wpAnyK_take (i := 6) [20] (v := ?v59) rfl (by kernel_rfl) (by kernel_rfl) (by kernel_rfl) (by kernel_rfl) (fun _ _ _ h => h) (Or.inl ⟨by rfl, ?hy59⟩) hH ?rest59
            case hy59 => (intro w hSw; (try dsimp only at hSw); go_simp; with_reducible rfl)
            try simp only [Act.put, List.setIfInBounds_toArray, List.set_cons_zero, List.set_cons_succ]
            refine wpAnyK_take (i := 7) [20] (v := ?v60) rfl (by kernel_rfl) (by kernel_rfl) (by kernel_rfl) (by kernel_rfl) (fun _ _ _ h => h) (Or.inl ⟨by rfl, ?hy60⟩) hH ?rest60
            case hy60 => (intro w hSw; (try dsimp only at hSw); go_simp; with_reducible rfl)
            try simp only [Act.put, List.setIfInBounds_toArray, List.set_cons_zero, List.set_cons_succ]
            refine wpAnyK_take (i := 8) [20] (v := ?v61) rfl (by kernel_rfl) (by kernel_rfl) (by kernel_rfl) (by kernel_rfl) (fun _ _ _ h => h) (Or.inl ⟨by rfl, ?hy61⟩) hH ?rest61
            case hy61 => (intro w hSw; (try dsimp only at hSw); go_simp; with_reducible rfl)
            try simp only [Act.put, List.setIfInBounds_toArray, List.set_cons_zero, List.set_cons_succ]
            refine wpAnyK_take (i := 9) [20] (v := ?v62) rfl (by kernel_rfl) (by kernel_rfl) (by kernel_rfl) (by kernel_rfl) (fun _ _ _ h => h) (Or.inl ⟨by rfl, ?hy62⟩) hH ?rest62
            case hy62 => (intro w hSw; (try dsimp only at hSw); go_simp; with_reducible rfl)
            try simp only [Act.put, List.setIfInBounds_toArray, List.set_cons_zero, List.set_cons_succ]
            refine wpAnyK_take (i := 10) [20] (v := ?v63) rfl (by kernel_rfl) (by kernel_rfl) (by kernel_rfl) (by kernel_rfl) (fun _ _ _ h => h) (Or.inl ⟨by rfl, ?hy63⟩) hH ?rest63
            case hy63 => (intro w hSw; (try dsimp only at hSw); go_simp; with_reducible rfl)
            try simp only [Act.put, List.setIfInBounds_toArray, List.set_cons_zero, List.set_cons_succ]
            refine wpAnyK_take (i := 12) [20] (v := ?v64) rfl (by kernel_rfl) (by kernel_rfl) (by kernel_rfl) (by kernel_rfl) (fun _ _ _ h => h) (Or.inl ⟨by rfl, ?hy64⟩) hH ?rest64
            case hy64 => (intro w hSw; (try dsimp only at hSw); go_simp; with_reducible rfl)
            try simp only [Act.put, List.setIfInBounds_toArray, List.set_cons_zero, List.set_cons_succ]
            refine wpAnyK_take (i := 13) [20] (v := ?v65) rfl (by kernel_rfl) (by kernel_rfl) (by kernel_rfl) (by kernel_rfl) (fun _ _ _ h => h) (Or.inl ⟨by rfl, ?hy65⟩) hH ?rest65
            case hy65 => (intro w hSw; (try dsimp only at hSw); go_simp; with_reducible rfl)
            try simp only [Act.put, List.setIfInBounds_toArray, List.set_cons_zero, List.set_cons_succ]
            refine wpAnyK_one (i := 5) (by kernel_rfl) rfl (fun K hK => ?_) (by kernel_rfl)
            refine step_app eLse rfl _ _ rfl rfl rfl (v := .slice none 0 0) (l := []) (l2 := M1) (B := W2.heap.size) (World.ownsRow_nil _ _ _ _) (by have h9 := Own.src H2.out.2.1; exact h9) (by rw [H2.out.2.2.2.2.1]; have := HN1.out; omega) (Nat.le_refl _) ?_
            rw [H2.out.2.2.2.2.1, List.nil_append]
            intro a3 cap3 w3 ho3 hb3 _ _
            have H3 := Lib.hid (And.intro ho3 ((Below.refl _ _).drew.trans hb3))
            clear ho3 hb3
            have j0 := (H3.out.2.cell (p := ⟨rb, 0, none⟩) hrb2).trans e0
            have j1 := (H3.out.2.cell (p := ⟨rb, 1, none⟩) hrb2).trans e1
            refine hK.out _ _ ⟨j0, j1⟩ (fun hH => ?_)
            clear hK K
            try simp only [Act.put, List.setIfInBounds_toArray, List.set_cons_zero, List.set_cons_succ]
            refine wpAnyK_one (i := 11) (by kernel_rfl) rfl (fun K hK => ?_) (by kernel_rfl)
            go_simp
            go_at_call 35
            refine (rcopy_any (H2.out.2.2.2.1.below H3.out.2) H2.out.2.2.2.2.2.2.2.2.1.1 (by have := H2.out.2.2.2.2.2.2.2.2.1.2; omega)).mono ?_
            rintro e w4 ⟨ca, cc, rfl, ho4, hb4⟩
            have H4 := Lib.hid (And.intro ho4 (And.intro hb4 (H3.out.2.trans (hb4.mono H3.out.2.size))))
            clear ho4 hb4
            have k0 := (H4.out.2.2.cell (p := ⟨rb, 0, none⟩) hrb2).trans e0
            have k1 := (H4.out.2.2.cell (p := ⟨rb, 1, none⟩) hrb2).trans e1
            refine hK.out _ _ ⟨k0, k1⟩ (fun hH => ?_)
            clear hK K
            try simp only [Act.put, List.setIfInBounds_toArray, List.set_cons_zero, List.set_cons_succ]
            refine wpAnyK_one (i := 14) (by kernel_rfl) rfl (fun K hK => ?_) (by kernel_rfl)
            go_simp
            go_at_call 36
            refine (hU _).mono ?_
            rintro e v5 ⟨rfl, rfl⟩
            refine hK.out _ _ ⟨k0, k1⟩ (fun hH => ?_)
            clear hK K
            try simp only [Act.put, List.setIfInBounds_toArray, List.set_cons_zero, List.set_cons_succ]
            refine wpAnyK_take (i := 15) [20] (v := ?v66) rfl (by kernel_rfl) (by kernel_rfl) (by kernel_rfl) (by kernel_rfl) (fun _ _ _ h => h) (Or.inl ⟨by rfl, ?hy66⟩) hH ?rest66
            case hy66 => (intro w hSw; (try dsimp only at hSw); go_simp; with_reducible rfl)
            try simp only [Act.put, List.setIfInBounds_toArray, List.set_cons_zero, List.set_cons_succ]
            refine wpAnyK_one (i := 16) (by kernel_rfl) rfl (fun K hK => ?_) (by kernel_rfl)
            go_simp
            obtain ⟨w6, hw6⟩ : ∃ w6, w6 = w4.alloc (.cells #[.int .i64 (last + 1), .slice ca nv cc, .int .i64 tz] 65) := ⟨_, rfl⟩
            have hb6 : Below w4.heap.size w4 w6 := by rw [hw6]; exact (Below.refl _ _).alloc (Nat.le_refl _) _
            have hsrc6 : Src eLse w6 (.slice (some ⟨w4.heap.size, 0, none⟩) 1 1) [⟨last + 1, ca, cc, vs, tz⟩] := by rw [hw6]; exact src_one w4 _ _ _ (by show [Value.int .i64 (last + 1), Value.slice ca vs.length cc, Value.int .i64 tz] = _; rw [H.out.2.2.2.2.1]) 1
            rw [← hw6]
            clear hw6
            have m0 := (hb6.cell (p := ⟨rb, 0, none⟩) (World.block_lt_of_cell? _ _ k0)).trans k0
            have m1 := (hb6.cell (p := ⟨rb, 1, none⟩) (World.block_lt_of_cell? _ _ k1)).trans k1
            have H6 := Lib.hid (And.intro hb6 (And.intro hsrc6 (row_below (row_below H3.out.1 H4.out.2.1) hb6)))
            clear hb6 hsrc6
            refine hK.out _ _ ⟨m0, m1⟩ (fun hH => ?_)
            clear hK K
            try simp only [Act.put, List.setIfInBounds_toArray, List.set_cons_zero, List.set_cons_succ]
            refine wpAnyK_one (i := 17) (by kernel_rfl) rfl (fun K hK => ?_) (by kernel_rfl)
            refine step_app eLse rfl _ _ rfl rfl rfl (v := .slice a3 n1 cap3) (l := M1) (B := W2.heap.size) (by have h9 := H6.out.2.2; exact h9) H6.out.2.1 (by rw [H2.out.2.2.2.2.2.1]; have := HN1.out; simp; omega) (by have h8 := H4.out.2.2.size; have h9 := H6.out.1.size; omega) ?_
            rw [H2.out.2.2.2.2.2.1]
            intro a7 cap7 w7 ho7 hb7 hg7 _
            have hb67 : Below W2.heap.size W2 w7 := (H4.out.2.2.trans (H6.out.1.mono H4.out.2.2.size)).trans hb7
            have n0 := (hb67.cell (p := ⟨rb, 0, none⟩) hrb2).trans e0
            have n1' := (hb67.cell (p := ⟨rb, 1, none⟩) hrb2).trans e1
            have nz : w7.frozen? ⟨rb, 0, none⟩ = false := (hb67.frozen (p := ⟨rb, 0, none⟩) hrb2).trans (H2.out.2.2.2.2.2.2.2.2.2 0)
            have o7 : Own eVec w7 w3.heap.size (.slice ca nv cc) vs := (Tn.ofGrown (F := fun q => (Value.slice a3 n1 cap3).ownBlock = some q) hg7 (fun q hq => hq)).row (row_below H4.out.1 H6.out.1) (fun q hq e => by have := (H4.out.1.lt q hq).1; have := (H3.out.1.lt q e).2; omega)
            have H7 := Lib.hid (And.intro ho7 (And.intro hb67 o7))
            clear ho7 hb7 hg7 hb67 o7
            refine hK.out _ _ ⟨n0, n1'⟩ (fun hH => ?_)
            clear hK K
            try simp only [Act.put, List.setIfInBounds_toArray, List.set_cons_zero, List.set_cons_succ]
            refine wpAnyK_take (i := 18) [19, 20] (v := ?v67) rfl (by kernel_rfl) (by kernel_rfl) (by kernel_rfl) (by kernel_rfl) (fun _ _ _ h => h) (Or.inl ⟨by rfl, ?hy67⟩) hH ?rest67
            case hy67 => (intro w hSw; (try dsimp only at hSw); go_simp; with_reducible rfl)
            try simp only [Act.put, List.setIfInBounds_toArray, List.set_cons_zero, List.set_cons_succ]
            refine wpAnyK_take (i := 19) [20] (v := ?v68) rfl (by kernel_rfl) (by kernel_rfl) (by kernel_rfl) (by kernel_rfl) (fun _ _ _ h => h) (Or.inl ⟨by rfl, ?hy68⟩) hH ?rest68
            case hy68 => (intro w hSw; (try dsimp only at hSw); go_simp; with_reducible rfl)
            try simp only [Act.put, List.setIfInBounds_toArray, List.set_cons_zero, List.set_cons_succ]
            refine wpAnyK_last (by kernel_rfl) rfl (fun K hK => ?_) (by kernel_rfl)
            go_simp
            refine hK.out _ _ (wpAnyK_done (by kernel_rfl) ?_ _)
            clear hK K hH
            obtain ⟨W8, hW8⟩ : ∃ W8, w7.setCell ⟨rb, 0, none⟩ (.slice a7 (n1 + 1) cap7) = W8 := ⟨_, rfl⟩
            have t8 : Tn (fun q => q = rb) w7 W8 := by rw [← hW8]; exact Tn.setCell _ _ _ rfl
            have p0 : W8.cell? ⟨rb, 0, none⟩ = some (.slice a7 (n1 + 1) cap7) := by rw [← hW8]; exact World.cell?_setCell_same _ _ _ n0
            have p1 : W8.cell? ⟨rb, 1, none⟩ = some (.int .i64 (last + 1)) := by rw [← hW8, World.cell?_setCell_other _ _ _ _ (by intro e; injection e with _ e2; omega)]; exact n1'
            have pz : ∀ j, W8.frozen? ⟨rb, j, none⟩ = false := fun j => by rw [← hW8]; exact (World.frozen?_setCell _ _ _ _).trans ((H7.out.2.1.frozen (p := ⟨rb, j, none⟩) hrb2).trans (H2.out.2.2.2.2.2.2.2.2.2 j))
            rw [hW8]
            have H8 := Lib.hid (And.intro t8 (And.intro p0 (And.intro p1 pz)))
            clear hW8 t8 p0 pz n0 n1' nz
            go_wp2
            go_ret2
            have hz2 : wr.heap.size ≤ W2.heap.size := H2.out.1.size
            have hF8 : ∀ q, F q → q < W2.heap.size := fun q hq => Nat.lt_of_lt_of_le (H.out.2.1 q hq) hz2
            have hFr := H.out.1.fr
            have hcm : (M1 ++ [(⟨last + 1, ca, cc, vs, tz⟩ : Lv)]).map core = liveC now (M.map core) ++ [(last + 1, vs, tz)] := by rw [List.map_append, H2.out.2.2.2.2.2.2.1]; rfl
            refine .inr ⟨HA0.out, rfl, .slice a7 (n1 + 1) cap7, M1 ++ [⟨last + 1, ca, cc, vs, tz⟩], ⟨H8.out.2.1, H8.out.2.2.1, H8.out.2.2.2, ?_, fun q hq e => ?_, hFr, fun x hx => ?_, ?_⟩, hcm, ?_⟩
            · exact H8.out.1.row (row_mono H7.out.1 (Nat.zero_le _)) (fun q hq e => by have := (H7.out.1.lt q hq).1; omega)
            · have := (H7.out.1.lt q hq).1
              have := hF8 q e
              omega
            · refine RdX.tn (G := fun q => q = rb) ?_ H8.out.1 (fun q _ e => e ▸ hFr)
              rcases List.mem_append.1 hx with hx | hx
              · exact (H2.out.2.2.1 x hx).tn (Tn.ofBelow (F := fun _ => False) H7.out.2.1) (fun _ _ e => e.elim)
              · rw [List.mem_singleton.1 hx]
                exact rdX_own H7.out.2.2 (fun q hq => Nat.lt_of_lt_of_le (hF8 q hq) H3.out.2.size)
            · rw [hcm]
              rw [← H2.out.2.2.2.2.2.2.1]
              exact Fit.add H2.out.2.2.2.2.2.2.2.1 (by omega) H.out.2.2.2.1 H.out.2.2.2.2.2.2.1 (by rw [List.length_map, H2.out.2.2.2.2.2.1]; exact HN1.out)
            · exact (H2.out.1.trans (Tn.ofBelow H7.out.2.1)).trans H8.out.1
end Go.Proofs.YtnegappgdpeabaaGreat
