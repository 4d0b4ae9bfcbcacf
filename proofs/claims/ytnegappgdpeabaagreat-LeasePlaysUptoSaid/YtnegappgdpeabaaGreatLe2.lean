import Derived.Test.YtnegappgdpeabaaGreatLe1
import Derived.Test.YtnegappgdpeabaaGreatMpS
import Derived.WalkSpells
import Derived.Test.YtnegappgdpeabaaGreatGen
import Derived.Sort.OwnSorted
import Derived.Lib.OwnBridge
set_option linter.unusedSimpArgs false
set_option linter.unusedVariables false
/-
  Lease: what asks no leases: times and vectors.
-/
namespace Go.Proofs.YtnegappgdpeabaaGreat
open Go.RowKit

/-- Numbers that can be read. -/
def RdI (w : World) (x : Value) (l : List Int) : Prop := ∃ a c, x = .slice a l.length c ∧ (l = [] ∨ ∃ b off, a = some ⟨b, off, none⟩ ∧ b < w.heap.size ∧ ∀ i (hi : i < l.length), w.cell? ⟨b, off + i, none⟩ = some (.int .i64 l[i]))
theorem RdI.below {w w' : World} {x : Value} {l : List Int} (h : RdI w x l) (hb : Below w.heap.size w w') : RdI w' x l := by
  obtain ⟨a, c, hx, h⟩ := h
  refine ⟨a, c, hx, h.imp id ?_⟩
  rintro ⟨b, off, ha, hlt, hc⟩
  exact ⟨b, off, ha, Nat.lt_of_lt_of_le hlt hb.size, fun i hi => (hb.cell (p := ⟨b, off + i, none⟩) hlt).trans (hc i hi)⟩

theorem info_int : (Tryz.prog.info? 3).map (fun i => (i.zero, i.size, i.bytes)) = some (some (.int .i64 0), 1, 8) := by kernel_rfl
/-- Slices of numbers, as vectors. -/
theorem eVec : Elm Tryz.prog 51 3 1 8 (fun k : Int => [.int .i64 k]) where
  und := Tryz.underlying51
  info := by
    obtain ⟨i0, hi0, hz0, hs0, hy0⟩ := info_parts info_int
    exact ⟨i0, _, hi0, hz0, hs0, hy0, rfl⟩
  pos := by decide
  few := by decide
  len _ := rfl
  one := by
    intro x u hu
    rw [List.mem_singleton] at hu
    subst hu
    rfl
theorem rdI_own {w : World} {B : Nat} {v : Value} {l : List Int} (h : Own eVec w B v l) : RdI w v l := by
  have h0 := h
  obtain ⟨h1, h2⟩ := h
  rcases h2 with ⟨rfl, h3⟩ | ⟨g, cap', cur, rfl, hg, hh, hn', hc, hcl, htk⟩
  · obtain rfl := List.eq_nil_of_length_eq_zero h3
    exact ⟨none, 0, rfl, .inl rfl⟩
  · refine ⟨_, cap', rfl, .inr ⟨g, 0, rfl, (Array.getElem?_eq_some_iff.1 hh).1, fun i hi => ?_⟩⟩
    have := h0.cellAt i (by omega)
    rw [Nat.zero_add, this]
    have h4 := eVec.get l i 0 hi (by omega)
    rw [Nat.mul_one, Nat.add_zero] at h4
    rw [h4]
    rfl

def rightB (ttl now : Int) : Bool := decide (1 ≤ ttl ∧ ttl ≤ 2147483647 ∧ 0 ≤ now ∧ now < 281474976710656)
theorem right_any (ttl now : Int) (w : World) : Calls Tryz.prog 28 #[.int .i64 ttl, .int .i64 now] w fun e w' => e = .returned (.bool (rightB ttl now)) ∧ w = w' := by
  go_enter Tryz.func28, Tryz.ntmps28
  by_cases h1 : (1 : Int) ≤ ttl
  · by_cases h2 : ttl ≤ (2147483647 : Int)
    · by_cases h3 : (0 : Int) ≤ now
      · by_cases h4 : now < (281474976710656 : Int)
        · go_wp2
          go_ret
          refine ⟨?_, rfl⟩
          have : rightB ttl now = true := by simp [rightB]; omega
          rw [this]
          try rfl
        · go_wp2
          go_ret
          refine ⟨?_, rfl⟩
          have : rightB ttl now = false := by simp [rightB]; omega
          rw [this]
          try rfl
      · go_wp2
        go_ret
        refine ⟨?_, rfl⟩
        have : rightB ttl now = false := by simp [rightB]; omega
        rw [this]
        try rfl
    · go_wp2
      go_ret
      refine ⟨?_, rfl⟩
      have : rightB ttl now = false := by simp [rightB]; omega
      rw [this]
      try rfl
  · go_wp2
    go_ret
    refine ⟨?_, rfl⟩
    have : rightB ttl now = false := by simp [rightB]; omega
    rw [this]
    try rfl
def tillZ (ttl now : Int) : Int := min (now + ttl) 281474976710656
theorem till_any (ttl now : Int) (h : rightB ttl now = true) (w : World) : Calls Tryz.prog 31 #[.int .i64 ttl, .int .i64 now] w fun e w' => e = .returned (.int .i64 (tillZ ttl now)) ∧ w = w' := by
  have h1 : 1 ≤ ttl ∧ ttl ≤ 2147483647 ∧ 0 ≤ now ∧ now < 281474976710656 := by simpa [rightB] using h
  have hw : IntKind.i64.wrap (now + ttl) = now + ttl := IntWalk.i64_in _ (by omega)
  clear h
  unfold tillZ
  by_cases hm : now + ttl ≤ 281474976710656
  · rw [Int.min_eq_left hm]
    go_enter Tryz.func31, Tryz.ntmps31
    go_wp2
    go_ret
    exact ⟨by first | rfl | (simp; omega), rfl⟩
  · rw [Int.min_eq_right (by omega)]
    go_enter Tryz.func31, Tryz.ntmps31
    go_wp2
    go_ret
    exact ⟨by first | rfl | (simp; omega), rfl⟩
theorem over_any (id : Int) (a : Option Addr) (n c : Nat) (until_ now : Int) (w : World) : Calls Tryz.prog 29 #[.agg #[.int .i64 id, .slice a n c, .int .i64 until_], .int .i64 now] w fun e w' => e = .returned (.bool (decide (until_ ≤ now))) ∧ Below w.heap.size w w' := by
  go_enter Tryz.func29, Tryz.ntmps29
  go_wp2
  go_ret
  exact ⟨rfl, (Below.refl _ _).alloc (Nat.le_refl _) _⟩

def okT (t : Int) : Bool := decide (0 ≤ t ∧ t < 281474976710656)
theorem valid1_any (t : Int) (w : World) : Calls Tryz.prog 113 #[.int .i64 t] w fun e w' => e = .returned (.bool (!okT t)) ∧ w = w' := by
  go_enter Tryz.func113, Tryz.ntmps113
  by_cases h1 : t < (0 : Int)
  · go_wp2
    go_ret
    refine ⟨?_, rfl⟩
    have : okT t = false := by simp [okT]; omega
    rw [this]
    rfl
  · by_cases h2 : (281474976710656 : Int) ≤ t
    · go_wp2
      go_ret
      refine ⟨?_, rfl⟩
      have : okT t = false := by simp [okT]; omega
      rw [this]
      rfl
    · go_wp2
      go_ret
      refine ⟨?_, rfl⟩
      have : okT t = true := by simp [okT]; omega
      rw [this]
      rfl
/-- The first place of a time that cannot be; below 0: there is none. -/
def IdxE (l : List Int) (e : Ending) : Prop := ∃ n : Int, e = .returned (.int .i64 n) ∧ ((l.all okT = true ∧ n = -1) ∨ (l.all okT = false ∧ 0 ≤ n))
set_option maxRecDepth 100000 in
set_option maxHeartbeats 1000000 in
theorem index_any {w : World} {x : Value} {l : List Int} (h : RdI w x l) (hl : l.length ≤ 1000000) :
    Calls Tryz.prog 156 #[x, .func (.func 113) #[] #[]] w fun e w' => IdxE l e ∧ w' = w := by
  obtain ⟨a, c, rfl, h1⟩ := h
  obtain ⟨n, hn⟩ : ∃ n, n = l.length := ⟨_, rfl⟩
  rw [← hn] at hl ⊢
  have HN := Lib.hid hn
  have H := Lib.hid h1
  clear hn h1
  go_enter Tryz.func156, Tryz.ntmps156
  go_wp2
  go_loopw [5, 8] (fun _ iv wr => ∃ i : Nat, i ≤ n ∧ iv = .int .i64 (i : Int) ∧ (l.take i).all okT = true ∧ wr = w) (fun _ iv _ => n - (intOf iv).toNat)
  case atStart => exact ⟨0, by omega, rfl, by simp, rfl⟩
  case round =>
    obtain ⟨i, hi, rfl, hall, rfl⟩ := hrel
    have HB := Lib.hid hall
    clear hall
    by_cases hlt : i < n
    · have hil : i < l.length := by have := HN.out; omega
      obtain ⟨b1, o1, rfl, l1, k1⟩ := H.out.resolve_left (fun e => by rw [e] at hil; simp at hil)
      have d1 := k1 i hil
      obtain ⟨u, hu⟩ : ∃ u, l[i] = u := ⟨_, rfl⟩
      rw [hu] at d1
      have hW := valid1_any u
      obtain ⟨nb, hnb⟩ : ∃ nb, okT u = nb := ⟨_, rfl⟩
      rw [hnb] at hW
      have htk : l.take (i + 1) = l.take i ++ [u] := by rw [List.take_succ_eq_append_getElem hil, hu]
      have HX := Lib.hid (And.intro htk (And.intro hnb hu))
      have r1 : (i : Int) < (n : Int) := by omega
      clear k1 hu htk hnb
      cases nb
      · simp only [Bool.not_false] at hW
        go_wp2_with (go_at_call 113; refine (hW _).mono ?_; rintro e w1 ⟨rfl, rfl⟩)
        go_ret
        refine ⟨⟨i, rfl, .inr ⟨?_, by omega⟩⟩, rfl⟩
        rw [Bool.eq_false_iff]
        intro h
        have := List.all_eq_true.1 h u (HX.out.2.2 ▸ List.getElem_mem hil)
        rw [HX.out.2.1] at this
        cases this
      · simp only [Bool.not_true] at hW
        go_wp2_with (go_at_call 113; refine (hW _).mono ?_; rintro e w1 ⟨rfl, rfl⟩)
        go_roundw
        case rel => exact ⟨i + 1, by omega, by go_num, by rw [HX.out.1, List.all_append, HB.out]; simp [HX.out.2.1], by first | rfl | trivial⟩
        case measure => simp [intOf]; omega
    · obtain rfl : i = n := by omega
      go_wp2
      go_ret
      refine ⟨⟨-1, rfl, .inl ⟨?_, rfl⟩⟩, rfl⟩
      have := HB.out
      rw [HN.out, List.take_length] at this
      exact this
theorem contains_any {w : World} {x : Value} {l : List Int} (h : RdI w x l) (hl : l.length ≤ 1000000) :
    Calls Tryz.prog 112 #[x, .func (.func 113) #[] #[]] w fun e w' => e = .returned (.bool (!l.all okT)) ∧ w = w' := by
  have hI := index_any h hl
  obtain ⟨b, hb⟩ : ∃ b, l.all okT = b := ⟨_, rfl⟩
  rw [hb]
  have HB := Lib.hid hb
  clear hb h hl
  go_enter Tryz.func112, Tryz.ntmps112
  go_wp2_with fail
  refine hI.mono ?_
  rintro e w1 ⟨⟨n, rfl, hn⟩, rfl⟩
  rw [HB.out] at hn
  clear hI
  rcases hn with ⟨rfl, rfl⟩ | ⟨rfl, hn⟩
  · go_wp2
    go_ret
    exact ⟨rfl, rfl⟩
  · go_wp2
    go_ret
    exact ⟨rfl, rfl⟩
def validB (l : List Int) : Bool := decide (1 ≤ l.length ∧ l.length ≤ 8) && l.all okT
set_option maxRecDepth 100000 in
theorem valid_any {w : World} {x : Value} {l : List Int} (h : RdI w x l) : Calls Tryz.prog 27 #[x] w fun e w' => e = .returned (.bool (validB l)) ∧ w = w' := by
  have hC := fun hl => contains_any h hl
  obtain ⟨a, c, rfl, -⟩ := h
  obtain ⟨n, hn⟩ : ∃ n, l.length = n := ⟨_, rfl⟩
  rw [hn] at hC ⊢
  by_cases h1 : 1 ≤ n
  · have t1 : (1 : Int) ≤ (n : Int) := by omega
    by_cases h2 : n ≤ 8
    · have t2 : (n : Int) ≤ 8 := by omega
      have hC := hC (by omega)
      obtain ⟨b, hb⟩ : ∃ b, l.all okT = b := ⟨_, rfl⟩
      have hv : validB l = b := by unfold validB; rw [hn, hb, decide_eq_true ⟨h1, h2⟩]; simp
      rw [hb] at hC
      rw [hv]
      clear hv hb hn h1 h2
      cases b
      · simp only [Bool.not_false] at hC
        go_enter Tryz.func27, Tryz.ntmps27
        go_wp2_with (go_at_call 112; refine hC.mono ?_; rintro e w1 ⟨rfl, rfl⟩)
        go_ret
        exact ⟨rfl, rfl⟩
      · simp only [Bool.not_true] at hC
        go_enter Tryz.func27, Tryz.ntmps27
        go_wp2_with (go_at_call 112; refine hC.mono ?_; rintro e w1 ⟨rfl, rfl⟩)
        go_ret
        exact ⟨rfl, rfl⟩
    · have t2 : ¬ (n : Int) ≤ 8 := by omega
      have hv : validB l = false := by unfold validB; rw [hn, decide_eq_false (by omega)]; simp
      rw [hv]
      clear hv hn h1 h2 hC
      go_enter Tryz.func27, Tryz.ntmps27
      go_wp2
      go_ret
      exact ⟨rfl, rfl⟩
  · have t1 : ¬ (1 : Int) ≤ (n : Int) := by omega
    have hv : validB l = false := by unfold validB; rw [hn, decide_eq_false (by omega)]; simp
    rw [hv]
    clear hv hn h1 hC
    go_enter Tryz.func27, Tryz.ntmps27
    go_wp2
    go_ret
    exact ⟨rfl, rfl⟩
end Go.Proofs.YtnegappgdpeabaaGreat
/-
  Lease: vectors are cloned, met, compared.
-/
namespace Go.Proofs.YtnegappgdpeabaaGreat
open Go.RowKit

theorem qVec (w : World) (a : Option Addr) (n c n' c' : Nat) : (binOp .eql 51 (.slice a n c) (.slice none n' c')).run Tryz.prog w = .ok (.bool a.isNone) w := Lib.run_eql_slice_nil w _ _ a n c n' c' Tryz.underlying51
theorem own_empty (w : World) : Own eVec (w.alloc (.cells #[] 3)) w.heap.size (.slice (some ⟨w.heap.size, 0, none⟩) 0 0) [] :=
  ⟨rfl, .inr ⟨w.heap.size, 0, #[], rfl, Nat.le_refl _, heap_alloc_new w _, Nat.le_refl _, Nat.zero_le _, rfl, rfl⟩⟩
set_option maxRecDepth 100000 in
theorem clone_any {w : World} {x : Value} {l : List Int} (h : RdI w x l) (hl : l.length ≤ 1000000) : Calls Tryz.prog 30 #[x] w fun e w' => ∃ a c, e = .returned (.slice a l.length c) ∧ Own eVec w' w.heap.size (.slice a l.length c) l ∧ Below w.heap.size w w' := by
  obtain ⟨a, c, rfl, h⟩ := h
  have hq := qVec
  cases a with
  | none =>
    have h0 : l = [] := h.resolve_right (by rintro ⟨b, off, e, _⟩; cases e)
    subst h0
    go_enter Tryz.func30, Tryz.ntmps30
    go_wp2_with fail
    go_ret
    exact ⟨none, 0, rfl, World.ownsRow_nil _ _ _ _, Below.refl _ _⟩
  | some ad =>
    have hsrc : Src eVec w (.slice (some ad) l.length c) l := by
      refine .inr ⟨ad, c, rfl, fun j u hj => ?_⟩
      rcases h with rfl | ⟨b, off, e, hlt, hc⟩
      · simp at hj
      · injection e with e
        subst e
        have hjl : j < l.length := by have := (List.getElem?_eq_some_iff.1 hj).1; rw [eVec.lens] at this; omega
        have h5 := eVec.get l j 0 hjl (by omega)
        rw [Nat.mul_one, Nat.add_zero] at h5
        rw [h5] at hj
        rw [add_off, hc j hjl, ← hj]
        rfl
    obtain ⟨W1, hW1⟩ : ∃ W1, w.alloc (.cells #[] 3) = W1 := ⟨_, rfl⟩
    have ho1 : Own eVec W1 w.heap.size (.slice (some ⟨w.heap.size, 0, none⟩) 0 0) [] := by rw [← hW1]; exact own_empty w
    have hb1 : Below w.heap.size w W1 := by rw [← hW1]; exact (Below.refl _ _).alloc (Nat.le_refl _) _
    have hz1 : w.heap.size ≤ W1.heap.size := hb1.size
    have hs1 : Src eVec W1 (.slice (some ad) l.length c) l := by
      refine .inr ⟨ad, c, rfl, fun j u hj => ?_⟩
      have h7 : w.cell? (ad.add j) = some u := by
        rcases hsrc with ⟨e, _⟩ | ⟨ad', c', e, h7⟩
        · cases e
        · injection e with e1 e2 e3
          injection e1 with e1
          subst e1
          exact h7 j u hj
      exact (hb1.cell (World.block_lt_of_cell? _ _ h7)).trans h7
    have H := Lib.hid (And.intro ho1 (And.intro hs1 (And.intro hb1 hz1)))
    obtain ⟨n, hn⟩ : ∃ n, l.length = n := ⟨_, rfl⟩
    rw [hn] at hl H ⊢
    have HN := Lib.hid hn
    clear h hsrc ho1 hb1 hz1 hs1 hn
    go_enter Tryz.func30, Tryz.ntmps30
    go_wp2_with (at_builtin; go_loud (refine wpl_app eVec (l := []) rfl _ _ rfl rfl rfl H.out.1 H.out.2.1 (by simp; rw [HN.out]; omega) H.out.2.2.2 ?_); intro a3 cap3 w3 ho3 hb3 _ _; have H3 := Lib.hid (And.intro ho3 (H.out.2.2.1.trans hb3)); clear ho3 hb3)
    go_ret
    have h5 := H3.out.1
    rw [List.nil_append, show ([] : List Int).length + l.length = n by rw [HN.out]; simp] at h5
    exact ⟨a3, cap3, by rw [HN.out]; rfl, h5, H3.out.2⟩

theorem meet1_any (s t : Int) (w : World) : Calls Tryz.prog 155 #[.int .i64 s, .int .i64 t] w fun e w' => e = .returned (.int .i64 (min s t)) ∧ w = w' := by
  by_cases h : s ≤ t
  · rw [Int.min_eq_left h]
    go_enter Tryz.func155, Tryz.ntmps155
    go_wp2
    go_ret
    exact ⟨by first | rfl | (simp; omega), rfl⟩
  · rw [Int.min_eq_right (by omega)]
    go_enter Tryz.func155, Tryz.ntmps155
    go_wp2
    go_ret
    exact ⟨by first | rfl | (simp; omega), rfl⟩
def meetV (a b : List Int) : List Int := List.zipWith min a b
theorem meetV_len {a b : List Int} (h : a.length = b.length) : (meetV a b).length = a.length := by simp [meetV, h]
theorem meetV_take {a b : List Int} {i : Nat} (ha : i < a.length) (hb : i < b.length) : (meetV a b).take (i + 1) = (meetV a b).take i ++ [min a[i] b[i]] := by
  unfold meetV
  rw [List.take_succ_eq_append_getElem (by simp; omega)]
  simp
set_option maxRecDepth 100000 in
set_option maxHeartbeats 1000000 in
theorem each_any {w : World} {x y : Value} {a b : List Int} (hx : RdI w x a) (hy : RdI w y b) (hl : a.length = b.length) (hn8 : a.length ≤ 1000000) :
    Calls Tryz.prog 154 #[x, y, .func (.func 155) #[] #[]] w fun e w' => ∃ ao c, e = .returned (.slice ao a.length c) ∧ Own eVec w' w.heap.size (.slice ao a.length c) (meetV a b) ∧ Below w.heap.size w w' := by
  obtain ⟨a1, c1, rfl, h1⟩ := hx
  obtain ⟨a2, c2, rfl, h2⟩ := hy
  obtain ⟨n, hn⟩ : ∃ n, a.length = n := ⟨_, rfl⟩
  rw [← hl, hn]
  rw [hn] at hn8
  have HN := Lib.hid (And.intro hn (hl.symm.trans hn))
  have H := Lib.hid (And.intro h1 h2)
  have t0 : ((n : Int) != (n : Int)) = false := by simp
  clear h1 h2 hn hl
  go_enter Tryz.func154, Tryz.ntmps154
  go_wp2
  go_loopw [7, 8, 9, 17] (fun v _ _ iv wr => ∃ i : Nat, i ≤ n ∧ iv = .int .i64 (i : Int) ∧ ∃ ao c, v = .slice ao i c ∧ Own eVec wr w.heap.size (.slice ao i c) ((meetV a b).take i) ∧ Below w.heap.size w wr) (fun _ _ _ iv _ => n - (intOf iv).toNat)
  case atStart => exact ⟨0, by omega, rfl, none, 0, rfl, World.ownsRow_nil _ _ _ _, Below.refl _ _⟩
  case round =>
    obtain ⟨i, hi, rfl, ao, co, rfl, ho, hb⟩ := hrel
    have HO := Lib.hid (And.intro ho hb)
    by_cases hlt : i < n
    · have hil : i < a.length := by have := HN.out; omega
      have hil2 : i < b.length := by have := HN.out; omega
      obtain ⟨b1, o1, rfl, l1, k1⟩ := H.out.1.resolve_left (fun e => by rw [e] at hil; simp at hil)
      obtain ⟨b2, o2, rfl, l2, k2⟩ := H.out.2.resolve_left (fun e => by rw [e] at hil2; simp at hil2)
      have d1 := (hb.cell (p := ⟨b1, o1 + i, none⟩) l1).trans (k1 i hil)
      have d2 := (hb.cell (p := ⟨b2, o2 + i, none⟩) l2).trans (k2 i hil2)
      have htk := meetV_take hil hil2
      obtain ⟨u, hu⟩ : ∃ u, a[i] = u := ⟨_, rfl⟩
      obtain ⟨v, hv⟩ : ∃ v, b[i] = v := ⟨_, rfl⟩
      rw [hu] at d1 htk
      rw [hv] at d2 htk
      have hM := meet1_any u v
      obtain ⟨z, hz⟩ : ∃ z, min u v = z := ⟨_, rfl⟩
      rw [hz] at hM htk
      have HT := Lib.hid htk
      have r1 : (i : Int) < (n : Int) := by omega
      have hlm : ((meetV a b).take i).length = i := by rw [List.length_take, meetV_len (by have := HN.out; omega), HN.out.1]; omega
      obtain ⟨W1, hW1⟩ : ∃ W1, wr.alloc (.cells #[.int .i64 z] 3) = W1 := ⟨_, rfl⟩
      have hsrc : Src eVec W1 (.slice (some ⟨wr.heap.size, 0, none⟩) 1 1) [z] := by rw [← hW1]; exact src_one wr z _ _ rfl 1
      have ho1 : Own eVec W1 w.heap.size (.slice ao i co) ((meetV a b).take i) := by rw [← hW1]; exact row_below ho ((Below.refl _ _).alloc (Nat.le_refl _) _)
      have hb1 : Below w.heap.size w W1 := by rw [← hW1]; exact hb.alloc hb.size _
      have H1 := Lib.hid (And.intro ho1 (And.intro hsrc (And.intro hb1 hlm)))
      clear k1 k2 hu hv hz htk ho hb hsrc ho1 hb1 hlm
      go_wp2_with (first
        | (go_at_call 155; refine (hM _).mono ?_; rintro e w1 ⟨rfl, rfl⟩)
        | (at_builtin; go_loud (refine wpl_app eVec rfl _ _ rfl rfl rfl H1.out.1 H1.out.2.1 (by rw [H1.out.2.2.2]; simp; omega) H1.out.2.2.1.size ?_); rw [H1.out.2.2.2]; intro a3 cap3 w3 ho3 hb3 _ _; have H3 := Lib.hid (And.intro ho3 (H1.out.2.2.1.trans hb3)); clear ho3 hb3))
      go_roundw
      case rel => exact ⟨i + 1, by omega, by go_num, a3, cap3, rfl, by rw [HT.out]; exact H3.out.1, H3.out.2⟩
      case measure => simp [intOf]; omega
    · obtain rfl : i = n := by omega
      clear ho hb
      go_wp2
      go_ret
      have h5 := HO.out.1
      rw [List.take_of_length_le (by rw [meetV_len (by have := HN.out; omega), HN.out.1]; omega)] at h5
      exact ⟨ao, co, rfl, h5, HO.out.2⟩
theorem meet_any {w : World} {x y : Value} {a b : List Int} (hx : RdI w x a) (hy : RdI w y b) (hl : a.length = b.length) (hn8 : a.length ≤ 1000000) :
    Calls Tryz.prog 111 #[x, y] w fun e w' => ∃ ao c, e = .returned (.slice ao a.length c) ∧ Own eVec w' w.heap.size (.slice ao a.length c) (meetV a b) ∧ Below w.heap.size w w' := by
  have hE := each_any hx hy hl hn8
  obtain ⟨a1, c1, rfl, h1⟩ := hx
  obtain ⟨a2, c2, rfl, h2⟩ := hy
  clear h1 h2
  obtain ⟨n, hn⟩ : ∃ n, a.length = n := ⟨_, rfl⟩
  rw [← hl, hn] at hE ⊢
  clear hl hn hn8
  go_enter Tryz.func111, Tryz.ntmps111
  go_wp2_with (go_at_call 154; refine hE.mono ?_; rintro e w1 ⟨ao, c, rfl, ho, hb⟩; have H1 := Lib.hid (And.intro ho hb); clear ho hb)
  go_ret
  exact ⟨ao, c, rfl, H1.out⟩

/-- No time of a vector is above another one's. -/
def leqV (a b : List Int) : Prop := a.length = b.length ∧ ∀ i (h : i < a.length) (h2 : i < b.length), a[i] ≤ b[i]
set_option maxRecDepth 100000 in
theorem leq_any {w : World} {x y : Value} {a b : List Int} (hx : RdI w x a) (hy : RdI w y b) (h : leqV a b) (hl : a.length ≤ 1000000) :
    Calls Tryz.prog 110 #[x, y] w fun e w' => e = .returned (.bool true) ∧ ∃ k, w' = w.drewN k := by
  obtain ⟨a1, c1, rfl, h1⟩ := hx
  obtain ⟨a2, c2, rfl, h2⟩ := hy
  obtain ⟨n, hn⟩ : ∃ n, a.length = n := ⟨_, rfl⟩
  rw [← h.1, hn]
  rw [hn] at hl
  have HN := Lib.hid (And.intro hn h)
  have H := Lib.hid (And.intro h1 h2)
  have t0 : ((n : Int) != (n : Int)) = false := by simp
  clear h1 h2 hn h
  go_enter Tryz.func110, Tryz.ntmps110
  go_wp2
  go_loopw [5] (fun iv wr => ∃ i : Nat, i ≤ n ∧ iv = .int .i64 (i : Int) ∧ ∃ k, wr = w.drewN k) (fun iv _ => n - (intOf iv).toNat)
  case atStart => exact ⟨0, by omega, rfl, 0, rfl⟩
  case round =>
    obtain ⟨i, hi, rfl, k, rfl⟩ := hrel
    by_cases hlt : i < n
    · have hil : i < a.length := by have := HN.out.1; omega
      have hil2 : i < b.length := by have := HN.out.2.1; omega
      obtain ⟨b1, o1, rfl, l1, k1⟩ := H.out.1.resolve_left (fun e => by rw [e] at hil; simp at hil)
      obtain ⟨b2, o2, rfl, l2, k2⟩ := H.out.2.resolve_left (fun e => by rw [e] at hil2; simp at hil2)
      have d1 := k1 i hil
      have d2 := k2 i hil2
      have hle := HN.out.2.2 i hil hil2
      obtain ⟨u, hu⟩ : ∃ u, a[i] = u := ⟨_, rfl⟩
      obtain ⟨v, hv⟩ : ∃ v, b[i] = v := ⟨_, rfl⟩
      rw [hu] at d1 hle
      rw [hv] at d2 hle
      have t1 : ¬ v < u := by omega
      have hbl : n = b.length := by have := HN.out.1; have := HN.out.2.1; omega
      have r1 : (i : Int) < (n : Int) := by omega
      have HBL := Lib.hid hbl
      clear k1 k2 hu hv hle hbl
      go_wp2
      go_quiet (fail)
      go_wp2
      go_roundw
      case rel => exact ⟨i + 1, by omega, by go_num, _, rfl⟩
      case measure => simp [intOf]; omega
    · obtain rfl : i = n := by omega
      go_wp2
      go_ret
      exact ⟨rfl, _, rfl⟩
end Go.Proofs.YtnegappgdpeabaaGreat
/-
  Lease: how leases lie; their ids, sorted.
-/
namespace Go.Proofs.YtnegappgdpeabaaGreat
open Go.RowKit Go.Maps Go.Sort Go.Shelf

/-- A lease, with the slice that its vector lies in. -/
structure Lv where
  id : Int
  sa : Option Addr
  sc : Nat
  vs : List Int
  till : Int
abbrev Lv.sl (x : Lv) : Value := .slice x.sa x.vs.length x.sc
def cvL (x : Lv) : Value := .agg #[.int .i64 x.id, x.sl, .int .i64 x.till]
def ckZ (k : Int) : Value := .int .i64 k
abbrev Lm := List (Int × Lv)
theorem keyZ : KeyT Tryz.prog 3 ckZ (.int .i64) := key_int Tryz.underlying3
abbrev tMap : TypeId := 30
theorem und_map : Tryz.prog.underlying tMap = some (.map 3 65) := Tryz.underlying30

variable {w w' : World} {mb lb : Nat} {ob : Option Nat} {m : Lm} {last : Int}
def dR : Value → Option (DataW Unit × List MemPlace) := fun _ => some (.agg [], [])
def dL (m : Lm) : List (Lit × DataW Unit) := m.map (fun p => (Lit.int .i64 p.1, DataW.agg []))
theorem map_owns (h : MapL ckZ cvL w mb m) (hn : ∀ p ∈ m, 1 ≤ p.1 ∧ p.1 ≤ 72057594037927936) (hl : m.length ≤ maxLen) : w.ownsMap Tryz.prog 3 dR mb m.length (.map ((dL m).foldr DataW.insert [])) := by
  obtain ⟨es, clock, hb, hs, he⟩ := h
  have hsz : es.size = m.length := by
    have := congrArg List.length he
    simpa [Ents] using this
  have hrd : ∀ x ∈ es.toList, ∃ s : Int, x.key = .int .i64 s ∧ 1 ≤ s ∧ s ≤ 72057594037927936 := fun x hx => by
    have hm : (x.key, x.val) ∈ es.toList.map (fun x => (x.key, x.val)) := List.mem_map.2 ⟨x, hx, rfl⟩
    rw [he] at hm
    obtain ⟨p, hp, e⟩ := List.mem_map.1 hm
    simp only [Prod.mk.injEq] at e
    exact ⟨p.1, e.1.symm, hn p hp⟩
  have hkey : ∀ s : Int, 1 ≤ s ∧ s ≤ 72057594037927936 → keyOf Tryz.prog 3 (.int .i64 s) = some (.int .i64 s) := fun s hs => by
    have hw : (Lit.int .i64 s).wf = true := by
      simp only [Lit.wf, Bool.and_eq_true, decide_eq_true_eq]
      exact ⟨by show (-9223372036854775808 : Int) ≤ s; omega, by show s ≤ (9223372036854775807 : Int); omega⟩
    simp [keyOf, mapKey, Tryz.underlying3, hw]
  have hrd2 : ∀ (x : MapEntry) (s : Int), x.key = .int .i64 s → 1 ≤ s ∧ s ≤ 72057594037927936 → WideElems.rd Tryz.prog 3 dR x = some (.int .i64 s, .agg []) := fun x s hx hs => by
    have := WideElems.rd_mk (P := Tryz.prog) (k := 3) (R := dR) (key := x.key) (val := x.val) (born := x.born) (by rw [hx]; exact hkey s hs) (yv := (DataW.agg [], [])) rfl
    exact this
  refine ⟨es, clock, hb, ⟨by rw [hsz]; exact hl, hs, fun x hx => ?_⟩, by rw [hsz]; exact Nat.le_refl _, ?_⟩
  · obtain ⟨s, h1, h2⟩ := hrd x hx
    exact ⟨_, hrd2 x s h1 h2⟩
  · congr 2
    unfold dL
    have h5 : es.toList.map (WideElems.rg Tryz.prog 3 dR) = (es.toList.map (fun x => (x.key, x.val))).map (fun p => (match p.1 with | .int _ s => (Lit.int .i64 s, DataW.agg []) | _ => (Lit.bool false, DataW.nil))) := by
      rw [List.map_map]
      refine List.map_congr_left (fun x hx => ?_)
      obtain ⟨s, h1, h2⟩ := hrd x hx
      rw [WideElems.rg_of (hrd2 x s h1 h2)]
      simp [h1]
    rw [h5, he, List.map_map]
    rfl
theorem intKeys_dL (m : Lm) : (intKeys (.map ((dL m).foldr DataW.insert []) : DataW Unit)).Perm (m.map (·.1)) := by
  have h := (WideShapes.sorted_perm (dL m)).map (fun p => Go.intOf p.1)
  refine h.trans ?_
  unfold dL
  rw [List.map_map]
  exact .refl _
theorem keys_any (mb : Option Nat) (w : World) : Calls Tryz.prog 115 #[.map mb] w fun e w' =>
    e = .returned (.func (.func 159) #[] #[.pointer (some ⟨w.heap.size, 0, none⟩)]) ∧ w' = w.alloc (.cells #[.map mb] 30) :=
  (callsIn_wide (n := 5)).1 (AnyZI.keys_in Tryz.gl_keys Fence.wide 5 trivial rfl mb w)
theorem sortsZ (m : Nat) : AnyZI.SortsIn Tryz.prog Tryz.gl_sorted_ren Fence.wide m :=
  ⟨fun blk off cap ss W hH hblk hsz => callsIn_wide.2 (AnyM.slices_Sort_int Tryz.gl_sort blk off cap ss W hH hblk hsz),
   fun p cap W => callsIn_wide.2 (AnyM.slices_Sort_int_none Tryz.gl_sort p cap W)⟩
/-- Ids in order. -/
def sortZ (l : List Int) : List Int := l.mergeSort (fun x y => decide (x ≤ y))
theorem sorted_any {Bm : Nat} (h : MapV ckZ cvL w ob m) (hn : ∀ p ∈ m, 1 ≤ p.1 ∧ p.1 ≤ 72057594037927936) (hl : m.length ≤ 20000) (hB : w.cell? ⟨Bm, 0, none⟩ = some (.map ob)) :
    Calls Tryz.prog 114 #[.func (.func 159) #[] #[.pointer (some ⟨Bm, 0, none⟩)]] w fun e w' =>
      ∃ (v : Value), e = .returned v ∧ w'.ownsRow w.heap.size 3 1 v m.length ((sortZ (m.map (·.1))).map encZ) ∧ Below w.heap.size w w' := by
  cases ob with
  | none =>
    have hm : m = [] := h
    subst hm
    have hseq : SeqGives Fence.wide 2 Tryz.prog 159 #[.pointer (some ⟨Bm, 0, none⟩)] encZ (fun ss : List Int => ss = []) 0 w :=
      AnyZI.keys_gives_nil (ρ := Tryz.gl_keys_ren) { Tryz.gl_keys with } Fence.wide _ trivial rfl Bm _ (World.block_lt_of_cell? _ _ hB) hB
    have cS := AnyZI.sorted_in Tryz.gl_sorted Fence.wide 5 trivial trivial trivial trivial rfl (by omega) (sortsZ _) (enters_of Tryz.func158 (by kernel_rfl) rfl) 159 #[.pointer (some ⟨Bm, 0, none⟩)] trivial (enters_of Tryz.func159 (by kernel_rfl) rfl) _ 0 (Nat.zero_le _) (by omega) _ hseq
    refine ((callsIn_wide (n := 5)).1 cS).mono ?_
    rintro e w' ⟨v, ss, rfl, rfl, hrow, hnil, hb⟩
    exact ⟨v, rfl, hrow, hb⟩
  | some mb =>
    have hown := map_owns h hn (by unfold maxLen; omega)
    have hsz : Maps.size (DataW.map ((dL m).foldr DataW.insert []) : DataW Unit) = m.length := by
      show ((dL m).foldr DataW.insert []).length = m.length
      rw [length_sorted]; unfold dL; rw [List.length_map]
    have hseq : SeqGives Fence.wide 2 Tryz.prog 159 #[.pointer (some ⟨Bm, 0, none⟩)] encZ (fun ss => ss.Perm (intKeys (.map ((dL m).foldr DataW.insert []) : DataW Unit))) (Maps.size (DataW.map ((dL m).foldr DataW.insert []) : DataW Unit)) w :=
      AnyZI.keys_gives (ρ := Tryz.gl_keys_ren) { Tryz.gl_keys with } Fence.wide _ trivial rfl (by omega) Bm mb _ _ _ (World.block_lt_of_cell? _ _ hB) hB hown
    have cS := AnyZI.sorted_in Tryz.gl_sorted Fence.wide 5 trivial trivial trivial trivial rfl (by omega) (sortsZ _) (enters_of Tryz.func158 (by kernel_rfl) rfl) 159 #[.pointer (some ⟨Bm, 0, none⟩)] trivial (enters_of Tryz.func159 (by kernel_rfl) rfl) _ _ (by rw [hsz]; unfold maxLen; omega) (by rw [hsz]; omega) _ hseq
    refine ((callsIn_wide (n := 5)).1 cS).mono ?_
    rintro e w' ⟨v, ss, rfl, hp, hrow, hnil, hb⟩
    have hp2 := hp.trans (intKeys_dL m)
    have hlen : ss.length = m.length := by rw [hp2.length_eq, List.length_map]
    rw [hlen, show (ss.mergeSort (fun x y => decide (x ≤ y))) = sortZ (m.map (·.1)) from mergeSort_of_perm_i hp2] at hrow
    exact ⟨v, rfl, hrow, hb⟩
end Go.Proofs.YtnegappgdpeabaaGreat
/-
  Lease: all leases are told.
-/
namespace Go.Proofs.YtnegappgdpeabaaGreat
open Go.RowKit

theorem info_lease : (Tryz.prog.info? 65).map (fun i => (i.zero, i.size, i.bytes)) = some (some (.agg #[.int .i64 0, .slice none 0 0, .int .i64 0]), 3, 40) := by kernel_rfl
/-- Slices of leases. -/
theorem eLse : Elm Tryz.prog 27 65 3 40 (fun x : Lv => [.int .i64 x.id, x.sl, .int .i64 x.till]) where
  und := Tryz.underlying27
  info := by
    obtain ⟨i0, hi0, hz0, hs0, hy0⟩ := info_parts info_lease
    exact ⟨i0, _, hi0, hz0, hs0, hy0, rfl⟩
  pos := by decide
  few := by decide
  len _ := rfl
  one := by
    intro x u hu
    simp only [List.mem_cons, List.not_mem_nil, or_false] at hu
    rcases hu with rfl | rfl | rfl <;> rfl

variable {w w' w0 w1 w2 w3 : World} {mb lb B : Nat} {ob : Option Nat} {m : Lm} {last : Int}
/-- Blocks of leases. -/
def foot (lb : Nat) (ob : Option Nat) (q : Nat) : Prop := q = lb ∨ ob = some q
/-- A lease's vector can be read, in a block that F has not. -/
def RdX (F : Nat → Prop) (w : World) (x : Lv) : Prop := x.vs = [] ∨ ∃ b off, x.sa = some ⟨b, off, none⟩ ∧ ¬ F b ∧ b < w.heap.size ∧ ∀ i (hi : i < x.vs.length), w.cell? ⟨b, off + i, none⟩ = some (.int .i64 x.vs[i])
theorem RdX.tn {F G : Nat → Prop} {x : Lv} (h : RdX F w x) (ht : Tn G w w') (hG : ∀ q, q < w.heap.size → G q → F q) : RdX F w' x := by
  refine h.imp id ?_
  rintro ⟨b, off, ha, hf, hlt, hc⟩
  exact ⟨b, off, ha, hf, Nat.lt_of_lt_of_le hlt ht.size, fun i hi => ht.cell (hc i hi) (fun hg => hf (hG b hlt hg))⟩
theorem RdX.rd {F : Nat → Prop} {x : Lv} (h : RdX F w x) : RdI w x.sl x.vs := ⟨x.sa, x.sc, rfl, h.imp id (fun ⟨b, off, ha, _, hlt, hc⟩ => ⟨b, off, ha, hlt, hc⟩)⟩
structure LOk (m : Lm) (last : Int) : Prop where
  id : ∀ p ∈ m, p.2.id = p.1
  key : ∀ p ∈ m, 1 ≤ p.1 ∧ p.1 ≤ last
  vec : ∀ p ∈ m, validB p.2.vs = true
  last : 0 ≤ last ∧ last ≤ 72057594037927935
  few : m.length ≤ 16
/-- Leases lie in the block lb, in the map ob. -/
structure LsAt (w : World) (lb : Nat) (ob : Option Nat) (m : Lm) (last : Int) : Prop where
  c0 : w.cell? ⟨lb, 0, none⟩ = some (.map ob)
  c1 : w.cell? ⟨lb, 1, none⟩ = some (.int .i64 last)
  mp : MapV ckZ cvL w ob m
  fz : ∀ j, w.frozen? ⟨lb, j, none⟩ = false
  rd : ∀ p ∈ m, RdX (foot lb ob) w p.2
  ok : LOk m last
  ne : ob ≠ some lb
theorem LsAt.ltd (h : LsAt w lb ob m last) : lb < w.heap.size := World.block_lt_of_cell? _ _ h.c0
theorem LsAt.tn (h : LsAt w lb ob m last) {G : Nat → Prop} (ht : Tn G w w') (hG : ∀ q, q < w.heap.size → ¬ G q) : LsAt w' lb ob m last :=
  ⟨ht.cell h.c0 (hG _ h.ltd), ht.cell h.c1 (hG _ h.ltd), h.mp.tn ht (fun b hb => hG b (h.mp.lt hb)), fun j => (ht.frozen (p := ⟨lb, j, none⟩) h.ltd (hG _ h.ltd)).trans (h.fz j), fun p hp => (h.rd p hp).tn ht (fun q hq hg => absurd hg (hG q hq)), h.ok, h.ne⟩
theorem LsAt.below (h : LsAt w lb ob m last) (hb : Below w.heap.size w w') : LsAt w' lb ob m last := h.tn (Tn.ofBelow (F := fun _ => False) hb) (fun _ _ e => e)

/-- What a lease is, wherever its vector lies. -/
def core (x : Lv) : Int × List Int × Int := (x.id, x.vs, x.till)
/-- The leases in the order of their ids. -/
def sortM (m : Lm) : List Lv := (sortZ (m.map (·.1))).filterMap (getL m)
/-- A slice of leases of one's own, each vector in a block of its own. -/
def LOwn (w : World) (B : Nat) (v : Value) (L : List Lv) : Prop := Own eLse w B v L ∧ ∀ x ∈ L, Own eVec w B x.sl x.vs ∧ ∀ q, x.sl.ownBlock = some q → v.ownBlock ≠ some q
theorem LOwn.below {v : Value} {L : List Lv} (h : LOwn w B v L) (hb : Below w.heap.size w w') : LOwn w' B v L := ⟨row_below h.1 hb, fun x hx => ⟨row_below (h.2 x hx).1 hb, (h.2 x hx).2⟩⟩
theorem LOwn.add {v v' : Value} {L : List Lv} {x : Lv} (h : LOwn w B v L) (hB : B ≤ w.heap.size) (hx : Own eVec w1 w.heap.size x.sl x.vs) (hb : Below w.heap.size w w1) (hb2 : Below w1.heap.size w1 w2)
    (ho : Own eLse w3 B v' (L ++ [x])) (hg : w2.grownBy w3 v.ownBlock) (hv : v'.ownBlock = v.ownBlock ∨ v'.ownBlock = some w2.heap.size) : LOwn w3 B v' (L ++ [x]) := by
  have ht : Tn (fun q => v.ownBlock = some q) w2 w3 := Tn.ofGrown hg (fun q hq => hq)
  have hz1 := hb.size
  have hz2 := hb2.size
  refine ⟨ho, fun y hy => ?_⟩
  rcases List.mem_append.1 hy with hy | hy
  · obtain ⟨h1, h2⟩ := h.2 y hy
    have hlt := h1.lt
    refine ⟨ht.row (row_below (row_below h1 hb) hb2) (fun q hq hv => h2 q hq hv), fun q hq => ?_⟩
    rcases hv with e | e
    · rw [e]; exact h2 q hq
    · rw [e]
      intro e2
      have := (hlt q hq).2
      have := Option.some.inj e2
      omega
  · rw [List.mem_singleton] at hy
    subst hy
    have hlt := hx.lt
    refine ⟨row_mono (ht.row (row_below hx hb2) (fun q hq hv => by have := (hlt q hq).1; have := (h.1.lt q hv).2; omega)) hB, fun q hq => ?_⟩
    rcases hv with e | e
    · rw [e]
      intro e2
      have := (hlt q hq).1
      have := (h.1.lt q e2).2
      omega
    · rw [e]
      intro e2
      have := (hlt q hq).2
      have := Option.some.inj e2
      omega

theorem getL_some {m : Lm} {k : Int} (h : k ∈ m.map (·.1)) : ∃ x, getL m k = some x ∧ (k, x) ∈ m := by
  induction m with
  | nil => simp at h
  | cons p m ih =>
    by_cases hp : p.1 = k
    · subst hp
      exact ⟨p.2, by simp [getL], List.mem_cons_self⟩
    · have h' : k ∈ m.map (·.1) := by
        rw [List.map_cons] at h
        exact (List.mem_cons.1 h).resolve_left (fun e => hp e.symm)
      obtain ⟨x, h1, h2⟩ := ih h'
      exact ⟨x, by simpa [getL, List.find?_cons, hp] using h1, List.mem_cons_of_mem _ h2⟩
theorem sortZ_mem {l : List Int} {k : Int} : k ∈ sortZ l ↔ k ∈ l := (List.mergeSort_perm l _).mem_iff
theorem sortZ_len (l : List Int) : (sortZ l).length = l.length := (List.mergeSort_perm l _).length_eq

/-- The vectors lie apart. -/
def Sep (L : List Lv) : Prop := L.Pairwise (fun x y => ∀ q, x.sl.ownBlock = some q → y.sl.ownBlock ≠ some q)
theorem Sep.add {L : List Lv} {x : Lv} {n : Nat} (h : Sep L) (hL : ∀ y ∈ L, ∀ q, y.sl.ownBlock = some q → q < n) (hx : ∀ q, x.sl.ownBlock = some q → n ≤ q) : Sep (L ++ [x]) :=
  List.pairwise_append.2 ⟨h, List.pairwise_singleton _ _, fun y hy z hz q hq e => by
    rw [List.mem_singleton.1 hz] at e
    have := hL y hy q hq
    have := hx q e
    omega⟩
set_option maxRecDepth 100000 in
set_option maxHeartbeats 2000000 in
theorem list_any2 (h : LsAt w lb ob m last) : Calls Tryz.prog 39 #[.pointer (some ⟨lb, 0, none⟩)] w fun e w' =>
    ∃ a c L, e = .returned (.slice a m.length c) ∧ L.map core = (sortM m).map core ∧ L.length = m.length ∧ LOwn w' w.heap.size (.slice a m.length c) L ∧ Below w.heap.size w w' ∧ Sep L := by
  have c0 := h.c0
  have H := Lib.hid h
  have hlt := h.ltd
  have hk := sorted_any (w := w.alloc (.cells #[.map ob] 30)) (Bm := w.heap.size) (h.mp.below ((Below.refl _ _).alloc (Nat.le_refl _) _)) (fun p hp => by have := h.ok.key p hp; have := h.ok.last; omega) (by have := h.ok.few; omega) (by simp [go_sem])
  obtain ⟨n, hn⟩ : ∃ n, m.length = n := ⟨_, rfl⟩
  rw [hn] at hk ⊢
  have HN := Lib.hid hn
  have HK := Lib.hid hk
  clear h hk hn
  go_enter Tryz.func39, Tryz.ntmps39
  go_wp2_with (go_at_call 115; refine (keys_any _ _).mono ?_; rintro e w' ⟨rfl, rfl⟩)
  refine HK.out.mono ?_
  rintro e w1 ⟨v, rfl, hrow, hb1⟩
  obtain ⟨ka, kc, rfl, _, _⟩ := row_form hrow
  have hn := HN.out
  have hz0 : (w.alloc (.cells #[.map ob] 30)).heap.size = w.heap.size + 1 := by simp
  have hb01 : Below w.heap.size w w1 := ((Below.refl _ _).alloc (Nat.le_refl _) _).trans (hb1.mono (by simp))
  have hkl : (sortZ (m.map (·.1))).length = n := by rw [sortZ_len, List.length_map, hn]
  have h1 := H.out.below hb01
  have H1 := Lib.hid (And.intro hrow (And.intro hb01 (And.intro hkl (And.intro h1 hn))))
  have hn16 : n ≤ 16 := by have := h1.ok.few; omega
  clear hrow hb1 hz0 hb01 hkl HK hn c0 h1
  go_wp2
  go_loopw [3, 5, 6, 16] (fun v _ _ iv wr => ∃ i : Nat, i ≤ n ∧ iv = .int .i64 (i : Int) ∧ ∃ a c L, v = .slice a i c ∧ L.length = i ∧ L.map core = (((sortZ (m.map (·.1))).take i).filterMap (getL m)).map core ∧ LOwn wr w1.heap.size (.slice a i c) L ∧ Below w1.heap.size w1 wr ∧ Sep L) (fun _ _ _ iv _ => n - (intOf iv).toNat)
  case atStart => exact ⟨0, by omega, rfl, none, 0, [], rfl, rfl, by simp, ⟨World.ownsRow_nil _ _ _ _, fun x hx => by simp at hx⟩, Below.refl _ _, List.Pairwise.nil⟩
  case round =>
    obtain ⟨i, hi, rfl, oa, oc, L, rfl, hLl, hLc, hLo, hb, hsep⟩ := hrel
    have HSP := Lib.hid hsep
    clear hsep
    have HB := Lib.hid (And.intro hLl (And.intro hLc (And.intro hLo hb)))
    have hr := H1.out.2.2.2.1.below hb
    have HR := Lib.hid hr
    have hbz := hb.size
    clear hLc
    by_cases hlt2 : i < n
    · have hik : i < (sortZ (m.map (·.1))).length := by rw [H1.out.2.2.1]; exact hlt2
      obtain ⟨k, hk⟩ : ∃ k, (sortZ (m.map (·.1)))[i] = k := ⟨_, rfl⟩
      have hkm : k ∈ m.map (·.1) := by rw [← hk]; exact sortZ_mem.1 (List.getElem_mem hik)
      obtain ⟨x, hx, hxm⟩ := getL_some hkm
      obtain ⟨g, rfl, d0⟩ : ∃ g, ka = some ⟨g, 0, none⟩ ∧ w1.cell? ⟨g, i, none⟩ = some (.int .i64 k) := by
        have h0 := H1.out.1
        rcases h0.2 with ⟨e, e0⟩ | ⟨g, cap', cur, e, hg, hh, hn', hc, hcl, htk⟩
        · omega
        · injection e with e1 e2 e3
          subst e1
          refine ⟨g, rfl, ?_⟩
          have h5 := h0.cellAt i (by omega)
          rw [h5, List.getElem?_map, List.getElem?_eq_getElem hik, hk]
          rfl
      have d1 : wr.cell? ⟨g, i, none⟩ = some (.int .i64 k) := (hb.cell (p := ⟨g, i, none⟩) (World.block_lt_of_cell? _ _ d0)).trans d0
      have hxr := hr.rd _ hxm
      have hxv := hr.ok.vec _ hxm
      obtain ⟨xi, xa, xc, xv, xt⟩ := x
      have hv8 : xv.length ≤ 8 := by
        simp only [validB, Bool.and_eq_true, decide_eq_true_eq] at hxv
        exact hxv.1.2
      have hlk : (Instr.lookup 30 (.map ob) (.int .i64 k) false).run Tryz.prog wr = .ok (.agg #[.int .i64 xi, .slice xa xv.length xc, .int .i64 xt]) wr := by
        have h5 := MapV.look hr.mp keyZ und_map (z := .agg #[.int .i64 0, .slice none 0 0, .int .i64 0]) (Tryz.zeroValue65 _) false k
        rw [hx] at h5
        exact h5
      have c0 := hr.c0
      obtain ⟨W1, hW1⟩ : ∃ W1, wr.alloc (.cells #[.int .i64 xi, .slice xa xv.length xc, .int .i64 xt] 65) = W1 := ⟨_, rfl⟩
      have hbW : Below wr.heap.size wr W1 := by rw [← hW1]; exact (Below.refl _ _).alloc (Nat.le_refl _) _
      have hzW : W1.heap.size = wr.heap.size + 1 := by rw [← hW1]; simp
      have q0 : W1.cell? ⟨wr.heap.size, 0, none⟩ = some (.int .i64 xi) := by rw [← hW1]; simp [go_sem]
      have q1 : W1.cell? ⟨wr.heap.size, 1, none⟩ = some (.slice xa xv.length xc) := by rw [← hW1]; simp [go_sem]
      have q2 : W1.cell? ⟨wr.heap.size, 2, none⟩ = some (.int .i64 xt) := by rw [← hW1]; simp [go_sem]
      have qf : ∀ j, W1.frozen? ⟨wr.heap.size, j, none⟩ = false := fun j => by rw [← hW1]; simp [go_sem]
      have hcl := clone_any (RdI.below hxr.rd hbW) (by show xv.length ≤ _; omega)
      have hcl' : Calls Tryz.prog 30 #[.slice xa xv.length xc] W1 fun e w' => ∃ a c, e = .returned (.slice a xv.length c) ∧ Own eVec w' W1.heap.size (.slice a xv.length c) xv ∧ Below W1.heap.size W1 w' := hcl
      obtain ⟨nv, hnv⟩ : ∃ nv, xv.length = nv := ⟨_, rfl⟩
      rw [hnv] at hlk q1 hW1 hcl' hv8
      have HX := Lib.hid (And.intro hx (And.intro hxm (And.intro hnv (And.intro hk (And.intro hbW (And.intro hzW hik))))))
      have r1 : (i : Int) < (n : Int) := by omega
      clear hx hxm hnv hk hbW hxr hxv hcl hkm d0 hLo hb hr hLl
      go_wp2_with (first
        | (go_at_call 30; refine hcl'.mono ?_; rintro e w2 ⟨ca, cc, rfl, hco, hcb⟩; have p0 := (hcb.cell (p := ⟨wr.heap.size, 0, none⟩) (by simp; omega)).trans q0; have p1 := (hcb.cell (p := ⟨wr.heap.size, 1, none⟩) (by simp; omega)).trans q1; have p2 := (hcb.cell (p := ⟨wr.heap.size, 2, none⟩) (by simp; omega)).trans q2; have pf := (hcb.frozen (p := ⟨wr.heap.size, 1, none⟩) (by simp; omega)).trans (qf 1)
           obtain ⟨W3, hW3⟩ : ∃ W3, w2.setCell ⟨wr.heap.size, 1, none⟩ (.slice ca nv cc) = W3 := ⟨_, rfl⟩
           have s0 : W3.cell? ⟨wr.heap.size, 0, none⟩ = some (.int .i64 xi) := by rw [← hW3, World.cell?_setCell_other _ _ _ _ (by intro e; injection e with _ e2; omega)]; exact p0
           have s1 : W3.cell? ⟨wr.heap.size, 1, none⟩ = some (.slice ca nv cc) := by rw [← hW3]; exact World.cell?_setCell_same _ _ _ p1
           have s2 : W3.cell? ⟨wr.heap.size, 2, none⟩ = some (.int .i64 xt) := by rw [← hW3, World.cell?_setCell_other _ _ _ _ (by intro e; injection e with _ e2; omega)]; exact p2
           have b3 : Below wr.heap.size wr W3 := by rw [← hW3]; exact (HX.out.2.2.2.2.1.trans (hcb.mono (by omega))).setCell (by simp) _
           have o3 : Own eVec W3 W1.heap.size (.slice ca nv cc) xv := by
             rw [← hW3]
             exact (Tn.setCell (F := fun q => q = wr.heap.size) w2 ⟨wr.heap.size, 1, none⟩ (.slice ca nv cc) rfl).row hco (fun q hq e => by have := (hco.lt q hq).1; omega)
           obtain ⟨W4, hW4⟩ : ∃ W4, W3.alloc (.cells #[.int .i64 xi, .slice ca nv cc, .int .i64 xt] 65) = W4 := ⟨_, rfl⟩
           have hsrc : Src eLse W4 (.slice (some ⟨W3.heap.size, 0, none⟩) 1 1) [⟨xi, ca, cc, xv, xt⟩] := by rw [← hW4]; exact src_one W3 _ _ _ (by show [Value.int .i64 xi, Value.slice ca xv.length cc, Value.int .i64 xt] = _; rw [HX.out.2.2.1]) 1
           have b4 : Below W3.heap.size W3 W4 := by rw [← hW4]; exact (Below.refl _ _).alloc (Nat.le_refl _) _
           have HC := Lib.hid (And.intro b3 (And.intro o3 (And.intro b4 hsrc))); clear hco hcb b3 o3 b4 hsrc)
        | (at_builtin; go_loud (refine wpl_app eLse rfl _ _ rfl rfl rfl (row_below HB.out.2.2.1.1 (HC.out.1.trans (HC.out.2.2.1.mono HC.out.1.size))) HC.out.2.2.2 (by rw [HB.out.1]; simp; omega) (Nat.le_trans hbz (Nat.le_trans HC.out.1.size HC.out.2.2.1.size)) ?_); rw [HB.out.1]; intro a5 cap5 w5 ho5 hb5 hg5 hv5; have H5 := Lib.hid (And.intro ho5 (And.intro hb5 (And.intro hg5 hv5))); clear ho5 hb5 hg5 hv5))
      go_roundw
      case rel =>
        have hown := HB.out.2.2.1.add hbz (x := ⟨xi, ca, cc, xv, xt⟩) (row_mono (by rw [show (⟨xi, ca, cc, xv, xt⟩ : Lv).sl = .slice ca nv cc from by show Value.slice ca xv.length cc = _; rw [HX.out.2.2.1]]; exact HC.out.2.1) (by omega)) HC.out.1 HC.out.2.2.1 (v' := .slice a5 (i + 1) cap5) H5.out.1 H5.out.2.2.1 H5.out.2.2.2
        refine ⟨i + 1, by omega, by go_num, a5, cap5, L ++ [⟨xi, ca, cc, xv, xt⟩], rfl, by rw [List.length_append, HB.out.1]; rfl, ?_, hown, HB.out.2.2.2.trans (((HC.out.1.trans (HC.out.2.2.1.mono HC.out.1.size)).mono hbz).trans H5.out.2.1), HSP.out.add (n := wr.heap.size) (fun y hy q hq => ((HB.out.2.2.1.2 y hy).1.lt q hq).2) (fun q hq => ?_)⟩
        rotate_left
        · rw [show (⟨xi, ca, cc, xv, xt⟩ : Lv).sl = .slice ca nv cc from by show Value.slice ca xv.length cc = _; rw [HX.out.2.2.1]] at hq
          have := (HC.out.2.1.lt q hq).1
          have := HX.out.2.2.2.2.2.1
          omega
        rw [List.map_append, HB.out.2.1, List.take_succ_eq_append_getElem HX.out.2.2.2.2.2.2, List.filterMap_append, List.map_append, HX.out.2.2.2.1]
        simp [HX.out.1, core]
      case measure => simp [intOf]; omega
    · obtain rfl : i = n := by omega
      clear hLo hb hr
      go_wp2
      go_ret
      have h6 := HB.out.2.1
      rw [List.take_of_length_le (by rw [H1.out.2.2.1]; omega)] at h6
      exact ⟨oa, oc, L, rfl, h6, HB.out.1, ⟨row_mono HB.out.2.2.1.1 H1.out.2.1.size, fun x hx => ⟨row_mono (HB.out.2.2.1.2 x hx).1 H1.out.2.1.size, (HB.out.2.2.1.2 x hx).2⟩⟩, H1.out.2.1.trans (HB.out.2.2.2.mono H1.out.2.1.size), HSP.out⟩
theorem list_any (h : LsAt w lb ob m last) : Calls Tryz.prog 39 #[.pointer (some ⟨lb, 0, none⟩)] w fun e w' =>
    ∃ a c L, e = .returned (.slice a m.length c) ∧ L.map core = (sortM m).map core ∧ L.length = m.length ∧ LOwn w' w.heap.size (.slice a m.length c) L ∧ Below w.heap.size w w' :=
  (list_any2 h).mono fun _ _ ⟨a, c, L, h1, h2, h3, h4, h5, _⟩ => ⟨a, c, L, h1, h2, h3, h4, h5⟩
end Go.Proofs.YtnegappgdpeabaaGreat
