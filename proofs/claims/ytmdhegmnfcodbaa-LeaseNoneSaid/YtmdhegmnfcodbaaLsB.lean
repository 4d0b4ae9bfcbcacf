/-
  Lease: vectors are cloned, met, compared.
-/
import Derived.Test.YtmdhegmnfcodbaaLsA
namespace Go.Proofs.Ytmdhegmnfcodbaa
open Go.RowKit

theorem qVec (w : World) (a : Option Addr) (n c n' c' : Nat) : (binOp .eql 28 (.slice a n c) (.slice none n' c')).run Try.prog w = .ok (.bool a.isNone) w := Lib.run_eql_slice_nil w _ _ a n c n' c' Try.underlying28
theorem own_empty (w : World) : Own eVec (w.alloc (.cells #[] 3)) w.heap.size (.slice (some ⟨w.heap.size, 0, none⟩) 0 0) [] :=
  ⟨rfl, .inr ⟨w.heap.size, 0, #[], rfl, Nat.le_refl _, heap_alloc_new w _, Nat.le_refl _, Nat.zero_le _, rfl, rfl⟩⟩
set_option maxRecDepth 100000 in
theorem clone_any {w : World} {x : Value} {l : List Int} (h : RdI w x l) (hl : l.length ≤ 1000000) : Calls Try.prog 22 #[x] w fun e w' => ∃ a c, e = .returned (.slice a l.length c) ∧ Own eVec w' w.heap.size (.slice a l.length c) l ∧ Below w.heap.size w w' := by
  obtain ⟨a, c, rfl, h⟩ := h
  have hq := qVec
  cases a with
  | none =>
    have h0 : l = [] := h.resolve_right (by rintro ⟨b, off, e, _⟩; cases e)
    subst h0
    go_enter Try.func22, Try.ntmps22
    go_wp2_with fail
    go_ret
    exact ⟨none, 0, rfl, World.ownsRow_nil _ _ _ _, Below.refl _ _⟩
  | some ad =>
    have hsrc : Src eVec w (.slice (some ad) l.length c) l := by
      refine .inr ⟨ad, c, rfl, fun j u hj => ?_⟩
      rcases h with rfl | ⟨b, off, e, hlt, hc⟩
      · simp at hj
      · injection e with e
        subst e
        have hjl : j < l.length := by have := (List.getElem?_eq_some_iff.1 hj).1; rw [eVec.lens] at this; omega
        have h5 := eVec.get l j 0 hjl (by omega)
        rw [Nat.mul_one, Nat.add_zero] at h5
        rw [h5] at hj
        rw [add_off, hc j hjl, ← hj]
        rfl
    obtain ⟨W1, hW1⟩ : ∃ W1, w.alloc (.cells #[] 3) = W1 := ⟨_, rfl⟩
    have ho1 : Own eVec W1 w.heap.size (.slice (some ⟨w.heap.size, 0, none⟩) 0 0) [] := by rw [← hW1]; exact own_empty w
    have hb1 : Below w.heap.size w W1 := by rw [← hW1]; exact (Below.refl _ _).alloc (Nat.le_refl _) _
    have hz1 : w.heap.size ≤ W1.heap.size := hb1.size
    have hs1 : Src eVec W1 (.slice (some ad) l.length c) l := by
      refine .inr ⟨ad, c, rfl, fun j u hj => ?_⟩
      have h7 : w.cell? (ad.add j) = some u := by
        rcases hsrc with ⟨e, _⟩ | ⟨ad', c', e, h7⟩
        · cases e
        · injection e with e1 e2 e3
          injection e1 with e1
          subst e1
          exact h7 j u hj
      exact (hb1.cell (World.block_lt_of_cell? _ _ h7)).trans h7
    have H := Lib.hid (And.intro ho1 (And.intro hs1 (And.intro hb1 hz1)))
    obtain ⟨n, hn⟩ : ∃ n, l.length = n := ⟨_, rfl⟩
    rw [hn] at hl H ⊢
    have HN := Lib.hid hn
    clear h hsrc ho1 hb1 hz1 hs1 hn
    go_enter Try.func22, Try.ntmps22
    go_wp2_with (at_builtin; go_loud (refine wpl_app eVec (l := []) rfl _ _ rfl rfl rfl H.out.1 H.out.2.1 (by simp; rw [HN.out]; omega) H.out.2.2.2 ?_); intro a3 cap3 w3 ho3 hb3 _ _; have H3 := Lib.hid (And.intro ho3 (H.out.2.2.1.trans hb3)); clear ho3 hb3)
    go_ret
    have h5 := H3.out.1
    rw [List.nil_append, show ([] : List Int).length + l.length = n by rw [HN.out]; simp] at h5
    exact ⟨a3, cap3, by rw [HN.out]; rfl, h5, H3.out.2⟩

theorem meet1_any (s t : Int) (w : World) : Calls Try.prog 36 #[.int .i64 s, .int .i64 t] w fun e w' => e = .returned (.int .i64 (min s t)) ∧ w = w' := by
  by_cases h : s ≤ t
  · rw [Int.min_eq_left h]
    go_enter Try.func36, Try.ntmps36
    go_wp2
    go_ret
    exact ⟨by first | rfl | (simp; omega), rfl⟩
  · rw [Int.min_eq_right (by omega)]
    go_enter Try.func36, Try.ntmps36
    go_wp2
    go_ret
    exact ⟨by first | rfl | (simp; omega), rfl⟩
def meetV (a b : List Int) : List Int := List.zipWith min a b
theorem meetV_len {a b : List Int} (h : a.length = b.length) : (meetV a b).length = a.length := by simp [meetV, h]
theorem meetV_take {a b : List Int} {i : Nat} (ha : i < a.length) (hb : i < b.length) : (meetV a b).take (i + 1) = (meetV a b).take i ++ [min a[i] b[i]] := by
  unfold meetV
  rw [List.take_succ_eq_append_getElem (by simp; omega)]
  simp
set_option maxRecDepth 100000 in
set_option maxHeartbeats 1000000 in
theorem each_any {w : World} {x y : Value} {a b : List Int} (hx : RdI w x a) (hy : RdI w y b) (hl : a.length = b.length) (hn8 : a.length ≤ 1000000) :
    Calls Try.prog 35 #[x, y, .func (.func 36) #[] #[]] w fun e w' => ∃ ao c, e = .returned (.slice ao a.length c) ∧ Own eVec w' w.heap.size (.slice ao a.length c) (meetV a b) ∧ Below w.heap.size w w' := by
  obtain ⟨a1, c1, rfl, h1⟩ := hx
  obtain ⟨a2, c2, rfl, h2⟩ := hy
  obtain ⟨n, hn⟩ : ∃ n, a.length = n := ⟨_, rfl⟩
  rw [← hl, hn]
  rw [hn] at hn8
  have HN := Lib.hid (And.intro hn (hl.symm.trans hn))
  have H := Lib.hid (And.intro h1 h2)
  have t0 : ((n : Int) != (n : Int)) = false := by simp
  clear h1 h2 hn hl
  go_enter Try.func35, Try.ntmps35
  go_wp2
  go_loopw [7, 8, 9, 17] (fun v _ _ iv wr => ∃ i : Nat, i ≤ n ∧ iv = .int .i64 (i : Int) ∧ ∃ ao c, v = .slice ao i c ∧ Own eVec wr w.heap.size (.slice ao i c) ((meetV a b).take i) ∧ Below w.heap.size w wr) (fun _ _ _ iv _ => n - (intOf iv).toNat)
  case atStart => exact ⟨0, by omega, rfl, none, 0, rfl, World.ownsRow_nil _ _ _ _, Below.refl _ _⟩
  case round =>
    obtain ⟨i, hi, rfl, ao, co, rfl, ho, hb⟩ := hrel
    have HO := Lib.hid (And.intro ho hb)
    by_cases hlt : i < n
    · have hil : i < a.length := by have := HN.out; omega
      have hil2 : i < b.length := by have := HN.out; omega
      obtain ⟨b1, o1, rfl, l1, k1⟩ := H.out.1.resolve_left (fun e => by rw [e] at hil; simp at hil)
      obtain ⟨b2, o2, rfl, l2, k2⟩ := H.out.2.resolve_left (fun e => by rw [e] at hil2; simp at hil2)
      have d1 := (hb.cell (p := ⟨b1, o1 + i, none⟩) l1).trans (k1 i hil)
      have d2 := (hb.cell (p := ⟨b2, o2 + i, none⟩) l2).trans (k2 i hil2)
      have htk := meetV_take hil hil2
      obtain ⟨u, hu⟩ : ∃ u, a[i] = u := ⟨_, rfl⟩
      obtain ⟨v, hv⟩ : ∃ v, b[i] = v := ⟨_, rfl⟩
      rw [hu] at d1 htk
      rw [hv] at d2 htk
      have hM := meet1_any u v
      obtain ⟨z, hz⟩ : ∃ z, min u v = z := ⟨_, rfl⟩
      rw [hz] at hM htk
      have HT := Lib.hid htk
      have r1 : (i : Int) < (n : Int) := by omega
      have hlm : ((meetV a b).take i).length = i := by rw [List.length_take, meetV_len (by have := HN.out; omega), HN.out.1]; omega
      obtain ⟨W1, hW1⟩ : ∃ W1, wr.alloc (.cells #[.int .i64 z] 3) = W1 := ⟨_, rfl⟩
      have hsrc : Src eVec W1 (.slice (some ⟨wr.heap.size, 0, none⟩) 1 1) [z] := by rw [← hW1]; exact src_one wr z _ _ rfl 1
      have ho1 : Own eVec W1 w.heap.size (.slice ao i co) ((meetV a b).take i) := by rw [← hW1]; exact row_below ho ((Below.refl _ _).alloc (Nat.le_refl _) _)
      have hb1 : Below w.heap.size w W1 := by rw [← hW1]; exact hb.alloc hb.size _
      have H1 := Lib.hid (And.intro ho1 (And.intro hsrc (And.intro hb1 hlm)))
      clear k1 k2 hu hv hz htk ho hb hsrc ho1 hb1 hlm
      go_wp2_with (first
        | (go_at_call 36; refine (hM _).mono ?_; rintro e w1 ⟨rfl, rfl⟩)
        | (at_builtin; go_loud (refine wpl_app eVec rfl _ _ rfl rfl rfl H1.out.1 H1.out.2.1 (by rw [H1.out.2.2.2]; simp; omega) H1.out.2.2.1.size ?_); rw [H1.out.2.2.2]; intro a3 cap3 w3 ho3 hb3 _ _; have H3 := Lib.hid (And.intro ho3 (H1.out.2.2.1.trans hb3)); clear ho3 hb3))
      go_roundw
      case rel => exact ⟨i + 1, by omega, by go_num, a3, cap3, rfl, by rw [HT.out]; exact H3.out.1, H3.out.2⟩
      case measure => simp [intOf]; omega
    · obtain rfl : i = n := by omega
      clear ho hb
      go_wp2
      go_ret
      have h5 := HO.out.1
      rw [List.take_of_length_le (by rw [meetV_len (by have := HN.out; omega), HN.out.1]; omega)] at h5
      exact ⟨ao, co, rfl, h5, HO.out.2⟩
theorem meet_any {w : World} {x y : Value} {a b : List Int} (hx : RdI w x a) (hy : RdI w y b) (hl : a.length = b.length) (hn8 : a.length ≤ 1000000) :
    Calls Try.prog 24 #[x, y] w fun e w' => ∃ ao c, e = .returned (.slice ao a.length c) ∧ Own eVec w' w.heap.size (.slice ao a.length c) (meetV a b) ∧ Below w.heap.size w w' := by
  have hE := each_any hx hy hl hn8
  obtain ⟨a1, c1, rfl, h1⟩ := hx
  obtain ⟨a2, c2, rfl, h2⟩ := hy
  clear h1 h2
  obtain ⟨n, hn⟩ : ∃ n, a.length = n := ⟨_, rfl⟩
  rw [← hl, hn] at hE ⊢
  clear hl hn hn8
  go_enter Try.func24, Try.ntmps24
  go_wp2_with (go_at_call 35; refine hE.mono ?_; rintro e w1 ⟨ao, c, rfl, ho, hb⟩; have H1 := Lib.hid (And.intro ho hb); clear ho hb)
  go_ret
  exact ⟨ao, c, rfl, H1.out⟩

/-- No time of a vector is above another one's. -/
def leqV (a b : List Int) : Prop := a.length = b.length ∧ ∀ i (h : i < a.length) (h2 : i < b.length), a[i] ≤ b[i]
set_option maxRecDepth 100000 in
theorem leq_any {w : World} {x y : Value} {a b : List Int} (hx : RdI w x a) (hy : RdI w y b) (h : leqV a b) (hl : a.length ≤ 1000000) :
    Calls Try.prog 12 #[x, y] w fun e w' => e = .returned (.bool true) ∧ ∃ k, w' = w.drewN k := by
  obtain ⟨a1, c1, rfl, h1⟩ := hx
  obtain ⟨a2, c2, rfl, h2⟩ := hy
  obtain ⟨n, hn⟩ : ∃ n, a.length = n := ⟨_, rfl⟩
  rw [← h.1, hn]
  rw [hn] at hl
  have HN := Lib.hid (And.intro hn h)
  have H := Lib.hid (And.intro h1 h2)
  have t0 : ((n : Int) != (n : Int)) = false := by simp
  clear h1 h2 hn h
  go_enter Try.func12, Try.ntmps12
  go_wp2
  go_loopw [5] (fun iv wr => ∃ i : Nat, i ≤ n ∧ iv = .int .i64 (i : Int) ∧ ∃ k, wr = w.drewN k) (fun iv _ => n - (intOf iv).toNat)
  case atStart => exact ⟨0, by omega, rfl, 0, rfl⟩
  case round =>
    obtain ⟨i, hi, rfl, k, rfl⟩ := hrel
    by_cases hlt : i < n
    · have hil : i < a.length := by have := HN.out.1; omega
      have hil2 : i < b.length := by have := HN.out.2.1; omega
      obtain ⟨b1, o1, rfl, l1, k1⟩ := H.out.1.resolve_left (fun e => by rw [e] at hil; simp at hil)
      obtain ⟨b2, o2, rfl, l2, k2⟩ := H.out.2.resolve_left (fun e => by rw [e] at hil2; simp at hil2)
      have d1 := k1 i hil
      have d2 := k2 i hil2
      have hle := HN.out.2.2 i hil hil2
      obtain ⟨u, hu⟩ : ∃ u, a[i] = u := ⟨_, rfl⟩
      obtain ⟨v, hv⟩ : ∃ v, b[i] = v := ⟨_, rfl⟩
      rw [hu] at d1 hle
      rw [hv] at d2 hle
      have t1 : ¬ v < u := by omega
      have hbl : n = b.length := by have := HN.out.1; have := HN.out.2.1; omega
      have r1 : (i : Int) < (n : Int) := by omega
      have HBL := Lib.hid hbl
      clear k1 k2 hu hv hle hbl
      go_wp2
      go_quiet (fail)
      go_wp2
      go_roundw
      case rel => exact ⟨i + 1, by omega, by go_num, _, rfl⟩
      case measure => simp [intOf]; omega
    · obtain rfl : i = n := by omega
      go_wp2
      go_ret
      exact ⟨rfl, _, rfl⟩
end Go.Proofs.Ytmdhegmnfcodbaa
