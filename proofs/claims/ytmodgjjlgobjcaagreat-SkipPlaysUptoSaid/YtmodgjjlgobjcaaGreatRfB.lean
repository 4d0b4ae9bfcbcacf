/-
  The document's list of pairs: Before, Bytes, From.
-/
import Derived.Test.YtmodgjjlgobjcaaGreatRfA
namespace Go.Proofs.YtmodgjjlgobjcaaGreat
open Go.RowKit

set_option maxRecDepth 100000 in
set_option maxHeartbeats 1000000 in
theorem rbefore_any {w : World} {rb B : Nat} {lv : Value} {E : List Nd} {fr : Bool} (h : RfAt w rb lv B E fr) (k : ByteArray) (hk : k.size ≤ 1000000) :
    Calls Tryz.prog 15 #[.pointer (some ⟨rb, 0, none⟩), .string k] w fun e w' => e = .returned (.tuple #[.string (lastOf E k).1, .string (lastOf E k).2.1, .bool (lastOf E k).2.2]) ∧ Below w.heap.size w w' := by
  obtain ⟨a, cap, rfl⟩ := rf_form h
  have c0 := h.c0
  have hlen := h.len
  have hat := rat_any h k hk
  have HAT := Lib.hid hat
  obtain ⟨n, hn⟩ : ∃ n, n = E.length := ⟨_, rfl⟩
  rw [← hn] at c0 hlen h
  have H := Lib.hid h
  have HN := Lib.hid hn
  have hbl := below_le E k
  rw [← hn] at hbl
  obtain ⟨i, hi⟩ : ∃ i, i = below E k := ⟨_, rfl⟩
  rw [← hi] at hbl
  have hri : below E k = i := hi.symm
  have HRI := Lib.hid hri
  clear h hn hat hi hri
  cases i with
  | zero =>
    have hlast : lastOf E k = (⟨#[]⟩, ⟨#[]⟩, false) := by
      unfold lastOf
      rw [HRI.out]
      cases E[0 - 1]? <;> rfl
    have HLAST := Lib.hid hlast
    clear hlast
    go_enter Tryz.func15, Tryz.ntmps15
    go_wp2_with (go_at_call 30; refine HAT.out.mono ?_; rintro _ w1 ⟨rfl, hb1⟩; rw [HRI.out]; have HB1 := Lib.hid hb1; clear hb1; simp only [])
    refine ⟨rfl, .tuple #[.string ⟨#[]⟩, .string ⟨#[]⟩, .bool false], ?_, ?_, HB1.out⟩
    · simp [results, Tryz.results15, go_sem]
    · rw [HLAST.out]
  | succ q =>
    have hil : q < E.length := by have := HN.out; omega
    obtain ⟨g, cap', hv, _, hg, k0, k1, _⟩ := rf_cells (H.out.row) hil
    injection hv with e1 e2 e3
    subst e1
    obtain ⟨x, hx⟩ : ∃ x, E[q] = x := ⟨_, rfl⟩
    have hq : E[q]? = some x := by rw [List.getElem?_eq_getElem hil, hx]
    rw [hx] at k0 k1
    have hlast : lastOf E k = (x.k, x.v, true) := by
      unfold lastOf
      rw [HRI.out]
      simp [hq]
    have HLAST := Lib.hid hlast
    obtain ⟨kk, hkk⟩ : ∃ kk, kk = x.k := ⟨_, rfl⟩
    obtain ⟨vv, hvv⟩ : ∃ vv, vv = x.v := ⟨_, rfl⟩
    rw [← hkk] at k0
    rw [← hvv] at k1
    have HKV := Lib.hid (And.intro hkk hvv)
    have r1 : (q : Int) < (n : Int) := by omega
    have r2 : ((q + 1 : Nat) : Int) - 1 = (q : Int) := by omega
    have r3 : (((q : Int) + 1) == 0) = false := by simp; omega
    clear e2 e3 hq hx hlast hkk hvv
    go_enter Tryz.func15, Tryz.ntmps15
    go_wp2_with (go_at_call 30; refine HAT.out.mono ?_; rintro _ w1 ⟨rfl, hb1⟩; rw [HRI.out]; have HB1 := Lib.hid hb1; have d0 := (hb1.cell (p := ⟨rb, 0, none⟩) (World.block_lt_of_cell? _ _ c0)).trans c0; have d1 := (hb1.cell (p := ⟨g, q * 3, none⟩) (World.block_lt_of_cell? _ _ k0)).trans k0; have d2 := (hb1.cell (p := ⟨g, q * 3 + 1, none⟩) (World.block_lt_of_cell? _ _ k1)).trans k1; clear hb1 c0 k0 k1; simp only [])
    go_quiet (fail)
    go_wp2
    refine ⟨rfl, .tuple #[.string kk, .string vv, .bool true], ?_, ?_, below_drewN HB1.out _⟩
    · simp [results, Tryz.results15, go_sem]
    · rw [HLAST.out, ← HKV.out.1, ← HKV.out.2]

theorem bytesOf_take_succ (E : List Nd) (i : Nat) (hi : i < E.length) : bytesOf (E.take (i + 1)) = bytesOf (E.take i) + (E[i].k.size + E[i].v.size) := by
  unfold bytesOf
  rw [List.take_succ_eq_append_getElem hi, List.map_append, List.sum_append]
  simp
theorem bytesOf_le (E : List Nd) (h : ∀ n ∈ E, n.k.size ≤ 65536 ∧ n.v.size ≤ 65536) (hl : E.length ≤ 100000) : ∀ i, bytesOf (E.take i) ≤ 131072 * i
  | 0 => by simp [bytesOf]
  | i + 1 => by
    have ih := bytesOf_le E h hl i
    by_cases hi : i < E.length
    · rw [bytesOf_take_succ E i hi]
      have := h E[i] (List.getElem_mem hi)
      omega
    · rw [List.take_of_length_le (by omega)]
      rw [List.take_of_length_le (by omega)] at ih
      omega
set_option maxRecDepth 100000 in
set_option maxHeartbeats 1000000 in
theorem rbytes_any {w : World} {rb B : Nat} {lv : Value} {E : List Nd} {fr : Bool} (h : RfAt w rb lv B E fr) :
    Calls Tryz.prog 26 #[.pointer (some ⟨rb, 0, none⟩)] w fun e w' => e = .returned (.int .i64 (bytesOf E : Int)) ∧ Below w.heap.size w w' := by
  obtain ⟨a, cap, rfl⟩ := rf_form h
  have c0 := h.c0
  have hlen := h.len
  obtain ⟨n, hn⟩ : ∃ n, n = E.length := ⟨_, rfl⟩
  rw [← hn] at c0 hlen h
  have H := Lib.hid h
  have HN := Lib.hid hn
  clear h hn
  go_enter Tryz.func26, Tryz.ntmps26
  go_wp2
  go_loopw [3, 4] (fun y x wr => ∃ (i b : Nat), i ≤ n ∧ x = .int .i64 (i : Int) ∧ y = .int .i64 (b : Int) ∧ b = bytesOf (E.take i) ∧ Below w.heap.size w wr) (fun _ x _ => n - (intOf x).toNat)
  case atStart => exact ⟨0, 0, by omega, rfl, rfl, by simp [bytesOf], Below.refl _ _⟩
  case round =>
    obtain ⟨i, b, hi, rfl, rfl, hb, hbel⟩ := hrel
    have HB := Lib.hid hbel
    have HBB := Lib.hid hb
    have d0 := (hbel.cell (p := ⟨rb, 0, none⟩) (World.block_lt_of_cell? _ _ c0)).trans c0
    have hbb : b ≤ 131072 * i := by rw [hb]; exact bytesOf_le E H.out.keys (by have := HN.out; omega) i
    clear hbel hb
    by_cases hlt : i < n
    · have hil : i < E.length := by have := HN.out; omega
      obtain ⟨g, cap', hv, _, hg, k0, k1, _⟩ := rf_cells (H.out.row) hil
      injection hv with e1 e2 e3
      subst e1
      have d1 := (HB.out.cell (p := ⟨g, i * 3, none⟩) (World.block_lt_of_cell? _ _ k0)).trans k0
      have d2 := (HB.out.cell (p := ⟨g, i * 3 + 1, none⟩) (World.block_lt_of_cell? _ _ k1)).trans k1
      have hst := bytesOf_take_succ E i hil
      have hkb := H.out.keys E[i] (List.getElem_mem hil)
      obtain ⟨x, hx⟩ : ∃ x, E[i] = x := ⟨_, rfl⟩
      rw [hx] at d1 d2 hst hkb
      obtain ⟨kk, hkk⟩ : ∃ kk, kk = x.k := ⟨_, rfl⟩
      obtain ⟨vv, hvv⟩ : ∃ vv, vv = x.v := ⟨_, rfl⟩
      rw [← hkk, ← hvv] at hst hkb
      rw [← hkk] at d1
      rw [← hvv] at d2
      have HST := Lib.hid hst
      have r1 : (i : Int) < (n : Int) := by omega
      clear e2 e3 hx hst hkk hvv k0 k1
      go_wp2
      go_quiet (fail)
      go_wp2
      go_roundw
      case rel => exact ⟨i + 1, b + (kk.size + vv.size), by omega, by go_num, by go_num, by rw [HST.out, HBB.out], below_drewN HB.out _⟩
      case measure => simp [intOf]; omega
    · obtain rfl : i = n := by omega
      go_wp2
      go_ret
      exact ⟨ret_i (by rw [HBB.out, List.take_of_length_le (by have := HN.out; omega)]), HB.out⟩

theorem fromOf_len (E : List Nd) (k : ByteArray) (most : Int) : (fromOf E k most).length ≤ E.length := by
  unfold fromOf
  split
  · simp; omega
  · simp
set_option maxRecDepth 100000 in
set_option maxHeartbeats 2000000 in
theorem rfrom_any {w : World} {rb B : Nat} {lv : Value} {E : List Nd} {fr : Bool} (h : RfAt w rb lv B E fr) (k : ByteArray) (hk : k.size ≤ 1000000) (most : Int) (hm0 : -9223372036854775808 ≤ most) (hm1 : most ≤ 9223372036854775807) :
    Calls Tryz.prog 13 #[.pointer (some ⟨rb, 0, none⟩), .string k, .int .i64 most] w fun e w' => ∃ v, e = .returned v ∧ Own eKV w' w.heap.size v (fromOf E k most) ∧ Below w.heap.size w w' := by
  obtain ⟨a, cap, rfl⟩ := rf_form h
  have c0 := h.c0
  have hlen := h.len
  have hat := rat_any h k hk
  have HAT := Lib.hid hat
  obtain ⟨n, hn⟩ : ∃ n, n = E.length := ⟨_, rfl⟩
  rw [← hn] at c0 hlen h
  have H := Lib.hid h
  have HN := Lib.hid hn
  have hbl := below_le E k
  rw [← hn] at hbl
  obtain ⟨b, hi⟩ : ∃ i, i = below E k := ⟨_, rfl⟩
  rw [← hi] at hbl
  have hri : below E k = b := hi.symm
  have HRI := Lib.hid hri
  clear h hn hat hi hri
  go_enter Tryz.func13, Tryz.ntmps13
  go_wp2_with (go_at_call 30; refine HAT.out.mono ?_; rintro _ w1 ⟨rfl, hb1⟩; rw [HRI.out]; have HB1 := Lib.hid hb1; clear hb1; simp only [])
  go_loopw [7, 8] (fun y x wr => ∃ (j : Nat), b + j ≤ n ∧ x = .int .i64 ((b + j : Nat) : Int) ∧ Own eKV wr w.heap.size y (((E.drop b).take j).map kvOf) ∧ (0 ≤ most → (j : Int) ≤ most) ∧ Below w.heap.size w wr) (fun _ x _ => n - (intOf x).toNat)
  case atStart => exact ⟨0, by omega, rfl, World.ownsRow_nil _ _ _ _, fun h => h, HB1.out⟩
  case round =>
    obtain ⟨j, hj, rfl, hown, hmost, hbel⟩ := hrel
    have hlj : (((E.drop b).take j).map kvOf).length = j := by rw [List.length_map, List.length_take, List.length_drop]; have := HN.out; omega
    obtain ⟨av, capv, rfl, _, _⟩ := row_form hown
    rw [hlj] at hown ⊢
    have HO := Lib.hid hown
    have HB := Lib.hid hbel
    have HLJ := Lib.hid hlj
    have HMO := Lib.hid hmost
    have d0 := (hbel.cell (p := ⟨rb, 0, none⟩) (World.block_lt_of_cell? _ _ c0)).trans c0
    clear hbel hown hlj hmost
    by_cases hend : b + j < n ∧ (most < 0 ∨ (j : Int) < most)
    · obtain ⟨hlt, hcond⟩ := hend
      have hil : b + j < E.length := by have := HN.out; omega
      obtain ⟨g, cap', hv, _, hg, k0, k1, _⟩ := rf_cells (H.out.row) hil
      injection hv with e1 e2 e3
      subst e1
      have d1 := (HB.out.cell (p := ⟨g, (b + j) * 3, none⟩) (World.block_lt_of_cell? _ _ k0)).trans k0
      have d2 := (HB.out.cell (p := ⟨g, (b + j) * 3 + 1, none⟩) (World.block_lt_of_cell? _ _ k1)).trans k1
      have hst : ((E.drop b).take (j + 1)).map kvOf = ((E.drop b).take j).map kvOf ++ [kvOf E[b + j]] := by
        rw [List.take_succ_eq_append_getElem (by rw [List.length_drop]; omega), List.map_append, List.getElem_drop]; rfl
      obtain ⟨x, hx⟩ : ∃ x, E[b + j] = x := ⟨_, rfl⟩
      rw [hx] at d1 d2 hst
      obtain ⟨kk, hkk⟩ : ∃ kk, kk = x.k := ⟨_, rfl⟩
      obtain ⟨vv, hvv⟩ : ∃ vv, vv = x.v := ⟨_, rfl⟩
      have hkv : kvOf x = (kk, vv) := by rw [hkk, hvv]; rfl
      rw [hkv] at hst
      rw [← hkk] at d1
      rw [← hvv] at d2
      have HST := Lib.hid hst
      obtain ⟨W1, hW1⟩ : ∃ W1, wr.alloc (.cells #[.string kk, .string vv] 74) = W1 := ⟨_, rfl⟩
      have hsrc : Src eKV W1 (.slice (some ⟨wr.heap.size, 0, none⟩) 1 1) [(kk, vv)] := by
        rw [← hW1]
        exact src_one wr (kk, vv) _ _ rfl 1
      have ho1 : Own eKV W1 w.heap.size (.slice av j capv) (((E.drop b).take j).map kvOf) := by rw [← hW1]; exact World.ownsRow.alloc HO.out _
      have hb1 : Below w.heap.size w W1 := by rw [← hW1]; exact HB.out.alloc HB.out.size _
      have H1 := Lib.hid (And.intro ho1 (And.intro hb1 hsrc))
      have r1 : ((b : Int) + (j : Int)) < (n : Int) := by omega
      have r1n : b + j < n := hlt
      have hcond2 : decide (most < 0) = true ∨ decide (most < 0) = false ∧ decide ((j : Int) < most) = true := by
        by_cases h0 : most < 0
        · exact .inl (by simpa using h0)
        · exact .inr ⟨by simpa using h0, by simp; omega⟩
      have hcont : 0 ≤ most → ((j + 1 : Nat) : Int) ≤ most := fun h => by omega
      have HCT := Lib.hid hcont
      clear e2 e3 hx hst hkk hvv hkv k0 k1 hsrc ho1 hb1 hcond hcont
      rcases hcond2 with t1 | ⟨t1, t2⟩
      all_goals
        go_wp2_with (at_builtin; refine wpl_app eKV rfl _ _ rfl rfl rfl H1.out.1 H1.out.2.2 (by rw [HLJ.out]; simp; omega) H1.out.2.1.size ?_; rw [HLJ.out]; intro a3 cap3 w3 ho3 hb3 _ _; have H3 := Lib.hid (And.intro ho3 (H1.out.2.1.trans hb3)); clear ho3 hb3)
        go_roundw
        case rel => exact ⟨j + 1, by omega, by go_num, by rw [HST.out]; exact H3.out.1, HCT.out, H3.out.2⟩
        case measure => simp [intOf]; omega
    · have hres : ((E.drop b).take j).map kvOf = fromOf E k most := by
        unfold fromOf
        rw [HRI.out]
        have hl := HN.out
        have hmm := HMO.out
        by_cases h0 : 0 ≤ most
        · rw [if_pos h0]
          have := hmm h0
          by_cases hje : (j : Int) = most
          · rw [show most.toNat = j by omega]
          · have : b + j = n := by omega
            rw [List.take_of_length_le (by rw [List.length_drop]; omega), List.take_of_length_le (by rw [List.length_drop]; omega)]
        · rw [if_neg h0, List.take_of_length_le (by rw [List.length_drop]; omega)]
      rw [hres] at HO
      clear hres
      have hc : b + j = n ∨ (b + j < n ∧ decide (most < 0) = false ∧ decide ((j : Int) < most) = false) := by
        by_cases hlt : b + j < n
        · refine .inr ⟨hlt, by simp; omega, by simp; omega⟩
        · exact .inl (by omega)
      clear hend
      rcases hc with hc | ⟨hlt, t1, t2⟩
      · have t0 : ¬ ((b : Int) + (j : Int)) < (n : Int) := by omega
        have t0n : ¬ b + j < n := by omega
        clear hc
        go_wp2
        go_ret
        exact ⟨_, rfl, HO.out, HB.out⟩
      · have t0 : ((b : Int) + (j : Int)) < (n : Int) := by omega
        go_wp2
        go_ret
        exact ⟨_, rfl, HO.out, HB.out⟩
end Go.Proofs.YtmodgjjlgobjcaaGreat
