/-
  The document's list of pairs: Lanes, Steps.
-/
import Derived.Test.YtmodgjjlgobjcaaGreatRfB
namespace Go.Proofs.YtmodgjjlgobjcaaGreat
open Go.RowKit

def laneUp (E : List Nd) (h i : Nat) : Nat := laneN (E.take i) h
theorem laneUp_succ (E : List Nd) (h i : Nat) (hi : i < E.length) : laneUp E h (i + 1) = laneUp E h i + if h < E[i].h then 1 else 0 := by
  unfold laneUp laneN
  rw [List.take_succ_eq_append_getElem hi, List.countP_append]
  congr 1
  simp [List.countP_cons]
theorem laneUp_le (E : List Nd) (h i : Nat) : laneUp E h i ≤ i := by
  unfold laneUp laneN
  exact Nat.le_trans List.countP_le_length (by rw [List.length_take]; omega)
theorem lanes_snoc (E : List Nd) (h : Nat) : (List.range (h + 1)).map (laneN E) = (List.range h).map (laneN E) ++ [laneN E h] := by rw [List.range_succ, List.map_append]; rfl
theorem lanes_at {E : List Nd} {c : Nat} (hc : c ≤ 12) (h1 : ∀ j, j < c → laneN E j ≠ 0) (h2 : c < 12 → laneN E c = 0) : lanesOf E = (List.range c).map (laneN E) := takeWhile_range _ 12 c hc h1 h2

def natI (l : List Nat) : List Int := l.map fun (x : Nat) => (x : Int)
theorem iCells_natI (l : List Nat) : iCells l = (natI l).flatMap (fun k : Int => [Value.int .i64 k]) := by
  induction l with
  | nil => rfl
  | cons x l ih =>
    show Value.int .i64 (x : Int) :: iCells l = _
    rw [ih]
    rfl

set_option maxRecDepth 100000 in
set_option maxHeartbeats 2000000 in
theorem rlanes_any {w : World} {rb B : Nat} {lv : Value} {E : List Nd} {fr : Bool} (h : RfAt w rb lv B E fr) :
    Calls Tryz.prog 24 #[.pointer (some ⟨rb, 0, none⟩)] w fun e w' => ∃ a c, e = .returned (.slice a (lanesOf E).length c) ∧ Own kInts w' w.heap.size (.slice a (lanesOf E).length c) (natI (lanesOf E)) ∧ Below w.heap.size w w' := by
  obtain ⟨a, cap, rfl⟩ := rf_form h
  have c0 := h.c0
  have hlen := h.len
  obtain ⟨n, hn⟩ : ∃ n, n = E.length := ⟨_, rfl⟩
  rw [← hn] at c0 hlen h
  have H := Lib.hid h
  have HN := Lib.hid hn
  clear h hn
  go_enter Tryz.func24, Tryz.ntmps24
  go_wp2
  go_loopw [3, 4, 5, 6] (fun v x _ _ wr => ∃ c : Nat, c ≤ 12 ∧ x = .int .i64 (c : Int) ∧ Own kInts wr w.heap.size v (natI ((List.range c).map (laneN E))) ∧ (∀ j, j < c → laneN E j ≠ 0) ∧ Below w.heap.size w wr) (fun _ x _ _ _ => 12 - (intOf x).toNat)
  case atStart => exact ⟨0, by omega, rfl, World.ownsRow_nil _ _ _ _, by omega, Below.refl _ _⟩
  case round =>
    obtain ⟨wo, rfl⟩ : ∃ wo, wo = wr := ⟨_, rfl⟩
    obtain ⟨c, hc, rfl, hown, hnz, hbel⟩ := hrel
    have hlj : (natI ((List.range c).map (laneN E))).length = c := by simp [natI]
    obtain ⟨av, capv, rfl, _, _⟩ := row_form hown
    rw [hlj] at hown ⊢
    have HO := Lib.hid hown
    have HB := Lib.hid hbel
    have HLJ := Lib.hid hlj
    have HNZ := Lib.hid hnz
    have d0 := (hbel.cell (p := ⟨rb, 0, none⟩) (World.block_lt_of_cell? _ _ c0)).trans c0
    clear hbel hown hlj hnz
    by_cases hlt : c < 12
    · have r1 : (c : Int) < 12 := by omega
      go_wp2
      go_loop [5, 6] (fun y x => ∃ (i m : Nat), i ≤ n ∧ x = .int .i64 (i : Int) ∧ y = .int .i64 (m : Int) ∧ m = laneUp E c i) (fun _ x => n - (intOf x).toNat)
      case atStart => exact ⟨0, 0, by omega, rfl, rfl, by simp [laneUp, laneN]⟩
      case round =>
        obtain ⟨i, m, hi, rfl, rfl, hm⟩ := hrel
        have hmi : m ≤ i := by rw [hm]; exact laneUp_le E c i
        have HM := Lib.hid hm
        clear hm
        by_cases hlt2 : i < n
        · have hil : i < E.length := by have := HN.out; omega
          obtain ⟨g, cap', hv, _, hg, _, _, k2⟩ := rf_cells (H.out.row) hil
          injection hv with e1 e2 e3
          subst e1
          have d1 := (HB.out.cell (p := ⟨g, i * 3 + 2, none⟩) (World.block_lt_of_cell? _ _ k2)).trans k2
          have hst := laneUp_succ E c i hil
          have hh12 := (H.out.hts E[i] (List.getElem_mem hil)).2
          obtain ⟨hh, hhh⟩ : ∃ hh, hh = E[i].h := ⟨_, rfl⟩
          rw [← hhh] at d1 hst hh12
          have HST := Lib.hid hst
          have q1 : (i : Int) < (n : Int) := by omega
          clear e2 e3 hst hhh k2
          by_cases hgt : c < hh
          · have t1 : decide ((hh : Int) > (c : Int)) = true := by simp; omega
            have t1n : (c : Int) < (hh : Int) := by omega
            have HGT := Lib.hid hgt
            clear hgt
            go_wp2
            go_round
            case rel => exact ⟨i + 1, m + 1, by omega, by go_num, by go_num, by rw [HST.out, if_pos HGT.out, HM.out]⟩
            case measure => simp [intOf]; omega
          · have t1 : decide ((hh : Int) > (c : Int)) = false := by simp; omega
            have t1n : ¬ (c : Int) < (hh : Int) := by omega
            have HGT := Lib.hid hgt
            clear hgt
            go_wp2
            go_round
            case rel => exact ⟨i + 1, m, by omega, by go_num, rfl, by rw [HST.out, if_neg HGT.out, HM.out]; rfl⟩
            case measure => simp [intOf]; omega
        · obtain rfl : i = n := by omega
          have hml : m = laneN E c := by
            rw [HM.out]
            unfold laneUp
            rw [List.take_of_length_le (by have := HN.out; omega)]
          have HML := Lib.hid hml
          clear hml
          by_cases hm0 : m = 0
          · have t1 : ((m : Int) == 0) = true := by simp; omega
            have hres := lanes_at (E := E) hc HNZ.out (fun _ => by rw [← HML.out]; exact hm0)
            have hrl : (lanesOf E).length = c := by rw [hres]; simp
            rw [← hres] at HO
            have HRL := Lib.hid hrl
            clear hres hm0 hrl
            go_wp2
            go_ret
            rw [HRL.out]
            exact ⟨av, capv, rfl, HO.out, HB.out⟩
          · have t1 : ((m : Int) == 0) = false := by simp; omega
            have HM0 := Lib.hid hm0
            obtain ⟨W1, hW1⟩ : ∃ W1, wo.alloc (.cells #[.int .i64 (m : Int)] 3) = W1 := ⟨_, rfl⟩
            have hsrc : Src kInts W1 (.slice (some ⟨wo.heap.size, 0, none⟩) 1 1) [(m : Int)] := by
              rw [← hW1]
              exact src_one wo (m : Int) _ _ rfl 1
            have ho1 : Own kInts W1 w.heap.size (.slice av c capv) (natI ((List.range c).map (laneN E))) := by rw [← hW1]; exact World.ownsRow.alloc HO.out _
            have hb1 : Below w.heap.size w W1 := by rw [← hW1]; exact HB.out.alloc HB.out.size _
            have H1 := Lib.hid (And.intro ho1 (And.intro hb1 hsrc))
            clear hm0 hsrc ho1 hb1
            go_wp2_with (at_builtin; refine wpl_app kInts rfl _ _ rfl rfl rfl H1.out.1 H1.out.2.2 (by rw [HLJ.out]; simp; omega) H1.out.2.1.size ?_; rw [HLJ.out]; intro a3 cap3 w3 ho3 hb3 _ _; have H3 := Lib.hid (And.intro ho3 (H1.out.2.1.trans hb3)); clear ho3 hb3)
            go_roundw
            case rel =>
              refine ⟨c + 1, by omega, by go_num, ?_, fun j hj => ?_, H3.out.2⟩
              · rw [lanes_snoc, ← HML.out]
                have h9 := H3.out.1
                unfold natI at h9 ⊢
                rw [List.map_append]
                exact h9
              · by_cases e : j = c
                · subst e; rw [← HML.out]; exact HM0.out
                · exact HNZ.out j (by omega)
            case measure => simp [intOf]; omega
    · obtain rfl : c = 12 := by omega
      have hres := lanes_at (E := E) (Nat.le_refl 12) HNZ.out (fun h => by omega)
      have hrl : (lanesOf E).length = 12 := by rw [hres]; simp
      rw [← hres] at HO
      have HRL := Lib.hid hrl
      clear hres hrl
      go_wp2
      go_ret
      rw [HRL.out]
      exact ⟨av, capv, rfl, HO.out, HB.out⟩

set_option maxRecDepth 100000 in
set_option maxHeartbeats 2000000 in
theorem rsteps_any {w : World} {rb B : Nat} {lv : Value} {E : List Nd} {fr : Bool} (h : RfAt w rb lv B E fr) (k : ByteArray) (hk : k.size ≤ 1000000) :
    Calls Tryz.prog 18 #[.pointer (some ⟨rb, 0, none⟩), .string k] w fun e w' => e = .returned (.int .i64 (stepsOf E k)) ∧ Below w.heap.size w w' := by
  obtain ⟨a, cap, rfl⟩ := rf_form h
  have c0 := h.c0
  have hlen := h.len
  have hlan := rlanes_any h
  have HLAN := Lib.hid hlan
  obtain ⟨n, hn⟩ : ∃ n, n = E.length := ⟨_, rfl⟩
  rw [← hn] at c0 hlen h
  have H := Lib.hid h
  have HN := Lib.hid hn
  obtain ⟨c, hc, hcl, hcm, hcn, hcz⟩ := lanes_c E
  have HC := Lib.hid (And.intro hcl hcz)
  have HST0 := Lib.hid (steps_top (E := E) (k := k) hcz (12 - c) (Nat.le_refl _))
  have hbl := below_le E k
  rw [← hn] at hbl
  clear h hn hlan hcl hcm hcn hcz
  go_enter Tryz.func18, Tryz.ntmps18
  go_wp2_with (go_at_call 24; refine HLAN.out.mono ?_; rintro _ w1 ⟨a1, c1, rfl, -, hb1⟩; rw [HC.out.1]; have HB1 := Lib.hid hb1; clear hb1; simp only [])
  go_loopw [5, 6, 7, 8] (fun p y x _ wr => ∃ (h : Nat) (N : Int), h ≤ 12 ∧ x = .int .i64 ((h : Int) - 1) ∧ p = .int .i64 ((leadP E k h : Int) - 1) ∧ y = .int .i64 N ∧ N = stepsFrom E (posOf E k) (12 - h) ∧ 0 ≤ N ∧ N ≤ (n : Int) * (12 - h) ∧ Below w.heap.size w wr) (fun _ _ x _ _ => (intOf x + 1).toNat)
  case atStart =>
    refine ⟨c, 0, hc, by go_num, ?_, rfl, HST0.out.symm, by omega, ?_, HB1.out⟩
    · have : leadP E k c = 0 := by
        unfold leadP
        split
        · rfl
        · exact top_zero (HC.out.2 c (Nat.le_refl _) (by omega))
      rw [this]; go_num
    · exact Int.mul_nonneg (by omega) (by omega)
  case round =>
    obtain ⟨wo, rfl⟩ : ∃ wo, wo = wr := ⟨_, rfl⟩
    obtain ⟨h1, N, hh, rfl, rfl, rfl, hN, hN0, hN1, hbel⟩ := hrel
    have HB := Lib.hid hbel
    have HNN := Lib.hid hN
    clear hbel hN
    cases h1 with
    | zero =>
      clear hN1
      go_wp2
      go_ret
      exact ⟨ret_i (by rw [HNN.out]; rfl), HB.out⟩
    | succ h =>
      have hlane := leadP_lane E k (h := h)
      have HP0 := Lib.hid hlane
      obtain ⟨p0, hp0⟩ : ∃ p0, p0 = leadP E k (h + 1) := ⟨_, rfl⟩
      rw [← hp0] at HP0 ⊢
      have HPP := Lib.hid hp0
      have hp0n : p0 ≤ n := by have := HP0.out.2; omega
      have hNb : N ≤ (n : Int) * (11 - h) := by
        have e : (12 : Int) - ((h + 1 : Nat) : Int) = 11 - h := by omega
        rw [← e]; exact hN1
      have hNc : N ≤ 1200000 := by
        have h11 : (11 : Int) - h ≤ 11 := by omega
        have h12 : (0 : Int) ≤ 11 - h := by omega
        have := Int.mul_le_mul (show (n : Int) ≤ 100000 by omega) h11 h12 (by omega)
        omega
      have hstep := steps_next E k (show h < 12 by omega)
      rw [leadP_lead, ← hp0] at hstep
      have e11 : 12 - (h + 1) = 11 - h := by omega
      have hNN2 := HNN.out
      rw [e11] at hNN2
      rw [← hNN2] at hstep
      have HSTEP := Lib.hid hstep
      have r0 : ((h + 1 : Nat) : Int) - 1 = (h : Int) := by omega
      obtain ⟨Y, hY⟩ : ∃ Y, Y = laneUp E h p0 := ⟨_, rfl⟩
      have hYp : Y ≤ p0 := by rw [hY]; exact laneUp_le E h p0
      have HY := Lib.hid hY
      clear hlane hp0 hN1 hstep hNN2 hY
      rw [r0]
      go_wp2
      go_loopw [5, 6, 8] (fun p y x wr => ∃ (i q X : Nat), p0 ≤ i ∧ i ≤ n ∧ q ≤ i ∧ x = .int .i64 (i : Int) ∧ p = .int .i64 ((q : Int) - 1) ∧ y = .int .i64 (N + (X : Int) - (Y : Int)) ∧ X = laneUp E h q ∧ Y ≤ X ∧ inLane E h q ∧ q ≤ below E k ∧ (∀ j n', q ≤ j → j < i → E[j]? = some n' → n'.h ≤ h) ∧ Below w.heap.size w wr) (fun _ _ x _ => n - (intOf x).toNat)
      case atStart => exact ⟨p0, p0, Y, Nat.le_refl _, hp0n, Nat.le_refl _, by go_num, rfl, val_i (by omega), HY.out, Nat.le_refl _, HP0.out.1, HP0.out.2, fun j n' h1 h2 => by omega, HB.out⟩
      case round =>
        obtain ⟨i, q, X, hpi, hi, hqi, rfl, rfl, rfl, hX, hYX, hinl, hqb, hno, hbel2⟩ := hrel
        have hXq : X ≤ q := by rw [hX]; exact laneUp_le E h q
        have HX := Lib.hid hX
        have HQ := Lib.hid (And.intro hinl (And.intro hqb hno))
        have HB2 := Lib.hid hbel2
        have d0 := (hbel2.cell (p := ⟨rb, 0, none⟩) (World.block_lt_of_cell? _ _ c0)).trans c0
        have hfin : posOf E k h = q → stepsFrom E (posOf E k) (12 - h) = N + (X : Int) - (Y : Int) ∧ leadP E k h = q := by
          intro hpq
          refine ⟨?_, by unfold leadP; rw [if_neg (by omega)]; exact hpq⟩
          have := HSTEP.out
          rw [this, hpq]
          have e1 : laneN (E.take q) h = X := HX.out.symm
          have e2 : laneN (E.take p0) h = Y := HY.out.symm
          rw [e1, e2]; omega
        have HFIN := Lib.hid hfin
        have hXN : N + (X : Int) - (Y : Int) ≤ (n : Int) * (12 - h) := by
          have e : (n : Int) * (12 - h) = (n : Int) * (11 - h) + n := by
            rw [show (12 : Int) - h = (11 - h) + 1 by omega, Int.mul_add, Int.mul_one]
          rw [e]; omega
        have HXN := Lib.hid hXN
        clear hX hinl hno hbel2 hfin hXN
        by_cases hlt : i < n
        · have hil : i < E.length := by have := HN.out; omega
          obtain ⟨g, cap', hv, _, hg, k0, _, k2⟩ := rf_cells (H.out.row) hil
          injection hv with e1 e2 e3
          subst e1
          have d1 := (HB2.out.cell (p := ⟨g, i * 3, none⟩) (World.block_lt_of_cell? _ _ k0)).trans k0
          have d2 := (HB2.out.cell (p := ⟨g, i * 3 + 2, none⟩) (World.block_lt_of_cell? _ _ k2)).trans k2
          have hq : E[i]? = some E[i] := List.getElem?_eq_getElem hil
          have hkb := (H.out.keys E[i] (List.getElem_mem hil)).1
          have hh12 := (H.out.hts E[i] (List.getElem_mem hil)).2
          obtain ⟨x, hx⟩ : ∃ x, E[i] = x := ⟨_, rfl⟩
          rw [hx] at d1 d2 hq hkb hh12
          obtain ⟨kk, hkk⟩ : ∃ kk, kk = x.k := ⟨_, rfl⟩
          obtain ⟨hg2, hhg⟩ : ∃ hg2, hg2 = x.h := ⟨_, rfl⟩
          rw [← hkk] at d1 hkb
          rw [← hhg] at d2 hh12
          have HI := Lib.hid (And.intro hq (And.intro hkk hhg))
          have r1 : (i : Int) < (n : Int) := by omega
          clear e2 e3 k0 k2 hq hx hkk hhg
          by_cases hle : hg2 ≤ h
          · have t1 : decide ((hg2 : Int) ≤ (h : Int)) = true := by simp; omega
            have t1n : (hg2 : Int) ≤ (h : Int) := by omega
            have hno2 : ∀ j n', q ≤ j → j < i + 1 → E[j]? = some n' → n'.h ≤ h := by
              intro j n' h1 h2 h3
              by_cases e : j = i
              · subst e
                rw [HI.out.1] at h3
                injection h3 with h3
                rw [← h3, ← HI.out.2.2]; exact hle
              · exact HQ.out.2.2 j n' h1 (by omega) h3
            have HNO := Lib.hid hno2
            clear hle hno2
            go_wp2
            go_roundw
            case rel => exact ⟨i + 1, q, X, by omega, by omega, by omega, by go_num, rfl, rfl, HX.out, hYX, HQ.out.1, hqb, HNO.out, HB2.out⟩
            case measure => simp [intOf]; omega
          · have t1 : decide ((hg2 : Int) ≤ (h : Int)) = false := by simp; omega
            have t1n : ¬ (hg2 : Int) ≤ (h : Int) := by omega
            have hhx : h < x.h := by rw [← HI.out.2.2]; omega
            have HHX := Lib.hid hhx
            obtain ⟨cm, hcm⟩ : ∃ cm, kcmp kk k = cm := ⟨_, rfl⟩
            have hcall := fun (W : World) => refcompare_any kk k W (by omega) hk
            rw [hcm] at hcall
            have HCALL := Lib.hid hcall
            have HCM := Lib.hid hcm
            clear hle hhx hcm hcall
            by_cases hneg : cm < 0
            · have t2 : decide (cm ≥ 0) = false := by simp; omega
              have t2n : ¬ (0 ≤ cm) := by omega
              have hib : i < below E k := (below_iff H.out.sorted k HI.out.1).1 (by rw [← HI.out.2.1, HCM.out]; exact hneg)
              have hstp := lane_step hqi HI.out.1 HHX.out HQ.out.2.2
              have hstp2 : laneUp E h (i + 1) = X + 1 := by unfold laneUp; rw [hstp, HX.out]; rfl
              have hin2 : inLane E h (i + 1) := Or.inr ⟨x, by simpa using HI.out.1, by omega, HHX.out⟩
              have HS2 := Lib.hid (And.intro hstp2 hin2)
              clear hneg hstp hstp2 hin2
              go_wp2_with (go_at_call 35; refine (HCALL.out _).mono ?_; rintro _ w3 ⟨rfl, hb3⟩; have HB3 := Lib.hid hb3; clear hb3; simp only [])
              go_roundw
              case rel => exact ⟨i + 1, i + 1, X + 1, by omega, by omega, by omega, by go_num, val_i (by omega), val_i (by omega), HS2.out.1.symm, by omega, HS2.out.2, by omega, fun j n' h1 h2 => by omega, HB2.out.trans (HB3.out.mono HB2.out.size)⟩
              case measure => simp [intOf]; omega
            · have t2 : decide (cm ≥ 0) = true := by simp; omega
              have t2n : 0 ≤ cm := by omega
              have hpos : IsPos E k h q := pos_some H.out.sorted HQ.out.1 HQ.out.2.1 HI.out.1 HQ.out.2.2 (by rw [← HI.out.2.1, HCM.out]; exact hneg)
              have hf := HFIN.out (isPos_eq hpos).symm
              have HF := Lib.hid hf
              clear hneg hpos hf
              go_wp2_with (go_at_call 35; refine (HCALL.out _).mono ?_; rintro _ w3 ⟨rfl, hb3⟩; have HB3 := Lib.hid hb3; clear hb3; simp only [])
              go_roundw
              case rel => exact ⟨h, _, by omega, by go_num, by rw [HF.out.2], rfl, HF.out.1.symm, by omega, HXN.out, HB2.out.trans (HB3.out.mono HB2.out.size)⟩
              case measure => simp [intOf]; try omega
        · obtain rfl : i = n := by omega
          have hpos : IsPos E k h q := pos_end HQ.out.1 HQ.out.2.1 (fun j n' h1 h2 => HQ.out.2.2 j n' h1 (by have := (List.getElem?_eq_some_iff.1 h2).1; have := HN.out; omega) h2)
          have hf := HFIN.out (isPos_eq hpos).symm
          have HF := Lib.hid hf
          clear hpos hf
          go_wp2
          go_roundw
          case rel => exact ⟨h, _, by omega, by go_num, by rw [HF.out.2], rfl, HF.out.1.symm, by omega, HXN.out, HB2.out⟩
          case measure => simp [intOf]; try omega
end Go.Proofs.YtmodgjjlgobjcaaGreat
