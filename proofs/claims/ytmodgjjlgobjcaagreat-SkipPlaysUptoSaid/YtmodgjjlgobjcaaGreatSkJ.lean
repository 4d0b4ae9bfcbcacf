/-
  Steps.
-/
import Derived.Test.YtmodgjjlgobjcaaGreatSkI
namespace Go.Proofs.YtmodgjjlgobjcaaGreat
open Go.RowKit

/-- Where the walk of a lane begins. -/
def lead (f : Nat → Nat) (h : Nat) : Nat := if h = 11 then 0 else f (h + 1)
/-- The steps in the first d lanes, from above. -/
def stepsFrom (L : List Nd) (f : Nat → Nat) : Nat → Int
  | 0 => 0
  | d + 1 => stepsFrom L f d + ((laneN (L.take (f (11 - d))) (11 - d) : Int) - (laneN (L.take (lead f (11 - d))) (11 - d) : Int))
theorem stepsFrom_congr {L : List Nd} {f f' : Nat → Nat} : ∀ {d : Nat}, (∀ j, 12 - d ≤ j → f j = f' j) → stepsFrom L f d = stepsFrom L f' d
  | 0, _ => rfl
  | d + 1, h => by
    unfold stepsFrom
    rw [stepsFrom_congr (d := d) (fun j hj => h j (by omega)), h (11 - d) (by omega)]
    have e : lead f (11 - d) = lead f' (11 - d) := by
      unfold lead
      split
      · rfl
      · exact h _ (by omega)
    rw [e]
theorem laneN_take_le (L : List Nd) (p h : Nat) : laneN (L.take p) h ≤ L.length := Nat.le_trans List.countP_le_length (by rw [List.length_take]; omega)

set_option maxRecDepth 100000 in
set_option maxHeartbeats 1000000 in
theorem steps_any {w : World} {sb : Nat} {L : List Nd} {fr : Bool} (s : SkAt w sb L fr) (k : ByteArray) :
    Calls Tryz.prog 17 #[.pointer (some ⟨sb, 0, none⟩), .string k] w fun e w' => ∃ f : Nat → Nat, (∀ j, j < 12 → IsPos L k j (f j)) ∧ e = .returned (.int .i64 (stepsFrom L f 12)) ∧ w = w' := by
  have hlen := s.len
  have HS2 := Lib.hid s
  clear s
  go_enter Tryz.func17, Tryz.ntmps17
  go_wp2_with fail
  go_loopw [5, 6, 7] (fun n x y wr => ∃ (c p : Nat) (f : Nat → Nat) (N : Int), c ≤ 12 ∧ n = .int .i64 N ∧ x = .pointer (some ⟨blk sb L p, 0, none⟩) ∧ y = .int .i64 ((c : Int) - 1) ∧ inLane L c p ∧ p ≤ below L k ∧ (∀ j, c ≤ j → j < 12 → IsPos L k j (f j)) ∧
    stepsFrom L f (12 - c) = N ∧ -(100000 * (12 - c : Int)) ≤ N ∧ N ≤ 100000 * (12 - c : Int) ∧ (c < 12 → f c = p) ∧ (c = 12 → p = 0) ∧ wr = w) (fun _ _ y _ => (intOf y + 1).toNat)
  case atStart => exact ⟨12, 0, fun _ => 0, 0, by omega, rfl, rfl, rfl, Or.inl rfl, by omega, by omega, rfl, by omega, by omega, by omega, by omega, rfl⟩
  case round =>
    obtain ⟨c, p0, f, N, hc, rfl, rfl, rfl, hp, hpb, hf, hn, hlo, hhi, hfc, h12, rfl⟩ := hrel
    have HF := Lib.hid hf
    have HN0 := Lib.hid hn
    have HP := Lib.hid hp
    have HL : Hid ((c = 12 → p0 = 0) ∧ (c < 12 → f c = p0)) := ⟨h12, hfc⟩
    clear hf hn hp hfc h12
    cases c with
    | zero =>
      go_wp2
      refine ⟨rfl, .int .i64 N, ?_, f, fun j hj => HF.out j (by omega) hj, by rw [show stepsFrom L f 12 = N from HN0.out], rfl⟩
      simp [results, Tryz.results17, go_sem]
    | succ h =>
      have hh : h < 12 := by omega
      have hhi2 : N ≤ 1200000 := by omega
      have hlo2 : -1200000 ≤ N := by omega
      obtain ⟨Y, hY⟩ : ∃ Y, Y = laneN (L.take p0) h := ⟨_, rfl⟩
      have hYl : Y ≤ 100000 := by rw [hY]; exact Nat.le_trans (laneN_take_le _ _ _) hlen
      have HY := Lib.hid hY
      clear hY
      go_wp2
      go_loop [5, 6] (fun n x => ∃ (p X : Nat), n = .int .i64 (N + (X : Int) - (Y : Int)) ∧ x = .pointer (some ⟨blk sb L p, 0, none⟩) ∧ inLane L h p ∧ p ≤ below L k ∧ X = laneN (L.take p) h) (fun _ x => L.length - pIdx sb L x)
      case atStart => exact ⟨p0, Y, by congr 1; omega, rfl, HP.out.mono (by omega), hpb, HY.out⟩
      case round =>
        clear hpb HP
        obtain ⟨p, X, rfl, rfl, hp, hpb, hX⟩ := hrel
        have hpl : p ≤ L.length := by have := below_le L k; omega
        have hXl : X ≤ 100000 := by rw [hX]; exact Nat.le_trans (laneN_take_le _ _ _) hlen
        have hnx := HS2.out.next hh hp
        have HP := Lib.hid hp
        have HX := Lib.hid hX
        clear hp hX
        cases hx : nxt (L.drop p) h with
        | none =>
          rw [hx] at hnx
          have hn2 : wr.cell? ⟨blk sb L p, 3 + h, none⟩ = some (.pointer none) := hnx
          have hpos : IsPos L k h p := pos_none HP.out hpb hx
          clear hnx hx
          obtain ⟨f', hf'⟩ : ∃ f', f' = fun j => if j = h then p else f j := ⟨_, rfl⟩
          have hfp : ∀ j, h ≤ j → j < 12 → IsPos L k j (f' j) := by
            intro j h1 h2
            rw [hf']
            by_cases e : j = h
            · subst e; simpa using hpos
            · simpa [e] using HF.out j (by omega) h2
          have hst : stepsFrom L f' (12 - h) = N + (X : Int) - (Y : Int) := by
            have e1 : 12 - h = (12 - (h + 1)) + 1 := by omega
            have e2 : 11 - (12 - (h + 1)) = h := by omega
            rw [e1, stepsFrom, stepsFrom_congr (f' := f) (by intro j hj; rw [hf']; simp only []; rw [if_neg (by omega)]), HN0.out, e2]
            have e3 : f' h = p := by rw [hf']; simp
            have e4 : lead f' h = p0 := by
              unfold lead
              by_cases e : h = 11
              · rw [if_pos e]; exact (HL.out.1 (by omega)).symm
              · rw [if_neg e, hf']
                simp only []
                rw [if_neg (by omega)]
                exact HL.out.2 (by omega)
            rw [e3, e4, ← HX.out, ← HY.out]
            omega
          have HFP := Lib.hid (And.intro hfp (And.intro hst (show f' h = p by rw [hf']; simp)))
          have HPOS := Lib.hid hpos
          clear hfp hst hpos hf'
          go_wp2
          go_roundw
          case rel => exact ⟨h, p, f', N + (X : Int) - (Y : Int), by omega, rfl, rfl, by first | rfl | go_num, HPOS.out.1, HPOS.out.2.1, HFP.out.1, HFP.out.2.1, by omega, by omega, fun _ => HFP.out.2.2, fun e => by omega, by first | rfl | trivial⟩
          case measure => simp [intOf]; try omega
        | some b =>
          obtain ⟨q, n, hpq, hq, hnb, hnh, hno⟩ := nxt_some hpl hx
          have hql : q < L.length := (List.getElem?_eq_some_iff.1 hq).1
          have hkey := (HS2.out.node q hql).c0
          rw [(List.getElem?_eq_some_iff.1 hq).2, hnb] at hkey
          rw [hx] at hnx
          have hn2 : wr.cell? ⟨blk sb L p, 3 + h, none⟩ = some (.pointer (some ⟨b, 0, none⟩)) := hnx
          have hstp := lane_step hpq hq hnh hno
          rw [← HX.out] at hstp
          have HQ := Lib.hid hq
          have HNO := Lib.hid hno
          have HSTP := Lib.hid hstp
          obtain ⟨kk, hkk⟩ : ∃ kk, kk = n.k := ⟨_, rfl⟩
          rw [← hkk] at hkey
          have HKK := Lib.hid hkk
          obtain ⟨cm, hcm⟩ : ∃ cm, kcmp kk k = cm := ⟨_, rfl⟩
          have HCM := Lib.hid hcm
          have hcall := fun (W : World) => compare_any kk k W
          rw [hcm] at hcall
          have HCALL := Lib.hid hcall
          clear hnx hx hno hq hkk hcm hcall hstp
          by_cases hneg : cm < 0
          · have t1 : decide (cm < 0) = true := by simpa using hneg
            have hqb : q < below L k := (below_iff HS2.out.sorted k HQ.out).1 (by rw [← HKK.out, HCM.out]; exact hneg)
            have hin : inLane L h (q + 1) := Or.inr ⟨n, by simpa using HQ.out, by omega, hnh⟩
            have hblk : blk sb L (q + 1) = b := by rw [blk_succ HQ.out, hnb]
            have HIN := Lib.hid (And.intro hin hblk)
            have HND := Lib.hid HS2.out.nod
            clear hin hblk
            go_wp2_with (go_at_call 34; refine (HCALL.out _).mono ?_; rintro _ _ ⟨rfl, rfl⟩; simp only [])
            go_round
            case rel => exact ⟨q + 1, X + 1, (by first | (congr 1; omega) | go_num), by rw [HIN.out.2], HIN.out.1, by omega, HSTP.out.symm⟩
            case measure => rw [← HIN.out.2, pIdx_blk HND.out (by omega), pIdx_blk HND.out hpl]; omega
          · have t1 : decide (cm < 0) = false := by simpa using hneg
            have hpos : IsPos L k h p := pos_some HS2.out.sorted HP.out hpb HQ.out HNO.out (by rw [← HKK.out, HCM.out]; exact hneg)
            obtain ⟨f', hf'⟩ : ∃ f', f' = fun j => if j = h then p else f j := ⟨_, rfl⟩
            have hfp : ∀ j, h ≤ j → j < 12 → IsPos L k j (f' j) := by
              intro j h1 h2
              rw [hf']
              by_cases e : j = h
              · subst e; simpa using hpos
              · simpa [e] using HF.out j (by omega) h2
            have hst : stepsFrom L f' (12 - h) = N + (X : Int) - (Y : Int) := by
              have e1 : 12 - h = (12 - (h + 1)) + 1 := by omega
              have e2 : 11 - (12 - (h + 1)) = h := by omega
              rw [e1, stepsFrom, stepsFrom_congr (f' := f) (by intro j hj; rw [hf']; simp only []; rw [if_neg (by omega)]), HN0.out, e2]
              have e3 : f' h = p := by rw [hf']; simp
              have e4 : lead f' h = p0 := by
                unfold lead
                by_cases e : h = 11
                · rw [if_pos e]; exact (HL.out.1 (by omega)).symm
                · rw [if_neg e, hf']
                  simp only []
                  rw [if_neg (by omega)]
                  exact HL.out.2 (by omega)
              rw [e3, e4, ← HX.out, ← HY.out]
              omega
            have HFP := Lib.hid (And.intro hfp (And.intro hst (show f' h = p by rw [hf']; simp)))
            have HPOS := Lib.hid hpos
            clear hfp hst hpos hf'
            go_wp2_with (go_at_call 34; refine (HCALL.out _).mono ?_; rintro _ _ ⟨rfl, rfl⟩; simp only [])
            go_roundw
            case rel => exact ⟨h, p, f', N + (X : Int) - (Y : Int), by omega, rfl, rfl, by first | rfl | go_num, HPOS.out.1, HPOS.out.2.1, HFP.out.1, HFP.out.2.1, by omega, by omega, fun _ => HFP.out.2.2, fun e => by omega, by first | rfl | trivial⟩
            case measure => simp [intOf]; try omega
end Go.Proofs.YtmodgjjlgobjcaaGreat
