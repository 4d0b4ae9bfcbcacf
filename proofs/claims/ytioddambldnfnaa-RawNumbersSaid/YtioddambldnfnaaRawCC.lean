/-
  The walk of raw.Number.
-/
import Derived.Test.YtioddambldnfnaaBase
import Derived.Test.YtioddambldnfnaaRawBB
import Derived.Test.YtioddambldnfnaaShelf
import Derived.Test.YtioddambldnfnaaRawF
namespace Go.Proofs.Ytioddambldnfnaa
open Go.RowKit

def cutS (s : ByteArray) : ByteArray := ⟨(Rw.cutR s.data.toList).toArray⟩
theorem cut_any (s : ByteArray) (w : World) :
    Calls Try.prog 35 #[.string s, .string ⟨#[45]⟩] w fun e w' => e = .returned (.tuple #[.string (cutS s), .bool (Rw.cutB s.data.toList)]) ∧ w = w' :=
  (Try.strings_CutPrefix s ⟨#[45]⟩ w).mono fun _ _ ⟨h1, h2⟩ => ⟨h1, h2.symm⟩

/-- What Number answers. -/
def numAns (l : List UInt8) : Value := if Rw.numOk (Rw.cutR l) (Rw.cutB l) then .tuple #[.int .i64 (Rw.numV (Rw.cutR l) (Rw.cutB l)), .int .i64 0] else .tuple #[.int .i64 0, .int .i64 4]
def numIn (r : List UInt8) (b : Bool) : Value := if Rw.numOk r b then .tuple #[.int .i64 (Rw.numV r b), .int .i64 0] else .tuple #[.int .i64 0, .int .i64 4]

theorem num_bad {r : List UInt8} {b : Bool} (h : r.length = 0 ∨ 16 < r.length ∨ (r.getD 0 0 = 48 ∧ (1 < r.length ∨ b = true))) : numIn r b = .tuple #[.int .i64 0, .int .i64 4] := by
  unfold numIn Rw.numOk
  rw [if_neg]
  simp only [Bool.and_eq_true, Bool.not_eq_true', Bool.and_eq_false_iff, Bool.or_eq_false_iff, decide_eq_true_eq, decide_eq_false_iff_not]
  rintro ⟨⟨⟨h1, h2⟩, h3⟩, _⟩
  rcases h with h | h | ⟨h4, h5⟩
  · omega
  · omega
  · rcases h3 with h3 | ⟨h6, h7⟩
    · exact h3 h4
    · rcases h5 with h5 | h5
      · omega
      · rw [h5] at h7; cases h7

theorem num_good {r : List UInt8} {b : Bool} (h : ¬ (r.length = 0 ∨ 16 < r.length ∨ (r.getD 0 0 = 48 ∧ (1 < r.length ∨ b = true)))) : Rw.numOk r b = r.all Rw.isDig := by
  unfold Rw.numOk
  have h1 : decide (1 ≤ r.length) = true := by simp; omega
  have h2 : decide (r.length ≤ 16) = true := by simp; omega
  have h3 : (decide (r.getD 0 0 = 48) && (decide (1 < r.length) || b)) = false := by
    rw [Bool.and_eq_false_iff, Bool.or_eq_false_iff, decide_eq_false_iff_not, decide_eq_false_iff_not]
    by_cases h4 : r.getD 0 0 = 48
    · right
      refine ⟨fun h5 => h (Or.inr (Or.inr ⟨h4, Or.inl h5⟩)), ?_⟩
      cases b with
      | true => exact absurd (Or.inr (Or.inr ⟨h4, Or.inr rfl⟩)) h
      | false => rfl
    · left; exact h4
  rw [h1, h2, h3]; simp

theorem num_nondig {r : List UInt8} {b : Bool} (hok : Rw.numOk r b = r.all Rw.isDig) (i : Nat) (hi : i < r.length) (h : Rw.isDig r[i] = false) : numIn r b = .tuple #[.int .i64 0, .int .i64 4] := by
  unfold numIn
  rw [if_neg]
  rw [hok, Bool.not_eq_true, List.all_eq_false]
  exact ⟨r[i], List.getElem_mem hi, by rw [h]; exact Bool.false_ne_true⟩

theorem getD0 (r : ByteArray) (h : 0 < r.size) : r.data.toList.getD 0 0 = r[0] := by
  rw [List.getD_eq_getElem?_getD, List.getElem?_eq_getElem (by simpa using h)]
  rfl

set_option maxRecDepth 100000 in
set_option maxHeartbeats 2000000 in
theorem number_any (s : ByteArray) (w : World) (hs : s.size ≤ maxLen) :
    Calls Try.prog 21 #[.string s] w fun e w' => e = .returned (numAns s.data.toList) ∧ w = w' := by
  obtain ⟨r, hr⟩ : ∃ r, r = cutS s := ⟨_, rfl⟩
  obtain ⟨b, hb⟩ : ∃ b, b = Rw.cutB s.data.toList := ⟨_, rfl⟩
  have hcall := cut_any s w
  rw [← hr, ← hb] at hcall
  have hans : numAns s.data.toList = numIn r.data.toList b := by rw [hr, hb]; rfl
  have hle : r.size ≤ maxLen := by
    have : r.size = (Rw.cutR s.data.toList).length := by rw [hr]; rfl
    rw [this]
    unfold Rw.cutR Lib.trimPrefix
    have e : s.data.toList.length = s.size := rfl
    split <;> simp <;> omega
  rw [hans]
  unfold maxLen at hle
  have HCALL := Lib.hid hcall
  clear hs hr hb hans hcall
  by_cases hbad : r.data.toList.length = 0 ∨ 16 < r.data.toList.length ∨ (r.data.toList.getD 0 0 = 48 ∧ (1 < r.data.toList.length ∨ b = true))
  · have HA := Lib.hid (num_bad hbad)
    have HB := Lib.hid hbad
    clear hbad
    by_cases h0 : r.size = 0
    · have hemp : r.toList = [] := by rw [ByteArray.toList_eq]; exact List.eq_nil_of_length_eq_zero h0
      clear h0
      go_enter Try.func21, Try.ntmps21
      go_wp2_with fail
      refine HCALL.out.mono ?_
      rintro e w' ⟨rfl, rfl⟩
      go_wp2
      go_ret2
      exact ⟨by rw [HA.out]; rfl, rfl⟩
    · have hne : r.toList.isEmpty = false := by
        rw [ByteArray.toList_eq]
        cases hx : r.data.toList with
        | nil => exact absurd (show r.size = 0 from by have : r.size = r.data.toList.length := rfl; rw [this, hx]; rfl) h0
        | cons _ _ => rfl
      have hpos : 0 < r.size := by omega
      have hg := getD0 r hpos
      have e1 : r.data.toList.length = r.size := rfl
      have hbb := HB.out
      rw [hg, e1] at hbb
      clear HB hg e1 h0
      by_cases h16 : 16 < r.size
      · have t16 : decide (16 < (r.size : Int)) = true := by simp; omega
        clear hbb
        go_enter Try.func21, Try.ntmps21
        go_wp2_with fail
        refine HCALL.out.mono ?_
        rintro e w' ⟨rfl, rfl⟩
        go_wp2
        go_ret2
        exact ⟨by rw [HA.out]; rfl, rfl⟩
      · have t16 : decide (16 < (r.size : Int)) = false := by simp; omega
        have hcc : r[0] = 48 ∧ (1 < r.size ∨ b = true) := by
          rcases hbb with h | h | h
          · omega
          · omega
          · exact h
        obtain ⟨h48, hor⟩ := hcc
        have t48 : ((r[0].toNat : Int) == 48) = true := by rw [h48]; rfl
        clear hbb h48
        by_cases h1 : 1 < r.size
        · have t1 : decide (1 < (r.size : Int)) = true := by simp; omega
          clear hor
          go_enter Try.func21, Try.ntmps21
          go_wp2_with fail
          refine HCALL.out.mono ?_
          rintro e w' ⟨rfl, rfl⟩
          go_wp2
          go_ret2
          exact ⟨by rw [HA.out]; rfl, rfl⟩
        · have t1 : decide (1 < (r.size : Int)) = false := by simp; omega
          obtain rfl : b = true := by
            rcases hor with h | h
            · exact absurd h h1
            · exact h
          clear hor
          go_enter Try.func21, Try.ntmps21
          go_wp2_with fail
          refine HCALL.out.mono ?_
          rintro e w' ⟨rfl, rfl⟩
          go_wp2
          go_ret2
          exact ⟨by rw [HA.out]; rfl, rfl⟩
  · have HOK := Lib.hid (num_good hbad)
    have HB := Lib.hid hbad
    have hpos : 0 < r.size := by have e1 : r.data.toList.length = r.size := rfl; omega
    have h16 : r.size ≤ 16 := by have e1 : r.data.toList.length = r.size := rfl; omega
    have hne : r.toList.isEmpty = false := by
      rw [ByteArray.toList_eq]
      cases hx : r.data.toList with
      | nil => exact absurd (show r.size = 0 from by have : r.size = r.data.toList.length := rfl; rw [this, hx]; rfl) (by omega)
      | cons _ _ => rfl
    have HG := Lib.hid (getD0 r hpos)
    clear hbad
    rcases Bool.eq_false_or_eq_true b with hb | hb
    all_goals
      go_enter Try.func21, Try.ntmps21
      go_wp2_with fail
      refine HCALL.out.mono ?_
      rintro e w' ⟨rfl, rfl⟩
      go_wp2
      all_goals try (
        exfalso
        have hbb := HB.out
        rw [HG.out] at hbb
        have e1 : r.data.toList.length = r.size := rfl
        have e2 : (r[0] = 48) ↔ r[0].toNat = 48 := ⟨fun h => by rw [h]; rfl, fun h => UInt8.toNat.inj h⟩
        rw [e2, e1] at hbb
        simp_all <;> omega)
      all_goals
        go_loop [6, 35] (fun x y => ∃ i : Nat, i ≤ r.size ∧ x = .int .i64 (Rw.decV (r.data.toList.take i) : Int) ∧ y = .int .i64 (i : Int) ∧ (r.data.toList.take i).all Rw.isDig = true) (fun _ y => r.size - (intOf y).toNat)
        case atStart => exact ⟨0, by omega, rfl, rfl, by simp⟩
        case round =>
          obtain ⟨i, hi, rfl, rfl, hall⟩ := hrel
          have hdv := Rw.decV_lt _ hall
          have HALL := Lib.hid hall
          clear hall
          by_cases hlt : i < r.size
          · have hpw : Rw.decV (r.data.toList.take i) < 1000000000000000 := by
              refine Nat.lt_of_lt_of_le hdv ?_
              exact (Nat.pow_le_pow_right (by decide) (by have := List.length_take_le i r.data.toList; omega) : 10 ^ (r.data.toList.take i).length ≤ 10 ^ 15)
            have hsn : r.data.toList.take (i + 1) = r.data.toList.take i ++ [r[i]] := by rw [List.take_succ_eq_append_getElem (by simpa using hlt)]; rfl
            have HSN := Lib.hid hsn
            have hc8 := r[i].toNat_lt
            clear hdv hsn
            by_cases hd : 48 ≤ r[i].toNat ∧ r[i].toNat ≤ 57
            · obtain ⟨d1, d2⟩ := hd
              have t1 : decide ((r[i].toNat : Int) < 48) = false := by simp; omega
              have t2 : decide ((57 : Int) < (r[i].toNat : Int)) = false := by simp; omega
              have HD : Hid (Rw.isDig r[i] = true) := by unfold Hid Rw.isDig; simp; omega
              clear hc8
              go_wp2
              go_round
              case rel =>
                refine ⟨i + 1, by omega, ?_, by go_num, ?_⟩
                · rw [HSN.out, Rw.decV_snoc]; exact val_i (by omega)
                · rw [HSN.out, List.all_append, HALL.out]; simp [HD.out]
              case measure => simp [intOf]; omega
            · have HD : Hid (Rw.isDig r[i] = false) := by unfold Hid Rw.isDig; simp; omega
              have HN : Hid (numIn r.data.toList b = .tuple #[.int .i64 0, .int .i64 4]) := num_nondig HOK.out i (by simpa using hlt) HD.out
              by_cases d1 : 48 ≤ r[i].toNat
              · have t1 : decide ((r[i].toNat : Int) < 48) = false := by simp; omega
                have t2 : decide ((57 : Int) < (r[i].toNat : Int)) = true := by simp; omega
                clear hc8 hd d1
                go_wp2
                go_ret2
                have hn := HN.out
                rw [hb] at hn
                exact ⟨by rw [hn]; rfl, rfl⟩
              · have t1 : decide ((r[i].toNat : Int) < 48) = true := by simp; omega
                clear hc8 hd d1
                go_wp2
                go_ret2
                have hn := HN.out
                rw [hb] at hn
                exact ⟨by rw [hn]; rfl, rfl⟩
          · obtain rfl : i = r.size := by omega
            have HT : Hid (r.data.toList.take r.size = r.data.toList) := by unfold Hid; rw [List.take_of_length_le (by simp)]
            have hpw : Rw.decV (r.data.toList.take r.size) < 10000000000000000 := by
              refine Nat.lt_of_lt_of_le hdv ?_
              exact (Nat.pow_le_pow_right (by decide) (by have := List.length_take_le r.size r.data.toList; omega) : 10 ^ (r.data.toList.take r.size).length ≤ 10 ^ 16)
            have HN : Hid (numIn r.data.toList b = .tuple #[.int .i64 (Rw.numV r.data.toList b), .int .i64 0]) := by
              unfold Hid numIn; rw [if_pos]; rw [HOK.out]; have := HALL.out; rw [HT.out] at this; exact this
            clear hdv
            go_wp2
            go_ret2
            have hn := HN.out
            rw [hb] at hn
            refine ⟨?_, rfl⟩
            rw [hn]
            unfold Rw.numV
            rw [HT.out]
            rfl
end Go.Proofs.Ytioddambldnfnaa
