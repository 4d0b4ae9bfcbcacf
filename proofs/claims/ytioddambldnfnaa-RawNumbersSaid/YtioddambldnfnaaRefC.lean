/-
  The walk of the reference's Number.
-/
import Derived.Test.YtioddambldnfnaaRawCC
import Derived.Test.YtioddambldnfnaaRawS
import Derived.Deep.DeepCutAuto
namespace Go.Proofs.Ytioddambldnfnaa
open Go.RowKit

theorem cut_minus (s : ByteArray) (h : 0 < s.size) (h45 : s[0] = 45) : Rw.cutB s.data.toList = true ∧ Rw.cutR s.data.toList = s.data.toList.drop 1 := by
  have e : s.data.toList = 45 :: s.data.toList.drop 1 := by
    have := List.drop_eq_getElem_cons (l := s.data.toList) (i := 0) (by simpa using h)
    rw [List.drop_zero] at this
    rw [this]
    have h2 : s.data.toList[0]'(by simpa using h) = 45 := h45
    rw [h2]
    rfl
  unfold Rw.cutB Rw.cutR Lib.trimPrefix Lib.hasPrefix
  rw [e]
  simp
theorem cut_plain (s : ByteArray) (h : ¬ (∃ h : 0 < s.size, s[0] = 45)) : Rw.cutB s.data.toList = false ∧ Rw.cutR s.data.toList = s.data.toList := by
  unfold Rw.cutB Rw.cutR Lib.trimPrefix Lib.hasPrefix
  have hn : ([45] : List UInt8).isPrefixOf s.data.toList = false := by
    rw [Bool.eq_false_iff]
    intro hp
    obtain ⟨t, ht⟩ := List.isPrefixOf_iff_prefix.1 hp
    have h1 : 0 < s.size := by
      have : s.size = s.data.toList.length := rfl
      rw [this, ← ht]; simp
    refine h ⟨h1, ?_⟩
    have : s[0] = s.data.toList[0]'(by simpa using h1) := rfl
    rw [this]
    simp only [← ht]
    rfl
  rw [hn]
  exact ⟨rfl, by simp⟩

set_option maxRecDepth 100000 in
set_option maxHeartbeats 2000000 in
theorem refnumber_any (s : ByteArray) (w : World) (hs : s.size ≤ 140737488351232) :
    Calls Try.prog 22 #[.string s] w fun e w' => e = .returned (numAns s.data.toList) ∧ Below w.heap.size w w' := by
  by_cases h0 : s.data.toList = [48]
  · have HA : Hid (numAns s.data.toList = .tuple #[.int .i64 0, .int .i64 0]) := by unfold Hid; rw [h0]; rfl
    have t0 : (s.toList == [48]) = true := by rw [ByteArray.toList_eq, h0]; decide
    clear h0
    go_enter Try.func22, Try.ntmps22
    go_wp2
    go_ret2
    exact ⟨by rw [HA.out]; rfl, Below.refl _ _⟩
  · have t0 : (s.toList == [48]) = false := by rw [ByteArray.toList_eq, beq_eq_false_iff_ne]; exact h0
    have H0 := Lib.hid h0
    clear h0
    obtain ⟨r, hr⟩ : ∃ r, r = cutS s := ⟨_, rfl⟩
    obtain ⟨b, hb⟩ : ∃ b, b = Rw.cutB s.data.toList := ⟨_, rfl⟩
    have hans : numAns s.data.toList = numIn r.data.toList b := by rw [hr, hb]; rfl
    have hle : r.size ≤ 140737488351232 := by
      have : r.size = (Rw.cutR s.data.toList).length := by rw [hr]; rfl
      rw [this]
      unfold Rw.cutR Lib.trimPrefix
      have e : s.data.toList.length = s.size := rfl
      split <;> simp <;> omega
    rw [hans]
    have HR := Lib.hid hr
    have HB := Lib.hid hb
    clear hr hb hans
    go_enter Try.func22, Try.ntmps22
    go_upto_region 4 with fail
    go_cut [16] (fun t wc => wc = w ∧ t = .bool (decide (∃ h : 0 < s.size, s[0] = 45)))
    case first =>
      by_cases hp : 0 < s.size
      · by_cases h45 : s[0] = 45
        · have t1 : ((s[0].toNat : Int) == 45) = true := by rw [h45]; rfl
          have HE : Hid (decide (∃ h : 0 < s.size, s[0] = 45) = true) := by unfold Hid; simp; exact ⟨hp, h45⟩
          clear h45
          go_wp2
          go_meet
          exact ⟨rfl, by rw [HE.out]⟩
        · have t1 : ((s[0].toNat : Int) == 45) = false := by rw [beq_eq_false_iff_ne]; intro h; exact h45 (UInt8.toNat.inj (by have e : (s[0].toNat : Int) = 45 := h; show s[0].toNat = 45; omega))
          have HE : Hid (decide (∃ h : 0 < s.size, s[0] = 45) = false) := by unfold Hid; simp; exact fun _ => h45
          clear h45
          go_wp2
          go_meet
          exact ⟨rfl, by rw [HE.out]⟩
      · have HE : Hid (decide (∃ h : 0 < s.size, s[0] = 45) = false) := by unfold Hid; simp; exact fun h => absurd h hp
        go_wp2
        go_meet
        exact ⟨rfl, by rw [HE.out]⟩
    case rest =>
      obtain ⟨rfl, rfl⟩ := hcut
      obtain ⟨sg, hsg⟩ : ∃ sg : Int, sg = if b then -1 else 1 := ⟨_, rfl⟩
      have HSG := Lib.hid hsg
      clear hsg
      go_upto_if 16 with fail
      go_cut [0, 4] (fun x y wd => x = .string r ∧ y = .int .i64 sg ∧ Below wc.heap.size wc wd)
      case first =>
        by_cases hm : ∃ h : 0 < s.size, s[0] = 45
        · obtain ⟨hp, h45⟩ := hm
          have hcm := cut_minus s hp h45
          have hd : decide (∃ h : 0 < s.size, s[0] = 45) = true := by simp; exact ⟨hp, h45⟩
          have hbt : b = true := by rw [HB.out]; exact hcm.1
          have hre : s.extract 1 s.size = r := by
            refine Go.WideShapes.bytes_inj ?_
            rw [extract_end, HR.out]
            exact hcm.2.symm
          have HBT := Lib.hid hbt
          have HRE := Lib.hid hre
          rw [hd]
          clear hcm hbt hre hd h45
          go_wp2
          go_quiet (fail)
          go_wp2
          go_meet
          exact ⟨congrArg Value.string HRE.out, by rw [HSG.out, HBT.out]; rfl, below_drewN (Below.refl _ _) _⟩
        · have hcp := cut_plain s hm
          have hd : decide (∃ h : 0 < s.size, s[0] = 45) = false := by simpa using hm
          have hbt : b = false := by rw [HB.out]; exact hcp.1
          have hre : s = r := by
            refine Go.WideShapes.bytes_inj ?_
            rw [HR.out]
            exact hcp.2.symm
          have HBT := Lib.hid hbt
          have HRE := Lib.hid hre
          rw [hd]
          clear hcp hbt hre hd hm
          go_wp2
          go_meet
          exact ⟨congrArg Value.string HRE.out, by rw [HSG.out, HBT.out]; rfl, Below.refl _ _⟩
      case rest =>
        obtain ⟨rfl, rfl, hbel⟩ := hcut
        have HNE : Hid (¬ (r.data.toList = [48] ∧ b = false)) := by
          rintro ⟨h1, h2⟩
          refine H0.out ?_
          by_cases hm : ∃ h : 0 < s.size, s[0] = 45
          · obtain ⟨hp, h45⟩ := hm
            rw [HB.out, (cut_minus s hp h45).1] at h2
            cases h2
          · have h3 := (cut_plain s hm).2
            rw [← h3, ← h1, HR.out]; rfl
        have E1 : Hid (r.data.toList.length = r.size) := rfl
        by_cases h1 : r.size < 1
        · have HA : Hid (numIn r.data.toList b = .tuple #[.int .i64 0, .int .i64 4]) := num_bad (Or.inl (by have := E1.out; omega))
          have t1 : decide ((r.size : Int) < 1) = true := by simp; omega
          clear h1
          go_wp2
          go_ret2
          exact ⟨by rw [HA.out]; rfl, hbel⟩
        · have t1 : decide ((r.size : Int) < 1) = false := by simp; omega
          by_cases h2 : 16 < r.size
          · have HA : Hid (numIn r.data.toList b = .tuple #[.int .i64 0, .int .i64 4]) := num_bad (Or.inr (Or.inl (by have := E1.out; omega)))
            have t2 : decide (16 < (r.size : Int)) = true := by simp; omega
            go_wp2
            go_ret2
            exact ⟨by rw [HA.out]; rfl, hbel⟩
          · have t2 : decide (16 < (r.size : Int)) = false := by simp; omega
            have hpos : 0 < r.size := by omega
            have hg := getD0 r hpos
            by_cases h48 : r[0] = 48
            · have t3 : ((r[0].toNat : Int) == 48) = true := by rw [h48]; rfl
              have HA : Hid (numIn r.data.toList b = .tuple #[.int .i64 0, .int .i64 4]) := by
                refine num_bad (Or.inr (Or.inr ⟨by rw [hg, h48], ?_⟩))
                rcases Nat.lt_or_ge 1 r.size with h | h
                · left; have := E1.out; omega
                · right
                  cases hb : b with
                  | true => rfl
                  | false =>
                    refine absurd ⟨?_, hb⟩ HNE.out
                    have hl1 : r.data.toList.length = 1 := by have := E1.out; omega
                    obtain ⟨c, hc⟩ := List.length_eq_one_iff.1 hl1
                    rw [hc]
                    rw [hc] at hg
                    rw [← h48, ← hg]
                    rfl
              clear hg h48
              go_wp2
              go_ret2
              exact ⟨by rw [HA.out]; rfl, hbel⟩
            · have t3 : ((r[0].toNat : Int) == 48) = false := by rw [beq_eq_false_iff_ne]; intro h; exact h48 (UInt8.toNat.inj (by have e : (r[0].toNat : Int) = 48 := h; show r[0].toNat = 48; omega))
              have HOK : Hid (Rw.numOk r.data.toList b = r.data.toList.all Rw.isDig) := by
                refine num_good ?_
                have := E1.out
                rintro (h | h | ⟨h, _⟩)
                · omega
                · omega
                · exact h48 (by rw [← hg]; exact h)
              have h16 : r.size ≤ 16 := by omega
              clear hg h48
              go_wp2
              go_loop [5, 6] (fun x y => ∃ i : Nat, i ≤ r.size ∧ x = .int .i64 (Rw.decV (r.data.toList.take i) : Int) ∧ y = .int .i64 (i : Int) ∧ (r.data.toList.take i).all Rw.isDig = true) (fun _ y => r.size - (intOf y).toNat)
              case atStart => exact ⟨0, by omega, rfl, rfl, by simp⟩
              case round =>
                obtain ⟨i, hi, rfl, rfl, hall⟩ := hrel
                have hdv := Rw.decV_lt _ hall
                have HALL := Lib.hid hall
                clear hall
                by_cases hlt : i < r.size
                · have hpw : Rw.decV (r.data.toList.take i) < 1000000000000000 := by
                    refine Nat.lt_of_lt_of_le hdv ?_
                    exact (Nat.pow_le_pow_right (by decide) (by have := List.length_take_le i r.data.toList; omega) : 10 ^ (r.data.toList.take i).length ≤ 10 ^ 15)
                  have hsn : r.data.toList.take (i + 1) = r.data.toList.take i ++ [r[i]] := by rw [List.take_succ_eq_append_getElem (by simpa using hlt)]; rfl
                  have HSN := Lib.hid hsn
                  have hc8 := r[i].toNat_lt
                  clear hdv hsn
                  by_cases hd : 48 ≤ r[i].toNat ∧ r[i].toNat ≤ 57
                  · obtain ⟨d1, d2⟩ := hd
                    have u1 : decide ((r[i].toNat : Int) < 48) = false := by simp; omega
                    have u2 : decide ((57 : Int) < (r[i].toNat : Int)) = false := by simp; omega
                    have HD : Hid (Rw.isDig r[i] = true) := by unfold Hid Rw.isDig; simp; omega
                    clear hc8
                    go_wp2
                    go_round
                    case rel =>
                      refine ⟨i + 1, by omega, ?_, by go_num, ?_⟩
                      · rw [HSN.out, Rw.decV_snoc]; exact val_i (by omega)
                      · rw [HSN.out, List.all_append, HALL.out]; simp [HD.out]
                    case measure => simp [intOf]; omega
                  · have HD : Hid (Rw.isDig r[i] = false) := by unfold Hid Rw.isDig; simp; omega
                    have HN : Hid (numIn r.data.toList b = .tuple #[.int .i64 0, .int .i64 4]) := num_nondig HOK.out i (by simpa using hlt) HD.out
                    by_cases d1 : 48 ≤ r[i].toNat
                    · have u1 : decide ((r[i].toNat : Int) < 48) = false := by simp; omega
                      have u2 : decide ((57 : Int) < (r[i].toNat : Int)) = true := by simp; omega
                      clear hc8 hd d1
                      go_wp2
                      go_ret2
                      exact ⟨by rw [HN.out]; rfl, hbel⟩
                    · have u1 : decide ((r[i].toNat : Int) < 48) = true := by simp; omega
                      clear hc8 hd d1
                      go_wp2
                      go_ret2
                      exact ⟨by rw [HN.out]; rfl, hbel⟩
                · obtain rfl : i = r.size := by omega
                  have HT : Hid (r.data.toList.take r.size = r.data.toList) := by unfold Hid; rw [List.take_of_length_le (by simp)]
                  have hpw : Rw.decV (r.data.toList.take r.size) < 10000000000000000 := by
                    refine Nat.lt_of_lt_of_le hdv ?_
                    exact (Nat.pow_le_pow_right (by decide) (by have := List.length_take_le r.size r.data.toList; omega) : 10 ^ (r.data.toList.take r.size).length ≤ 10 ^ 16)
                  have HN : Hid (numIn r.data.toList b = .tuple #[.int .i64 (Rw.numV r.data.toList b), .int .i64 0]) := by
                    unfold Hid numIn; rw [if_pos]; rw [HOK.out]; have := HALL.out; rw [HT.out] at this; exact this
                  clear hdv
                  rcases Bool.eq_false_or_eq_true b with hb | hb
                  all_goals
                    have hs2 := HSG.out
                    rw [hb] at hs2
                    simp only [if_true, Bool.false_eq_true, if_false] at hs2
                    subst hs2
                    go_wp2
                    go_ret2
                    have hn := HN.out
                    rw [hb] at hn
                    refine ⟨?_, hbel⟩
                    rw [hn]
                    unfold Rw.numV
                    rw [HT.out]
                    simp
end Go.Proofs.Ytioddambldnfnaa
