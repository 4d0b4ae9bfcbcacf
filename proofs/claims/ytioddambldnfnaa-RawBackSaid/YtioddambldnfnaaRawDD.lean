/-
  The walk of the law RawBack.
-/
import Derived.Test.YtioddambldnfnaaRawP
import Derived.Test.YtioddambldnfnaaRawAA
import Derived.Test.YtioddambldnfnaaRawCC
namespace Go.Proofs.Ytioddambldnfnaa
open Go.RowKit

theorem beV_be (k : Nat) : ∀ (v : Nat), v < 256 ^ k → ∀ a : Nat, (Rw.beF k v).foldl (fun v c => v * 256 + c.toNat) a = a * 256 ^ k + v := by
  induction k with
  | zero => intro v hv a; simp at hv; subst hv; simp [Rw.beF]
  | succ k ih =>
    intro v hv a
    have hp : 0 < 256 ^ k := Nat.pow_pos (by decide)
    have be_mod : ∀ (k u : Nat), Rw.beF k (u % 256 ^ k) = Rw.beF k u := by
      intro k
      induction k with
      | zero => intro u; rfl
      | succ k ih2 =>
        intro u
        have hp : 0 < 256 ^ k := Nat.pow_pos (by decide)
        unfold Rw.beF
        congr 1
        · apply UInt8.toNat.inj
          rw [UInt8.toNat_ofNat', UInt8.toNat_ofNat', Nat.pow_succ, Nat.mod_mul_right_div_self]
          simp
        · rw [← ih2, Nat.pow_succ, Nat.mod_mul_right_mod, ih2]
    unfold Rw.beF
    rw [List.foldl_cons, ← be_mod, ih _ (Nat.mod_lt _ hp), UInt8.toNat_ofNat']
    have q : v / 256 ^ k < 256 := by rw [Nat.pow_succ] at hv; rw [Nat.div_lt_iff_lt_mul hp]; omega
    rw [Nat.mod_eq_of_lt (show v / 256 ^ k < 2 ^ 8 from q), Nat.pow_succ]
    have e := Nat.div_add_mod v (256 ^ k)
    generalize v / 256 ^ k = x at *
    generalize v % 256 ^ k = y at *
    generalize 256 ^ k = p at *
    rw [← e, Nat.add_mul, Nat.mul_comm p 256, Nat.mul_assoc, Nat.mul_comm x p, Nat.add_assoc]

/-- What Put answers, and what Get makes of it. -/
theorem put_gen (v n : Int) : ∃ (s : ByteArray) (e : Int), putAns v n = .tuple #[.string s, .int .i64 e] ∧ (e = 0 → getAns s.data.toList = .tuple #[.int .i64 v, .int .i64 0] ∧ (s.size : Int) = n ∧ s.size ≤ 7) := by
  unfold putAns
  by_cases h : Rw.putOk v n = true
  · rw [if_pos h]
    refine ⟨_, _, rfl, fun _ => ?_⟩
    simp only [Rw.putOk, Bool.and_eq_true, decide_eq_true_eq] at h
    have hlen := Rw.beF_len n.toNat v.toNat
    constructor
    · unfold getAns getOk
      rw [if_pos (by simp [hlen]; omega)]
      have hv : Rw.beV (Rw.beF n.toNat v.toNat) = v.toNat := by
        have := beV_be n.toNat v.toNat h.2 0
        simpa [Rw.beV] using this
      rw [show (ByteArray.mk (Rw.beF n.toNat v.toNat).toArray).data.toList = Rw.beF n.toNat v.toNat from rfl, hv, Int.toNat_of_nonneg (by omega)]
    · show ((Rw.beF n.toNat v.toNat).length : Int) = n ∧ (Rw.beF n.toNat v.toNat).length ≤ 7
      rw [hlen]; omega
  · rw [if_neg h]
    exact ⟨_, _, rfl, fun h => by omega⟩

set_option maxRecDepth 100000 in
set_option maxHeartbeats 2000000 in
theorem back_any (v n : Int) (b more : ByteArray) (hv : (Lit.int .i64 v).wf = true) (_ : (Lit.int .i64 n).wf = true) (hb : b.size ≤ 140737488351232) (hm : more.size ≤ 140737488351232) (w : World) :
    Calls Try.prog 10 #[.int .i64 v, .int .i64 n, .string b, .string more] w fun e w' => e = .returned (.bool true) ∧ Below w.heap.size w w' := by
  obtain ⟨v0, v1⟩ := i64_bounds hv
  have V0 := Lib.hid v0
  have V1 := Lib.hid v1
  clear hv v0 v1
  by_cases h9 : 9000 < b.size + more.size
  · go_enter Try.func10, Try.ntmps10
    go_wp2_with fail
    refine (alive_any w).mono ?_
    rintro e w1 ⟨rfl, b1⟩
    go_wp2
    go_ret
    exact ⟨rfl, b1⟩
  · have hb9 : b.size ≤ 9000 := by omega
    have hm9 : more.size ≤ 9000 := by omega
    clear hb hm
    obtain ⟨ps, pe, hps, hpe⟩ := put_gen v n
    have HPE := Lib.hid hpe
    have hput := put_any v n w
    rw [hps] at hput
    have HPUT := Lib.hid hput
    clear hps hpe hput
    go_enter Try.func10, Try.ntmps10
    go_wp2_with fail
    refine HPUT.out.mono ?_
    rintro e w1 ⟨rfl, b1⟩
    go_upto_if 35 with fail
    go_cut [11, 12] (fun _ _ wc => Below w.heap.size w wc)
    case first =>
      by_cases hz : pe = 0
      · obtain ⟨hg, hlen, h7⟩ := HPE.out hz
        have hget := get_any ps w1 (by unfold maxLen; omega)
        have hz2 : (pe == 0) = true := by rw [beq_iff_eq]; exact hz
        rw [hg] at hget
        have HGET := Lib.hid hget
        have hl2 : ((ps.size : Int) != n) = false := by rw [hlen]; simp
        clear hget hg hlen hz h7
        go_wp2_with fail
        refine HGET.out.mono ?_
        rintro e w' ⟨rfl, rfl⟩
        go_wp2
        go_meet
        exact b1
      · have hz2 : (pe == 0) = false := by rw [beq_eq_false_iff_ne]; exact hz
        clear hz
        go_wp2
        go_meet
        exact b1
    case rest =>
      have hbel := hcut
      clear hcut b1
      go_upto_if 55 with fail
      go_cut [13, 14, 15] (fun _ _ _ wc => Below w.heap.size w wc)
      case first =>
        by_cases hneg : v < 0
        · go_wp2
          go_meet
          exact hbel
        · obtain ⟨u, rfl⟩ := Int.eq_ofNat_of_zero_le (show 0 ≤ v by omega)
          have hu : u < 9223372036854775808 := by have := V1.out; omega
          have hul : 1 ≤ (Rw.putF u).length ∧ (Rw.putF u).length ≤ 9 := Rw.putK_len 8 u
          have HU := Lib.hid hu
          clear hu hneg
          go_wp2_with fail
          refine (putvar_any u _ HU.out).mono ?_
          rintro e w2 ⟨rfl, b2⟩
          have hbel2 := hbel.trans (b2.mono hbel.size)
          have hno : ¬ 9223372036854775807 < (Rw.putF u).length + more.size := by omega
          go_wp2_with fail
          have hcall := getvar_any (⟨(Rw.putF u).toArray⟩ ++ more) w2 (by
            rw [ByteArray.size_append]
            have : (ByteArray.mk (Rw.putF u).toArray).size = (Rw.putF u).length := rfl
            unfold maxLen; omega)
          rw [show ((⟨(Rw.putF u).toArray⟩ : ByteArray) ++ more).data.toList = Rw.putF u ++ more.data.toList from by simp, Rw.getF_put u HU.out] at hcall
          refine hcall.mono ?_
          rintro e w3 ⟨rfl, b3⟩
          have hbel3 := hbel2.trans (b3.mono hbel2.size)
          clear hcall
          go_wp2_with fail
          refine (putvar_any u _ HU.out).mono ?_
          rintro e w4 ⟨rfl, b4⟩
          have hbel4 := hbel3.trans (b4.mono hbel3.size)
          go_wp2
          go_meet
          exact hbel4
      case rest =>
        have hbel := hcut
        clear hcut
        have hql : (Rw.quoteF b.data.toList).length ≤ 36002 := by
          have := Rw.quoteIn_len b.data.toList
          have e : b.data.toList.length = b.size := rfl
          simp only [Rw.quoteF, List.length_cons, List.length_append, List.length_nil]
          omega
        go_wp2_with fail
        refine (quote_any b _ (by omega)).mono ?_
        rintro e w2 ⟨rfl, b2⟩
        have hbel2 := hbel.trans (b2.mono hbel.size)
        have hno : ¬ 9223372036854775807 < (Rw.quoteF b.data.toList).length + more.size := by omega
        go_wp2_with fail
        have hS : (ByteArray.mk (Rw.quoteF b.data.toList).toArray ++ more).size ≤ 140737488351232 := by
          rw [ByteArray.size_append]
          have : (ByteArray.mk (Rw.quoteF b.data.toList).toArray).size = (Rw.quoteF b.data.toList).length := rfl
          omega
        have hS2 : (ByteArray.mk (Rw.quoteF b.data.toList).toArray ++ more).data.toList = Rw.quoteF b.data.toList ++ more.data.toList := by simp
        have hcall := unquote_back (ByteArray.mk (Rw.quoteF b.data.toList).toArray ++ more) b more.data.toList w2 hS hS2
        clear hS hS2
        refine hcall.mono ?_
        clear hcall
        rintro e w3 ⟨rfl, b3⟩
        have hbel3 := hbel2.trans (b3.mono hbel2.size)
        go_wp2_with fail
        refine (quote_any b _ (by omega)).mono ?_
        rintro e w4 ⟨rfl, b4⟩
        have hbel4 := hbel3.trans (b4.mono hbel3.size)
        clear hbel hbel2 hbel3 b2 b3 b4 hno hql
        go_wp2_with fail
        refine (digits_any v _ V0.out V1.out).mono ?_
        rintro e w5 ⟨rfl, b5⟩
        have hbel5 := hbel4.trans (b5.mono hbel4.size)
        have hnum := number_any ⟨(Rw.digF v).toArray⟩ w5 (by
          have h1 := Rw.decK_len 18 v.natAbs
          have : (ByteArray.mk (Rw.digF v).toArray).size = (Rw.digF v).length := rfl
          rw [this]
          unfold Rw.digF Rw.decF maxLen
          split
          · rw [List.length_cons]; omega
          · omega)
        have hdig := Rw.num_dig v (by have := V0.out; have := V1.out; omega)
        clear hbel4 b5
        by_cases hbig : v.natAbs < 10000000000000000
        · have hans : numAns (ByteArray.mk (Rw.digF v).toArray).data.toList = .tuple #[.int .i64 v, .int .i64 0] := by
            unfold numAns
            show (if Rw.numOk (Rw.cutR (Rw.digF v)) (Rw.cutB (Rw.digF v)) = true then _ else _) = _
            rw [hdig.1, if_pos (by simp; exact hbig), show (ByteArray.mk (Rw.digF v).toArray).data.toList = Rw.digF v from rfl, hdig.2]
          rw [hans] at hnum
          have HN := Lib.hid hnum
          have t1 : decide (v ≤ -10000000000000000) = false := by simp; omega
          have t2 : decide (10000000000000000 ≤ v) = false := by simp; omega
          clear hans hnum hdig hbig
          go_wp2_with fail
          refine HN.out.mono ?_
          rintro e w' ⟨rfl, rfl⟩
          go_wp2_with fail
          refine (alive_any w5).mono ?_
          rintro e w6 ⟨rfl, b6⟩
          go_wp2
          go_ret
          exact ⟨rfl, hbel5.trans (b6.mono hbel5.size)⟩
        · have hans : numAns (ByteArray.mk (Rw.digF v).toArray).data.toList = .tuple #[.int .i64 0, .int .i64 4] := by
            unfold numAns
            show (if Rw.numOk (Rw.cutR (Rw.digF v)) (Rw.cutB (Rw.digF v)) = true then _ else _) = _
            rw [hdig.1, if_neg (by simp; omega)]
          rw [hans] at hnum
          have HN := Lib.hid hnum
          have t1 : (decide (v ≤ -10000000000000000) || decide (10000000000000000 ≤ v)) = true := by simp; omega
          clear hans hnum hdig
          by_cases hlo : v ≤ -10000000000000000
          · have t2 : decide (v ≤ -10000000000000000) = true := by simp; omega
            clear hbig hlo t1
            go_wp2_with fail
            refine HN.out.mono ?_
            rintro e w' ⟨rfl, rfl⟩
            go_wp2_with fail
            refine (alive_any w5).mono ?_
            rintro e w6 ⟨rfl, b6⟩
            go_wp2
            go_ret
            exact ⟨rfl, hbel5.trans (b6.mono hbel5.size)⟩
          · have t2 : decide (v ≤ -10000000000000000) = false := by simp; omega
            have t3 : decide (10000000000000000 ≤ v) = true := by simp; omega
            clear hbig hlo t1
            go_wp2_with fail
            refine HN.out.mono ?_
            rintro e w' ⟨rfl, rfl⟩
            go_wp2_with fail
            refine (alive_any w5).mono ?_
            rintro e w6 ⟨rfl, b6⟩
            go_wp2
            go_ret
            exact ⟨rfl, hbel5.trans (b6.mono hbel5.size)⟩
end Go.Proofs.Ytioddambldnfnaa
