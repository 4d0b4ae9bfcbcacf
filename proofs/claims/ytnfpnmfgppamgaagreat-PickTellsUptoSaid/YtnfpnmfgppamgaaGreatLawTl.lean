/-
  The law PickTells' walk.
-/
import Derived.Test.YtnfpnmfgppamgaaGreatRlE
namespace Go.Proofs.YtnfpnmfgppamgaaGreat
open Go.RowKit

theorem pick_len (L : List Fi) (base ratio : Nat) : (pickOf L base ratio).2.1.length ≤ 2 * L.length := by
  unfold pickOf
  simp only []
  split
  · simp
  · have h1 : ∀ lv : Int, (inK lv (ofL L lv)).length ≤ L.length := fun lv => Nat.le_trans (inK_len _ _) (ofL_len _ _)
    have h2 := h1 (pkSt (sc L base ratio) 6).1
    generalize inK (pkSt (sc L base ratio) 6).1 (ofL L (pkSt (sc L base ratio) 6).1) = K at h2
    cases K with
    | nil => simp [numsK]
    | cons x K =>
      simp only [numsK, List.length_append, List.length_map]
      have := ovL_len L ((pkSt (sc L base ratio) 6).1 + 1) (loF x.f (x :: K)) (hiF x.l (x :: K))
      omega
theorem scd_feq {b1 b2 : List Nat} {L : List Fi} {base ratio : Nat} (h1 : Scd b1 L base ratio 6) (h2 : Scd b2 L base ratio 6) : ∀ i (h : i < b1.length) (h' : i < b2.length), FEq b1[i] b2[i] := by
  intro i h h'
  have a := h1.2 i (by rw [← h1.1]; exact h)
  have b := h2.2 i (by rw [← h1.1]; exact h)
  rw [List.getD_eq_getElem?_getD, List.getElem?_eq_getElem h] at a
  rw [List.getD_eq_getElem?_getD, List.getElem?_eq_getElem h'] at b
  simp only [Option.getD_some] at a b
  rcases a with a | ⟨a1, a2⟩
  · rcases b with b | ⟨b1, b2⟩
    · exact .inl (a.trans b.symm)
    · exact .inr ⟨by rw [a]; exact b2, b1⟩
  · rcases b with b | ⟨b1, b2⟩
    · exact .inr ⟨a1, by rw [b]; exact a2⟩
    · exact .inr ⟨a1, b1⟩

set_option maxRecDepth 100000 in
set_option maxHeartbeats 4000000 in
theorem tells_law (a : Option Addr) (len cap : Nat) (L : List Fi) (base ratio : Nat) (level : Int) (first last : ByteArray) {W : World} (hl : FilesIn W a len cap L) (hlen : len ≤ maxLen) (hbase : (Lit.float .f64 base).wf = true) (hratio : (Lit.float .f64 ratio).wf = true) (hlevel : (Lit.int .i64 level).wf = true) (hfirst : first.size ≤ maxLen) (hlast : last.size ≤ maxLen) (w : World) (hWw : W = w) :
    Calls Tryz.prog 3 #[.slice a len cap, .float .f64 base, .float .f64 ratio, .int .i64 level, .string first, .string last] w fun e w' => e = .returned (.bool true) ∧ Below w.heap.size w w' := by
  subst hWw
  generalize hw : W = w at *
  clear hw hbase hratio hlevel
  have hn := hl.1
  subst hn
  obtain ⟨n, hnn⟩ : ∃ n, n = L.length := ⟨_, rfl⟩
  by_cases hbig : 200 < n
  · have t1 : (200 : Int) < (n : Int) := by omega
    rw [← hnn]
    clear hl hlen hnn hbig
    go_enter Tryz.func3, Tryz.ntmps3
    go_wp2_with fail
    refine (alive_any w).mono ?_
    rintro e w1 ⟨rfl, b1⟩
    go_wp2
    go_ret
    exact ⟨rfl, b1⟩
  · have h2 : n ≤ 200 := by omega
    have t1 : ¬ (200 : Int) < (n : Int) := by omega
    rw [← hnn]
    rw [← hnn] at hl
    have HFI := Lib.hid hl
    have HNN := Lib.hid hnn
    have HFL := Lib.hid (And.intro hfirst hlast)
    clear hl hlen hnn hbig hfirst hlast
    obtain ⟨w4, hw4⟩ : ∃ w4, w.alloc (.cells bookCells 41) = w4 := ⟨_, rfl⟩
    have hb34 : Below w.heap.size w w4 := by rw [← hw4]; exact (Below.refl _ _).alloc (Nat.le_refl _) _
    have hst : BSt (fun _ => False) w w4 w.heap.size 0 0 := bst_start (fun o ho => by rw [← hw4]; exact book_cell _ _ o ho) (fun j => by rw [← hw4]; exact fz_alloc _ _ _ _) (Nat.le_refl _) hb34
    have HST := Lib.hid hst
    obtain ⟨bk, hbk⟩ : ∃ bk, bk = w.heap.size := ⟨_, rfl⟩
    rw [← hbk] at HST
    unfold bookCells at hw4
    clear hst hb34
    go_enter Tryz.func3, Tryz.ntmps3
    go_upto_region 4 with fail
    clear hw4
    rw [← hbk]
    clear hbk
    obtain ⟨pn, hpn⟩ : ∃ pn, (pickOf L base ratio).1 = pn := ⟨_, rfl⟩
    obtain ⟨pl, hpl⟩ : ∃ pl, (pickOf L base ratio).2.1 = pl := ⟨_, rfl⟩
    obtain ⟨pb, hpb⟩ : ∃ pb, (pickOf L base ratio).2.2 = pb := ⟨_, rfl⟩
    have HPK := Lib.hid (And.intro hpn (And.intro hpl hpb))
    obtain ⟨nb, hnb⟩ : ∃ nb, bytesOf L level = nb := ⟨_, rfl⟩
    have HNB := Lib.hid hnb
    obtain ⟨ovl, hovl⟩ : ∃ ovl, ovL L level first last = ovl := ⟨_, rfl⟩
    have HOV := Lib.hid (And.intro hovl (show ovl.length ≤ 200 by rw [← hovl]; have := ovL_len L level first last; have := HNN.out; omega))
    have t2 : (pn != pn) = false := by simp
    have t3 : (pb != pb) = false := by simp
    have t4 : (nb != nb) = false := by simp
    clear hpn hpl hpb hnb hovl
    go_wp2_with fail
    go_loopw [14] (fun x wr => ∃ k : Nat, k ≤ 2 ∧ x = .int .i64 (k : Int) ∧ BSt (fun _ => False) w wr bk (2 * k) k) (fun x _ => 2 - (intOf x).toNat)
    case atStart => exact ⟨0, by omega, rfl, HST.out⟩
    case round =>
      obtain ⟨k, hk, rfl, hst⟩ := hrel
      clear HST
      obtain ⟨w0, rfl⟩ : ∃ w0, w0 = wr := ⟨_, rfl⟩
      have HST := Lib.hid hst
      by_cases hlt : k < 2
      · have r1 : (k : Int) < 2 := by omega
        have hfi : FilesIn w0 a n cap L := ⟨HFI.out.1, HFI.out.2.1.below' rfl hst.bel, HFI.out.2.2⟩
        have HF0 := Lib.hid hfi
        have hll : L.length ≤ 200 := by have := HNN.out; omega
        have HLL := Lib.hid hll
        have hsz : ∀ x ∈ L, -9223372036854775808 ≤ x.sz ∧ x.sz ≤ 9223372036854775807 := fun x hx => by
          have h := (HFI.out.2.2.1 x hx).2.2.2.1
          simp only [Lit.wf, Bool.and_eq_true, decide_eq_true_eq] at h
          exact ⟨h.1, h.2⟩
        have HSZ := Lib.hid hsz
        have HKS := Lib.hid (show ∀ x ∈ L, x.f.size ≤ maxLen ∧ x.l.size ≤ maxLen from fun x hx => ⟨(HFI.out.2.2.1 x hx).2.2.2.2.1, (HFI.out.2.2.1 x hx).2.2.2.2.2⟩)
        clear hst hfi hll hsz
        have nl : n = L.length := HNN.out
        have c2 : ∀ (W : World) (g c : Nat), FilesAt W (some ⟨g, 0, none⟩) L → Calls Tryz.prog 6 #[.slice (some ⟨g, 0, none⟩) n c, .float .f64 base, .float .f64 ratio] W fun e w' => ∃ a' cap' bs, e = .returned (.slice a' 6 cap') ∧ OwnR w' W.heap.size (.slice a' 6 cap') bs ∧ Scd bs L base ratio 6 ∧ Below W.heap.size W w' := fun W g c h => by rw [nl]; exact scores_any h c (by have := HLL.out; omega) base ratio
        have c3 : ∀ (W : World) (g c : Nat), FilesAt W (some ⟨g, 0, none⟩) L → Calls Tryz.prog 7 #[.slice (some ⟨g, 0, none⟩) n c, .int .i64 level, .string first, .string last] W fun e w' => ∃ a' cap', e = .returned (.slice a' ovl.length cap') ∧ OwnI w' W.heap.size (.slice a' ovl.length cap') ovl ∧ Below W.heap.size W w' := fun W g c h => by rw [nl, ← HOV.out.1]; exact overlap_any h c (by have := HLL.out; omega) level first last
        have c4 : ∀ (W : World) (g c : Nat), FilesAt W (some ⟨g, 0, none⟩) L → Calls Tryz.prog 8 #[.slice (some ⟨g, 0, none⟩) n c, .float .f64 base, .float .f64 ratio] W fun e w' => ∃ a' cap', e = .returned (.tuple #[.int .i64 pn, .slice a' pl.length cap', .bool pb]) ∧ OwnI w' W.heap.size (.slice a' pl.length cap') pl ∧ Below W.heap.size W w' := fun W g c h => by rw [nl, ← HPK.out.1, ← HPK.out.2.1, ← HPK.out.2.2]; exact pick_any h c (by have := HLL.out; omega) base ratio
        have c5 : ∀ (W : World), FilesAt W a L → Calls Tryz.prog 9 #[.slice a n cap, .float .f64 base, .float .f64 ratio] W fun e w' => ∃ a' cap', e = .returned (.tuple #[.int .i64 pn, .slice a' pl.length cap', .bool pb]) ∧ Own eInt w' W.heap.size (.slice a' pl.length cap') pl ∧ Below W.heap.size W w' := fun W h => by rw [nl, ← HPK.out.1, ← HPK.out.2.1, ← HPK.out.2.2]; exact rpick_any h HFI.out.2.2.1 cap (by have := HLL.out; omega) base ratio
        have c6 : ∀ (W : World), FilesAt W a L → Calls Tryz.prog 11 #[.slice a n cap, .float .f64 base, .float .f64 ratio] W fun e w' => ∃ a' cap' bs, e = .returned (.slice a' 6 cap') ∧ OwnR w' W.heap.size (.slice a' 6 cap') bs ∧ Scd bs L base ratio 6 ∧ Below W.heap.size W w' := fun W h => by rw [nl]; exact rscores_any h HSZ.out cap (by have := HLL.out; omega) base ratio
        have c8 : ∀ (W : World), FilesAt W a L → Calls Tryz.prog 13 #[.slice a n cap, .int .i64 level, .string first, .string last] W fun e w' => ∃ a' cap', e = .returned (.slice a' ovl.length cap') ∧ Own eInt w' W.heap.size (.slice a' ovl.length cap') ovl ∧ Below W.heap.size W w' := fun W h => by rw [nl, ← HOV.out.1]; exact roverlap_any h HKS.out cap (by have := HLL.out; omega) level first last HFL.out.1 HFL.out.2
        have c11 : ∀ (W : World) (g c : Nat), FilesAt W (some ⟨g, 0, none⟩) L → Calls Tryz.prog 14 #[.slice (some ⟨g, 0, none⟩) n c, .int .i64 level] W fun e w' => e = .returned (.int .i64 nb) ∧ Below W.heap.size W w' := fun W g c h => by rw [nl, ← HNB.out]; exact bytes_any h c (by have := HLL.out; omega) level
        have c12 : ∀ (W : World), FilesAt W a L → Calls Tryz.prog 15 #[.slice a n cap, .int .i64 level] W fun e w' => e = .returned (.int .i64 nb) ∧ W = w' := fun W h => by rw [nl, ← HNB.out]; exact rbytes_any h HSZ.out cap (by have := HLL.out; omega) level
        have hpll : pl.length ≤ 50000 := by rw [← HPK.out.2.1]; have := pick_len L base ratio; have := HLL.out; omega
        have HPLL := Lib.hid hpll
        have C2 := Lib.hid c2
        have C3 := Lib.hid c3
        have C4 := Lib.hid c4
        have C5 := Lib.hid c5
        have C6 := Lib.hid c6
        have C8 := Lib.hid c8
        have C11 := Lib.hid c11
        have C12 := Lib.hid c12
        have HAT := Lib.hid (fun (W : World) (hb : Below w0.heap.size w0 W) => (HF0.out.2.1.below hb : FilesAt W a L))
        clear c2 c3 c4 c5 c6 c8 c11 c12 hpll nl
        go_wp2_with (first
          | (go_at_call 18; have tok := HP15; refine (bst_ints (s := ⟨ma, pl.length, mc⟩) HP15.out HM15.out (fun q hq => ⟨⟨⟨.inr ⟨Nat.le_trans ((bt (bt Hb1.out Hb2.out) Hb3.out)).size (HM.out.lt q hq).1, Nat.lt_of_lt_of_le (HM.out.lt q hq).2 ((bt (bt (bt (bt (bt (bt (bt (bt Hb5.out Hb6.out) Hb7.out) Hb8.out) Hb9.out) Hb10.out) Hb11.out) Hb12.out) Hb13.out)).size⟩, fun e => absurd (Nat.lt_of_lt_of_le (HS.out.1.lt q e).2 Hb3.out.size) (Nat.not_lt.2 (HM.out.lt q hq).1)⟩, fun e => absurd (HO.out.lt q e).2 (Nat.not_lt.2 (HM.out.lt q hq).1)⟩, Nat.le_trans HST.out.bel.size (Nat.le_trans ((bt (bt Hb1.out Hb2.out) Hb3.out)).size (HM.out.lt q hq).1), Nat.lt_of_lt_of_le HST.out.bklt (Nat.le_trans ((bt (bt Hb1.out Hb2.out) Hb3.out)).size (HM.out.lt q hq).1)⟩) HPLL.out (by omega)).mono ?_; rintro _ w16 ⟨rfl, hp, ht⟩; have HP16 := Lib.hid hp; clear hp ht; simp only [])
          | (go_at_call 18; have tok := HP14; refine (bst_ints (s := ⟨oa, ovl.length, oc⟩) HP14.out HO14.out (fun q hq => ⟨⟨.inr ⟨Nat.le_trans ((bt Hb1.out Hb2.out)).size (HO.out.lt q hq).1, Nat.lt_of_lt_of_le (HO.out.lt q hq).2 ((bt (bt (bt (bt (bt (bt (bt (bt (bt Hb4.out Hb5.out) Hb6.out) Hb7.out) Hb8.out) Hb9.out) Hb10.out) Hb11.out) Hb12.out) Hb13.out)).size⟩, fun e => absurd (HS.out.1.lt q e).2 (Nat.not_lt.2 (HO.out.lt q hq).1)⟩, Nat.le_trans HST.out.bel.size (Nat.le_trans ((bt Hb1.out Hb2.out)).size (HO.out.lt q hq).1), Nat.lt_of_lt_of_le HST.out.bklt (Nat.le_trans ((bt Hb1.out Hb2.out)).size (HO.out.lt q hq).1)⟩) (by have := HOV.out.2; omega) (by omega)).mono ?_; rintro _ w15 ⟨rfl, hp, ht⟩; have HP15 := Lib.hid hp; have HM15 := Lib.hid (ht.row HM14.out (fun q hq e => e ⟨.inr ⟨Nat.le_trans ((bt (bt Hb1.out Hb2.out) Hb3.out)).size (HM.out.lt q hq).1, Nat.lt_of_lt_of_le (HM.out.lt q hq).2 ((bt (bt (bt (bt (bt (bt (bt (bt Hb5.out Hb6.out) Hb7.out) Hb8.out) Hb9.out) Hb10.out) Hb11.out) Hb12.out) Hb13.out)).size⟩, fun e => absurd (Nat.lt_of_lt_of_le (HS.out.1.lt q e).2 Hb3.out.size) (Nat.not_lt.2 (HM.out.lt q hq).1)⟩)); clear hp ht HP14; simp only [])
          | (go_at_call 17; refine (bst_reals (s := ⟨sa, 6, sc⟩) (HST.out.more (bt (bt (bt (bt (bt (bt (bt (bt (bt (bt (bt (bt Hb1.out Hb2.out) Hb3.out) Hb4.out) Hb5.out) Hb6.out) Hb7.out) Hb8.out) Hb9.out) Hb10.out) Hb11.out) Hb12.out) Hb13.out)) (row_below HS.out.1 (bt (bt (bt (bt (bt (bt (bt (bt (bt (bt Hb3.out Hb4.out) Hb5.out) Hb6.out) Hb7.out) Hb8.out) Hb9.out) Hb10.out) Hb11.out) Hb12.out) Hb13.out)) (fun q hq => ⟨.inr ⟨Nat.le_trans Hb1.out.size (HS.out.1.lt q hq).1, Nat.lt_of_lt_of_le (HS.out.1.lt q hq).2 ((bt (bt (bt (bt (bt (bt (bt (bt (bt (bt Hb3.out Hb4.out) Hb5.out) Hb6.out) Hb7.out) Hb8.out) Hb9.out) Hb10.out) Hb11.out) Hb12.out) Hb13.out)).size⟩, Nat.le_trans HST.out.bel.size (Nat.le_trans Hb1.out.size (HS.out.1.lt q hq).1), Nat.lt_of_lt_of_le HST.out.bklt (Nat.le_trans Hb1.out.size (HS.out.1.lt q hq).1)⟩) (by rw [HS.out.2.1]; omega) (by omega)).mono ?_; rintro _ w14 ⟨rfl, hp, ht⟩; have HP14 := Lib.hid hp; have HO14 := Lib.hid (ht.row (row_below HO.out (bt (bt (bt (bt (bt (bt (bt (bt (bt Hb4.out Hb5.out) Hb6.out) Hb7.out) Hb8.out) Hb9.out) Hb10.out) Hb11.out) Hb12.out) Hb13.out)) (fun q hq e => e (.inr ⟨Nat.le_trans ((bt Hb1.out Hb2.out)).size (HO.out.lt q hq).1, Nat.lt_of_lt_of_le (HO.out.lt q hq).2 ((bt (bt (bt (bt (bt (bt (bt (bt (bt Hb4.out Hb5.out) Hb6.out) Hb7.out) Hb8.out) Hb9.out) Hb10.out) Hb11.out) Hb12.out) Hb13.out)).size⟩))); have HM14 := Lib.hid (ht.row (row_below HM.out (bt (bt (bt (bt (bt (bt (bt (bt Hb5.out Hb6.out) Hb7.out) Hb8.out) Hb9.out) Hb10.out) Hb11.out) Hb12.out) Hb13.out)) (fun q hq e => e (.inr ⟨Nat.le_trans ((bt (bt Hb1.out Hb2.out) Hb3.out)).size (HM.out.lt q hq).1, Nat.lt_of_lt_of_le (HM.out.lt q hq).2 ((bt (bt (bt (bt (bt (bt (bt (bt Hb5.out Hb6.out) Hb7.out) Hb8.out) Hb9.out) Hb10.out) Hb11.out) Hb12.out) Hb13.out)).size⟩))); clear hp ht; simp only [])
          | (go_at_call 16; have tok := Hb12; refine (stays_any (HX.out.below (bt (bt (bt (bt (bt (bt (bt (bt (bt (bt Hb2.out Hb3.out) Hb4.out) Hb5.out) Hb6.out) Hb7.out) Hb8.out) Hb9.out) Hb10.out) Hb11.out) Hb12.out)) (HAT.out _ (bt (bt (bt (bt (bt (bt (bt (bt (bt (bt (bt Hb1.out Hb2.out) Hb3.out) Hb4.out) Hb5.out) Hb6.out) Hb7.out) Hb8.out) Hb9.out) Hb10.out) Hb11.out) Hb12.out)) (by omega)).mono ?_; rintro _ w13 ⟨rfl, hb⟩; have Hb13 := Lib.hid hb; clear hb; simp only [])
          | (go_at_call 15; have tok := Hb11; refine (C12.out w11 (HAT.out _ (bt (bt (bt (bt (bt (bt (bt (bt (bt (bt Hb1.out Hb2.out) Hb3.out) Hb4.out) Hb5.out) Hb6.out) Hb7.out) Hb8.out) Hb9.out) Hb10.out) Hb11.out))).mono ?_; rintro _ w12 ⟨rfl, hw12⟩; have Hb12 := Lib.hid (show Below w11.heap.size w11 w12 from (by rw [← hw12]; exact Below.refl _ _)); clear hw12; simp only [])
          | (go_at_call 14; have tok := Hb10; refine (C11.out w10 g1 k1 (HX.out.below (bt (bt (bt (bt (bt (bt (bt (bt Hb2.out Hb3.out) Hb4.out) Hb5.out) Hb6.out) Hb7.out) Hb8.out) Hb9.out) Hb10.out)).files).mono ?_; rintro _ w11 ⟨rfl, hb⟩; have Hb11 := Lib.hid hb; clear hb; simp only [])
          | (go_at_call 12; have tok := Hb9; with_reducible refine (same_Ints (rdI_own (row_below HM.out (bt (bt (bt (bt Hb5.out Hb6.out) Hb7.out) Hb8.out) Hb9.out))) (rdI_own (row_below HRM.out (bt (bt (bt Hb6.out Hb7.out) Hb8.out) Hb9.out))) (by have := HPLL.out; omega)).mono ?_; rintro _ w10 ⟨rfl, d10, hw10⟩; have Hb10 := Lib.hid (show Below w9.heap.size w9 w10 from (by rw [hw10]; exact below_drewN (Below.refl _ _) _)); clear hw10; simp only [])
          | (go_at_call 12; have tok := Hb8; with_reducible refine (same_Ints (rdI_own (row_below HO.out (bt (bt (bt (bt Hb4.out Hb5.out) Hb6.out) Hb7.out) Hb8.out))) (rdI_own HRO.out) (by have := HOV.out.2; omega)).mono ?_; rintro _ w9 ⟨rfl, d9, hw9⟩; have Hb9 := Lib.hid (show Below w8.heap.size w8 w9 from (by rw [hw9]; exact below_drewN (Below.refl _ _) _)); clear hw9; simp only [])
          | (go_at_call 13; have tok := Hb7; refine (C8.out w7 (HAT.out _ (bt (bt (bt (bt (bt (bt Hb1.out Hb2.out) Hb3.out) Hb4.out) Hb5.out) Hb6.out) Hb7.out))).mono ?_; rintro _ w8 ⟨ua, uc, rfl, ho, hb⟩; have HRO := Lib.hid (show Own kInts w8 w7.heap.size (.slice ua ovl.length uc) ovl from ho); have Hb8 := Lib.hid hb; clear ho hb; simp only [])
          | (go_at_call 10; have tok := Hb6; refine (same_FReals (rdR_own (row_below HS.out.1 (bt (bt (bt Hb3.out Hb4.out) Hb5.out) Hb6.out))) (rdR_own HRS.out.1) (by rw [HS.out.2.1]; omega) (by rw [HS.out.2.1, HRS.out.2.1]) (scd_feq HS.out.2 HRS.out.2)).mono ?_; rintro _ w7 ⟨rfl, d7, hw7⟩; have Hb7 := Lib.hid (show Below w6.heap.size w6 w7 from (by rw [hw7]; exact below_drewN (Below.refl _ _) _)); clear hw7; simp only [])
          | (go_at_call 11; have tok := Hb5; refine (C6.out w5 (HAT.out _ (bt (bt (bt (bt Hb1.out Hb2.out) Hb3.out) Hb4.out) Hb5.out))).mono ?_; rintro _ w6 ⟨ta, tc, bs2, rfl, ho, hsd, hb⟩; have HRS := Lib.hid (And.intro (ownR_reals ho) hsd); have Hb6 := Lib.hid hb; clear ho hsd hb; simp only [])
          | (go_at_call 9; have tok := Hb4; refine (C5.out w4 (HAT.out _ (bt (bt (bt Hb1.out Hb2.out) Hb3.out) Hb4.out))).mono ?_; rintro _ w5 ⟨ra, rc, rfl, ho, hb⟩; have HRM := Lib.hid (show Own kInts w5 w4.heap.size (.slice ra pl.length rc) pl from ho); have Hb5 := Lib.hid hb; clear ho hb; simp only [])
          | (go_at_call 8; have tok := Hb3; refine (C4.out w3 g1 k1 (HX.out.below (bt Hb2.out Hb3.out)).files).mono ?_; rintro _ w4 ⟨ma, mc, rfl, ho, hb⟩; have HM := Lib.hid (show Own kInts w4 w3.heap.size (.slice ma pl.length mc) pl from OwnI.own ho); have Hb4 := Lib.hid hb; clear ho hb; simp only [])
          | (go_at_call 7; have tok := Hb2; refine (C3.out w2 g1 k1 (HX.out.below Hb2.out).files).mono ?_; rintro _ w3 ⟨oa, oc, rfl, ho, hb⟩; have HO := Lib.hid (show Own kInts w3 w2.heap.size (.slice oa ovl.length oc) ovl from OwnI.own ho); have Hb3 := Lib.hid hb; clear ho hb; simp only [])
          | (go_at_call 6; have tok := Hb1; refine (C2.out w1 g1 k1 HX.out.files).mono ?_; rintro _ w2 ⟨sa, sc, bs, rfl, ho, hsd, hb⟩; have HS := Lib.hid (And.intro (ownR_reals ho) hsd); have Hb2 := Lib.hid hb; clear ho hsd hb; simp only [])
          | (go_at_call 5; refine (lent_any HF0.out (by omega)).mono ?_; rintro _ w1 ⟨g1, k1, rfl, hx, hb⟩; have HX := Lib.hid hx; have Hb1 := Lib.hid hb; clear hx hb; simp only []))
        go_roundw
        case rel => exact ⟨k + 1, by omega, by go_num, HP16.out.weak (fun _ e => e.elim) (by omega) (by omega)⟩
        case measure => simp [intOf]; omega
      · obtain rfl : k = 2 := by omega
        clear hst
        go_wp2_with (first
          | (go_at_call 19; refine (bst_apart (HST.out.more Hb1.out) (by omega) (by omega)).mono ?_; rintro _ w2 ⟨rfl, hb⟩; have HbE := Lib.hid hb; clear hb; simp only [])
          | (go_at_call 4; refine (alive_any _).mono ?_; rintro _ w1 ⟨rfl, hb⟩; have Hb1 := Lib.hid hb; clear hb; simp only []))
        go_ret
        exact ⟨rfl, (HST.out.bel.trans (Hb1.out.mono HST.out.bel.size)).trans HbE.out⟩
end Go.Proofs.YtnfpnmfgppamgaaGreat
