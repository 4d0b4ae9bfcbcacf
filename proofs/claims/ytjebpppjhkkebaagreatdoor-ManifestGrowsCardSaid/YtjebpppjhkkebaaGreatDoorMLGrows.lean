
/-
  ManifestGrows: its walk.
-/
import Derived.Test.YtjebpppjhkkebaaGreatDoorM33
set_option linter.unusedSimpArgs false
set_option linter.unusedVariables false
namespace Go.Proofs.YtjebpppjhkkebaaGreatDoor
open Go.RowKit
variable {w w' w0 : World}

theorem less_kcL (a b : List UInt8) : Op.bytesLess a b = decide (Lib.compareBytes a b < 0) := by
  induction a generalizing b with
  | nil => cases b <;> simp [Op.bytesLess, Lib.compareBytes]
  | cons x a ih =>
    cases b with
    | nil => simp [Op.bytesLess, Lib.compareBytes]
    | cons y b =>
      unfold Op.bytesLess Lib.compareBytes
      by_cases h1 : x < y
      · simp [h1]
      · by_cases h2 : y < x
        · simp [h1, h2]
          intro e
          subst e
          exact absurd h2 h1
        · simp [h1, h2, ih]
          intro _
          exact UInt8.le_antisymm (UInt8.not_lt.1 h2) (UInt8.not_lt.1 h1)
theorem less_kc (a b : ByteArray) : Op.bytesLess a.toList b.toList = decide (kc a b < 0) := by
  rw [ByteArray.toList_eq, ByteArray.toList_eq]
  exact less_kcL _ _
theorem gapply_zero_or {s : PS} {e : PE} : (applyF s e).1 = 0 ∨ ((applyF s e).1 ≠ 0 ∧ (applyF s e).2 = s00) := by
  unfold applyF
  split
  · right; simp
  · split
    · rename_i h
      right
      exact ⟨h, rfl⟩
    · split
      · right; simp
      · split
        · right; simp
        · split
          · right; simp
          · left; rfl
theorem below_drewN9 {B : Nat} {a b : World} (h : Below B a b) (n : Nat) : Below B a (b.drewN n) := ⟨h.os, h.tape, h.output, h.size, h.block⟩
theorem fi_made {w wn : World} {u : Fi} (h : w.alloc (.cells #[.int .i64 u.lv, .int .i64 u.nu, .int .i64 u.ct, .int .i64 u.sz, .string u.f, .string u.l] 54) = wn) : FiB wn w.heap.size u ∧ Below w.heap.size w wn := by
  rw [← h]
  exact ⟨FiB.made w u, (Below.refl _ _).alloc (Nat.le_refl _) _⟩

set_option maxRecDepth 100000 in
set_option maxHeartbeats 16000000 in
theorem grows_walk (a : Option Addr) (len cap : Nat) (L : List EdR) {W : World} (hl : EdsIn W a len cap L) (hlen : len ≤ 140737488351232) (w : World) (hW : W = w) :
    Calls Tryz.prog 5 #[.slice a len cap] w fun e w' => e = .returned (.bool true) ∧ Below w.heap.size w w' := by
  subst hW
  obtain ⟨w, rfl⟩ : ∃ w, w = W := ⟨_, rfl⟩
  by_cases h60 : 60 < len
  · have t0 : (60 : Int) < (len : Int) := by omega
    clear hl
    go_enter Tryz.func5, Tryz.ntmps5
    go_wp2_with (go_at_call 8; refine (malive_any _).mono ?_; rintro r w3 ⟨rfl, hb3⟩; have H3 := Lib.hid hb3; clear hb3)
    go_ret
    exact ⟨rfl, H3.out⟩
  have t0 : ¬ (60 : Int) < (len : Int) := by omega
  obtain ⟨w3, hw3⟩ : ∃ w3, w.alloc (.cells #[.slice none 0 0, .int .i64 0, .int .i64 0, .slice none 0 0, .slice none 0 0] 30) = w3 := ⟨_, rfl⟩
  have hb3 : Below w.heap.size w w3 := by rw [← hw3]; exact (Below.refl _ _).alloc (Nat.le_refl _) _
  have ho3 : ObZ w3 w.heap.size := by rw [← hw3]; exact ObZ.made w
  have z0 := ho3.z0
  have z1 := ho3.z1
  have z2 := ho3.z2
  have z3 := ho3.z3
  have z4 := ho3.z4
  have f0 := ho3.zf 0
  have f1 := ho3.zf 1
  have f2 := ho3.zf 2
  have f3 := ho3.zf 3
  have f4 := ho3.zf 4
  have hz3 : w.heap.size + 1 ≤ w3.heap.size := by rw [← hw3]; simp
  have H3 := Lib.hid (And.intro hb3 (And.intro ho3 hz3))
  have HL := Lib.hid hl
  clear hb3 ho3 hl hz3
  go_enter Tryz.func5, Tryz.ntmps5
  go_wp2
  clear z0 z1 z2 z3 z4 f0 f1 f2 f3 f4 hw3
  go_loopw [4, 5, 6, 7, 8, 9, 10, 11] (fun iv _ _ _ _ _ _ _ wr => ∃ (i : Nat) (s : PS), i ≤ len ∧ iv = .int .i64 (i : Int) ∧ Below w.heap.size w wr ∧ GoodS s ∧ JSt (w.heap.size + 1) wr w.heap.size s ∧ w.heap.size + 1 ≤ wr.heap.size) (fun iv _ _ _ _ _ _ _ _ => len - (intOf iv).toNat)
  case atStart =>
    refine ⟨0, s00, by omega, rfl, ?_, good00, ?_, ?_⟩
    · exact H3.out.1.trans (tn5.below H3.out.1.size (fun k hk => by omega))
    · exact jst_zero _ (cells5 (obZS H3.out.2.1))
    · exact Nat.le_trans H3.out.2.2 tn5.size
  case round =>
    obtain ⟨i, s, hi, rfl, hbr, hg, hjs, hsz⟩ := hrel
    obtain ⟨sfa, sfc, sla, slc, sna, snc, hs1, hs2, hs3, hs4, hn1, hn2, hn3⟩ := hjs
    have HS := Lib.hid (And.intro hbr (And.intro hg (And.intro hs1 (And.intro hs2 (And.intro hs3 hs4)))))
    by_cases hlt : i < len
    · obtain ⟨b, off, ed, e, rfl, hbl, hed, hwf, d0, d1, d2, d3, d4⟩ := ed_at HL.out hlt
      obtain ⟨eo, heo⟩ : ∃ m, off + i * 5 = m := ⟨_, rfl⟩
      have hec : EdC w b (off + i * 5) ed := ⟨d0, d1, d2, d3, d4⟩
      have hecr := hec.below hbr
      rw [heo] at hecr
      have hlv := light_any (hed.below hbr) hwf
      have z0 : (i : Int) < (len : Int) := by omega
      have z1 : (0 : Int) ≤ (i : Int) := by omega
      have d0 := hecr.c0
      have d1 := hecr.c1
      have d2 := hecr.c2
      have d3 := hecr.c3
      have d4 := hecr.c4
      have HE := Lib.hid (And.intro hecr (And.intro (hed.below hbr) (And.intro hwf hlv)))
      clear hec hecr hed hwf hlv hbr hg hs1 hs2 hs3 hs4
      go_upto_region 9 with (first
        | (go_at_call 14; refine HE.out.2.2.2.mono ?_; rintro r wv ⟨lb, rfl, hbv, hlb⟩; have HV := Lib.hid (And.intro hbv hlb); clear hbv hlb; cases lb)
        | (go_at_call 8; refine (malive_any _).mono ?_; rintro r w5 ⟨rfl, hb5⟩; have H5 := Lib.hid (HS.out.1.trans (((HV.out.1).mono (by omega)).trans (hb5.mono (by have := HV.out.1.size; omega)))); clear hb5))
      · go_ret
        exact ⟨rfl, H5.out⟩
      · have hlb := HV.out.2 (by first | rfl | trivial)
        unfold lightN at hlb
        obtain ⟨c, t, hct⟩ : ∃ c t, applyF s e = (c, t) := ⟨_, _, rfl⟩
        have hst : StV wr (.agg #[.slice sfa s.fs.length sfc, .int .i64 s.next, .int .i64 s.log, .slice sla s.fl.length slc, .slice sna s.ns.length snc]) s := ⟨_, _, _, rfl, HS.out.2.2.2.1.rda, HS.out.2.2.2.2.1.rda, HS.out.2.2.2.2.2.rda⟩
        have hap : ∀ y, Below wv.heap.size wv y → Calls Tryz.prog 15 #[(.agg #[.slice sfa s.fs.length sfc, .int .i64 s.next, .int .i64 s.log, .slice sla s.fl.length slc, .slice sna s.ns.length snc]), .agg #[ed.av, ed.rv, .int .i64 ed.lg, ed.lv, ed.nv]] y (AqAns t c y) := fun y hy => by
          have hw := HV.out.1.trans (hy.mono HV.out.1.size)
          have := apply_aq (hst.below hw) (HE.out.2.1.below hw) HS.out.2.1 (by omega) (by omega) (by omega) (by omega)
          rw [hct] at this
          exact this
        have HAP := Lib.hid hap
        have HS0 := Lib.hid (And.intro (HS.out.2.2.1.below HV.out.1) hct)
        have HE0 := Lib.hid (HE.out.1.below HV.out.1)
        clear hlb hst hap hct d0 d1 d2 d3 d4
        go_cut [5, 6] (fun y9 y10 wx => CmAns t c wv y9 y10 wx)
        case first => as_aux_lemma =>
          refine wp_region_K (fun w' => w'.cell? ⟨w.heap.size, 0, none⟩ = some (.slice sfa s.fs.length sfc) ∧ w'.cell? ⟨w.heap.size, 1, none⟩ = some (.int .i64 s.next) ∧ w'.cell? ⟨w.heap.size, 2, none⟩ = some (.int .i64 s.log) ∧ w'.cell? ⟨w.heap.size, 3, none⟩ = some (.slice sla s.fl.length slc) ∧ w'.cell? ⟨w.heap.size, 4, none⟩ = some (.slice sna s.ns.length snc) ∧ w'.cell? ⟨b, eo, none⟩ = some (ed.av) ∧ w'.cell? ⟨b, eo + 1, none⟩ = some (ed.rv) ∧ w'.cell? ⟨b, eo + 2, none⟩ = some (.int .i64 ed.lg) ∧ w'.cell? ⟨b, eo + 3, none⟩ = some (ed.lv) ∧ w'.cell? ⟨b, eo + 4, none⟩ = some (ed.nv)) 11 12 (by kernel_rfl) (by kernel_rfl) ⟨(HS0.out.1.below (Below.refl _ _).drew).z0, (HS0.out.1.below (Below.refl _ _).drew).z1, (HS0.out.1.below (Below.refl _ _).drew).z2, (HS0.out.1.below (Below.refl _ _).drew).z3, (HS0.out.1.below (Below.refl _ _).drew).z4, (HE0.out.below (Below.refl _ _).drew).and⟩ (fun hH => ?_)
          refine tkK (i := 0) [11] rfl hH ?_
          try simp only [Act.put, tkA, tkB, tkC]
          refine tkK (i := 1) [11] rfl hH ?_
          try simp only [Act.put, tkA, tkB, tkC]
          refine tkK (i := 2) [11] rfl hH ?_
          try simp only [Act.put, tkA, tkB, tkC]
          refine tkK (i := 3) [11] rfl hH ?_
          try simp only [Act.put, tkA, tkB, tkC]
          refine tkK (i := 4) [11] rfl hH ?_
          try simp only [Act.put, tkA, tkB, tkC]
          obtain ⟨wz, hwz⟩ : ∃ wz, wv.drew = wz := ⟨_, rfl⟩
          have hz0 : Below wv.heap.size wv wz := by rw [← hwz]; exact (Below.refl _ _).drew
          have hz1 : wz.heap.size = wv.heap.size := by rw [← hwz]; rfl
          rw [hwz] at hH ⊢
          have HZ0 := Lib.hid (And.intro hz0 hz1)
          clear hwz hz0 hz1
          refine wpAnyK_all (rs := [5, 9]) (by kernel_rfl) (by simp) (fun i hi => ?_)
          rcases List.mem_cons.1 hi with rfl | hi2
          · refine wpOp_K rfl (fun K hK => ?_) (by kernel_rfl)
            go_simp
            go_at_call 15
            refine (HAP.out _ HZ0.out.1).mono ?_
            rintro r w5 ⟨fa, fc, la, lc, na, nc, rfl, o1, o2, o3, hb⟩
            have HO := Lib.hid (And.intro o1 (And.intro o2 (And.intro o3 hb)))
            clear o1 o2 o3 hb
            refine hK.out _ _ ⟨(HS0.out.1.below (HZ0.out.1.trans (HO.out.2.2.2.mono HZ0.out.1.size))).z0, (HS0.out.1.below (HZ0.out.1.trans (HO.out.2.2.2.mono HZ0.out.1.size))).z1, (HS0.out.1.below (HZ0.out.1.trans (HO.out.2.2.2.mono HZ0.out.1.size))).z2, (HS0.out.1.below (HZ0.out.1.trans (HO.out.2.2.2.mono HZ0.out.1.size))).z3, (HS0.out.1.below (HZ0.out.1.trans (HO.out.2.2.2.mono HZ0.out.1.size))).z4, (HE0.out.below (HZ0.out.1.trans (HO.out.2.2.2.mono HZ0.out.1.size))).and⟩ (fun hH => ?_)
            clear hK K
            try simp only [Act.put, tkA, tkB, tkC]
            refine tkK (i := 6) [11] rfl hH ?_
            try simp only [Act.put, tkA, tkB, tkC]
            refine tkK (i := 7) [11] rfl hH ?_
            try simp only [Act.put, tkA, tkB, tkC]
            refine tkK (i := 8) [11] rfl hH ?_
            try simp only [Act.put, tkA, tkB, tkC]
            refine wpAnyK_one (i := 9) (by kernel_rfl) rfl (fun K hK => ?_) (by kernel_rfl)
            go_simp
            obtain ⟨ob, hob⟩ : ∃ k, w5.heap.size = k := ⟨_, rfl⟩
            rw [hob]
            obtain ⟨wb, hwb⟩ : ∃ wb, w5.alloc (.cells #[.slice none 0 0, .int .i64 0, .int .i64 0, .slice none 0 0, .slice none 0 0] 30) = wb := ⟨_, rfl⟩
            rw [hwb]
            have hbb : Below w5.heap.size w5 wb := by rw [← hwb]; exact (Below.refl _ _).alloc (Nat.le_refl _) _
            have hoz : ObZ wb ob := by rw [← hob, ← hwb]; exact ObZ.made _
            have HB := Lib.hid (And.intro hbb (And.intro hoz hob))
            clear hbb hoz hob hwb
            refine hK.out _ _ ⟨(HS0.out.1.below ((HZ0.out.1.trans (HO.out.2.2.2.mono HZ0.out.1.size)).trans (HB.out.1.mono (HZ0.out.1.trans (HO.out.2.2.2.mono HZ0.out.1.size)).size))).z0, (HS0.out.1.below ((HZ0.out.1.trans (HO.out.2.2.2.mono HZ0.out.1.size)).trans (HB.out.1.mono (HZ0.out.1.trans (HO.out.2.2.2.mono HZ0.out.1.size)).size))).z1, (HS0.out.1.below ((HZ0.out.1.trans (HO.out.2.2.2.mono HZ0.out.1.size)).trans (HB.out.1.mono (HZ0.out.1.trans (HO.out.2.2.2.mono HZ0.out.1.size)).size))).z2, (HS0.out.1.below ((HZ0.out.1.trans (HO.out.2.2.2.mono HZ0.out.1.size)).trans (HB.out.1.mono (HZ0.out.1.trans (HO.out.2.2.2.mono HZ0.out.1.size)).size))).z3, (HS0.out.1.below ((HZ0.out.1.trans (HO.out.2.2.2.mono HZ0.out.1.size)).trans (HB.out.1.mono (HZ0.out.1.trans (HO.out.2.2.2.mono HZ0.out.1.size)).size))).z4, (HE0.out.below ((HZ0.out.1.trans (HO.out.2.2.2.mono HZ0.out.1.size)).trans (HB.out.1.mono (HZ0.out.1.trans (HO.out.2.2.2.mono HZ0.out.1.size)).size))).and⟩ (fun hH => ?_)
            clear hK K
            try simp only [Act.put, tkA, tkB, tkC]
            have hoz : ObZ wb ob := HB.out.2.1
            have z0 := hoz.z0
            have z1 := hoz.z1
            have z2 := hoz.z2
            have z3 := hoz.z3
            have z4 := hoz.z4
            have f0 := hoz.zf 0
            have f1 := hoz.zf 1
            have f2 := hoz.zf 2
            have f3 := hoz.zf 3
            have f4 := hoz.zf 4
            have HQ := Lib.hid hoz
            clear hoz
            refine wpAnyK_one (i := 10) (by kernel_rfl) rfl (fun K hK => ?_) (by kernel_rfl)
            go_simp
            refine hK.out _ _ ⟨(HS0.out.1.below (((HZ0.out.1.trans (HO.out.2.2.2.mono HZ0.out.1.size)).trans (HB.out.1.mono (HZ0.out.1.trans (HO.out.2.2.2.mono HZ0.out.1.size)).size)).trans (tn5.below ((HZ0.out.1.trans (HO.out.2.2.2.mono HZ0.out.1.size)).trans (HB.out.1.mono (HZ0.out.1.trans (HO.out.2.2.2.mono HZ0.out.1.size)).size)).size (fun q hq => by rw [hq, ← HB.out.2.2]; exact (HZ0.out.1.trans (HO.out.2.2.2.mono HZ0.out.1.size)).size)))).z0, (HS0.out.1.below (((HZ0.out.1.trans (HO.out.2.2.2.mono HZ0.out.1.size)).trans (HB.out.1.mono (HZ0.out.1.trans (HO.out.2.2.2.mono HZ0.out.1.size)).size)).trans (tn5.below ((HZ0.out.1.trans (HO.out.2.2.2.mono HZ0.out.1.size)).trans (HB.out.1.mono (HZ0.out.1.trans (HO.out.2.2.2.mono HZ0.out.1.size)).size)).size (fun q hq => by rw [hq, ← HB.out.2.2]; exact (HZ0.out.1.trans (HO.out.2.2.2.mono HZ0.out.1.size)).size)))).z1, (HS0.out.1.below (((HZ0.out.1.trans (HO.out.2.2.2.mono HZ0.out.1.size)).trans (HB.out.1.mono (HZ0.out.1.trans (HO.out.2.2.2.mono HZ0.out.1.size)).size)).trans (tn5.below ((HZ0.out.1.trans (HO.out.2.2.2.mono HZ0.out.1.size)).trans (HB.out.1.mono (HZ0.out.1.trans (HO.out.2.2.2.mono HZ0.out.1.size)).size)).size (fun q hq => by rw [hq, ← HB.out.2.2]; exact (HZ0.out.1.trans (HO.out.2.2.2.mono HZ0.out.1.size)).size)))).z2, (HS0.out.1.below (((HZ0.out.1.trans (HO.out.2.2.2.mono HZ0.out.1.size)).trans (HB.out.1.mono (HZ0.out.1.trans (HO.out.2.2.2.mono HZ0.out.1.size)).size)).trans (tn5.below ((HZ0.out.1.trans (HO.out.2.2.2.mono HZ0.out.1.size)).trans (HB.out.1.mono (HZ0.out.1.trans (HO.out.2.2.2.mono HZ0.out.1.size)).size)).size (fun q hq => by rw [hq, ← HB.out.2.2]; exact (HZ0.out.1.trans (HO.out.2.2.2.mono HZ0.out.1.size)).size)))).z3, (HS0.out.1.below (((HZ0.out.1.trans (HO.out.2.2.2.mono HZ0.out.1.size)).trans (HB.out.1.mono (HZ0.out.1.trans (HO.out.2.2.2.mono HZ0.out.1.size)).size)).trans (tn5.below ((HZ0.out.1.trans (HO.out.2.2.2.mono HZ0.out.1.size)).trans (HB.out.1.mono (HZ0.out.1.trans (HO.out.2.2.2.mono HZ0.out.1.size)).size)).size (fun q hq => by rw [hq, ← HB.out.2.2]; exact (HZ0.out.1.trans (HO.out.2.2.2.mono HZ0.out.1.size)).size)))).z4, (HE0.out.below (((HZ0.out.1.trans (HO.out.2.2.2.mono HZ0.out.1.size)).trans (HB.out.1.mono (HZ0.out.1.trans (HO.out.2.2.2.mono HZ0.out.1.size)).size)).trans (tn5.below ((HZ0.out.1.trans (HO.out.2.2.2.mono HZ0.out.1.size)).trans (HB.out.1.mono (HZ0.out.1.trans (HO.out.2.2.2.mono HZ0.out.1.size)).size)).size (fun q hq => by rw [hq, ← HB.out.2.2]; exact (HZ0.out.1.trans (HO.out.2.2.2.mono HZ0.out.1.size)).size)))).and⟩ (fun hH => ?_)
            clear hK K
            try simp only [Act.put, tkA, tkB, tkC]
            refine wpAnyK_last (by kernel_rfl) rfl (fun K hK => ?_) (by kernel_rfl)
            go_simp
            refine hK.out _ _ (wpAnyK_done (by kernel_rfl) ?_ _)
            clear hK K hH
            go_wp2_with fail
            go_meet
            case rel => exact cm_done ((HZ0.out.1.trans (HO.out.2.2.2.mono HZ0.out.1.size)).trans (HB.out.1.mono (HZ0.out.1.trans (HO.out.2.2.2.mono HZ0.out.1.size)).size)) HQ.out (by rw [← HB.out.2.2]; exact (HZ0.out.1.trans (HO.out.2.2.2.mono HZ0.out.1.size)).size) (row_below HO.out.1 HB.out.1) (row_below HO.out.2.1 HB.out.1) (row_below HO.out.2.2.1 HB.out.1) HZ0.out.1.size (fun q hq => by have := (HO.out.1.lt q hq).2; have := HB.out.2.2; omega) (fun q hq => by have := (HO.out.2.1.lt q hq).2; have := HB.out.2.2; omega) (fun q hq => by have := (HO.out.2.2.1.lt q hq).2; have := HB.out.2.2; omega)
          · obtain rfl := List.mem_singleton.1 hi2
            refine wpOp_K rfl (fun K hK => ?_) (by kernel_rfl)
            go_simp
            obtain ⟨ob, hob⟩ : ∃ k, wz.heap.size = k := ⟨_, rfl⟩
            rw [hob]
            obtain ⟨wb, hwb⟩ : ∃ wb, wz.alloc (.cells #[.slice none 0 0, .int .i64 0, .int .i64 0, .slice none 0 0, .slice none 0 0] 30) = wb := ⟨_, rfl⟩
            rw [hwb]
            have hbb : Below wz.heap.size wz wb := by rw [← hwb]; exact (Below.refl _ _).alloc (Nat.le_refl _) _
            have hoz : ObZ wb ob := by rw [← hob, ← hwb]; exact ObZ.made _
            have HB := Lib.hid (And.intro hbb (And.intro hoz hob))
            clear hbb hoz hob hwb
            refine hK.out _ _ ⟨(HS0.out.1.below (HZ0.out.1.trans (HB.out.1.mono HZ0.out.1.size))).z0, (HS0.out.1.below (HZ0.out.1.trans (HB.out.1.mono HZ0.out.1.size))).z1, (HS0.out.1.below (HZ0.out.1.trans (HB.out.1.mono HZ0.out.1.size))).z2, (HS0.out.1.below (HZ0.out.1.trans (HB.out.1.mono HZ0.out.1.size))).z3, (HS0.out.1.below (HZ0.out.1.trans (HB.out.1.mono HZ0.out.1.size))).z4, (HE0.out.below (HZ0.out.1.trans (HB.out.1.mono HZ0.out.1.size))).and⟩ (fun hH => ?_)
            clear hK K
            try simp only [Act.put, tkA, tkB, tkC]
            refine wpAnyK_one (i := 5) (by kernel_rfl) rfl (fun K hK => ?_) (by kernel_rfl)
            go_simp
            go_at_call 15
            refine (HAP.out _ (HZ0.out.1.trans (HB.out.1.mono HZ0.out.1.size))).mono ?_
            rintro r w5 ⟨fa, fc, la, lc, na, nc, rfl, o1, o2, o3, hb⟩
            have HO := Lib.hid (And.intro o1 (And.intro o2 (And.intro o3 hb)))
            clear o1 o2 o3 hb
            refine hK.out _ _ ⟨(HS0.out.1.below ((HZ0.out.1.trans (HB.out.1.mono HZ0.out.1.size)).trans (HO.out.2.2.2.mono (HZ0.out.1.trans (HB.out.1.mono HZ0.out.1.size)).size))).z0, (HS0.out.1.below ((HZ0.out.1.trans (HB.out.1.mono HZ0.out.1.size)).trans (HO.out.2.2.2.mono (HZ0.out.1.trans (HB.out.1.mono HZ0.out.1.size)).size))).z1, (HS0.out.1.below ((HZ0.out.1.trans (HB.out.1.mono HZ0.out.1.size)).trans (HO.out.2.2.2.mono (HZ0.out.1.trans (HB.out.1.mono HZ0.out.1.size)).size))).z2, (HS0.out.1.below ((HZ0.out.1.trans (HB.out.1.mono HZ0.out.1.size)).trans (HO.out.2.2.2.mono (HZ0.out.1.trans (HB.out.1.mono HZ0.out.1.size)).size))).z3, (HS0.out.1.below ((HZ0.out.1.trans (HB.out.1.mono HZ0.out.1.size)).trans (HO.out.2.2.2.mono (HZ0.out.1.trans (HB.out.1.mono HZ0.out.1.size)).size))).z4, (HE0.out.below ((HZ0.out.1.trans (HB.out.1.mono HZ0.out.1.size)).trans (HO.out.2.2.2.mono (HZ0.out.1.trans (HB.out.1.mono HZ0.out.1.size)).size))).and⟩ (fun hH => ?_)
            clear hK K
            try simp only [Act.put, tkA, tkB, tkC]
            refine tkK (i := 6) [11] rfl hH ?_
            try simp only [Act.put, tkA, tkB, tkC]
            refine tkK (i := 7) [11] rfl hH ?_
            try simp only [Act.put, tkA, tkB, tkC]
            refine tkK (i := 8) [11] rfl hH ?_
            try simp only [Act.put, tkA, tkB, tkC]
            have hoz : ObZ w5 ob := HB.out.2.1.below HO.out.2.2.2
            have z0 := hoz.z0
            have z1 := hoz.z1
            have z2 := hoz.z2
            have z3 := hoz.z3
            have z4 := hoz.z4
            have f0 := hoz.zf 0
            have f1 := hoz.zf 1
            have f2 := hoz.zf 2
            have f3 := hoz.zf 3
            have f4 := hoz.zf 4
            have HQ := Lib.hid hoz
            clear hoz
            refine wpAnyK_one (i := 10) (by kernel_rfl) rfl (fun K hK => ?_) (by kernel_rfl)
            go_simp
            refine hK.out _ _ ⟨(HS0.out.1.below (((HZ0.out.1.trans (HB.out.1.mono HZ0.out.1.size)).trans (HO.out.2.2.2.mono (HZ0.out.1.trans (HB.out.1.mono HZ0.out.1.size)).size)).trans (tn5.below ((HZ0.out.1.trans (HB.out.1.mono HZ0.out.1.size)).trans (HO.out.2.2.2.mono (HZ0.out.1.trans (HB.out.1.mono HZ0.out.1.size)).size)).size (fun q hq => by rw [hq, ← HB.out.2.2]; exact HZ0.out.1.size)))).z0, (HS0.out.1.below (((HZ0.out.1.trans (HB.out.1.mono HZ0.out.1.size)).trans (HO.out.2.2.2.mono (HZ0.out.1.trans (HB.out.1.mono HZ0.out.1.size)).size)).trans (tn5.below ((HZ0.out.1.trans (HB.out.1.mono HZ0.out.1.size)).trans (HO.out.2.2.2.mono (HZ0.out.1.trans (HB.out.1.mono HZ0.out.1.size)).size)).size (fun q hq => by rw [hq, ← HB.out.2.2]; exact HZ0.out.1.size)))).z1, (HS0.out.1.below (((HZ0.out.1.trans (HB.out.1.mono HZ0.out.1.size)).trans (HO.out.2.2.2.mono (HZ0.out.1.trans (HB.out.1.mono HZ0.out.1.size)).size)).trans (tn5.below ((HZ0.out.1.trans (HB.out.1.mono HZ0.out.1.size)).trans (HO.out.2.2.2.mono (HZ0.out.1.trans (HB.out.1.mono HZ0.out.1.size)).size)).size (fun q hq => by rw [hq, ← HB.out.2.2]; exact HZ0.out.1.size)))).z2, (HS0.out.1.below (((HZ0.out.1.trans (HB.out.1.mono HZ0.out.1.size)).trans (HO.out.2.2.2.mono (HZ0.out.1.trans (HB.out.1.mono HZ0.out.1.size)).size)).trans (tn5.below ((HZ0.out.1.trans (HB.out.1.mono HZ0.out.1.size)).trans (HO.out.2.2.2.mono (HZ0.out.1.trans (HB.out.1.mono HZ0.out.1.size)).size)).size (fun q hq => by rw [hq, ← HB.out.2.2]; exact HZ0.out.1.size)))).z3, (HS0.out.1.below (((HZ0.out.1.trans (HB.out.1.mono HZ0.out.1.size)).trans (HO.out.2.2.2.mono (HZ0.out.1.trans (HB.out.1.mono HZ0.out.1.size)).size)).trans (tn5.below ((HZ0.out.1.trans (HB.out.1.mono HZ0.out.1.size)).trans (HO.out.2.2.2.mono (HZ0.out.1.trans (HB.out.1.mono HZ0.out.1.size)).size)).size (fun q hq => by rw [hq, ← HB.out.2.2]; exact HZ0.out.1.size)))).z4, (HE0.out.below (((HZ0.out.1.trans (HB.out.1.mono HZ0.out.1.size)).trans (HO.out.2.2.2.mono (HZ0.out.1.trans (HB.out.1.mono HZ0.out.1.size)).size)).trans (tn5.below ((HZ0.out.1.trans (HB.out.1.mono HZ0.out.1.size)).trans (HO.out.2.2.2.mono (HZ0.out.1.trans (HB.out.1.mono HZ0.out.1.size)).size)).size (fun q hq => by rw [hq, ← HB.out.2.2]; exact HZ0.out.1.size)))).and⟩ (fun hH => ?_)
            clear hK K
            try simp only [Act.put, tkA, tkB, tkC]
            refine wpAnyK_last (by kernel_rfl) rfl (fun K hK => ?_) (by kernel_rfl)
            go_simp
            refine hK.out _ _ (wpAnyK_done (by kernel_rfl) ?_ _)
            clear hK K hH
            go_wp2_with fail
            go_meet
            case rel => exact cm_done ((HZ0.out.1.trans (HB.out.1.mono HZ0.out.1.size)).trans (HO.out.2.2.2.mono (HZ0.out.1.trans (HB.out.1.mono HZ0.out.1.size)).size)) HQ.out (by rw [← HB.out.2.2]; exact HZ0.out.1.size) HO.out.1 HO.out.2.1 HO.out.2.2.1 (HZ0.out.1.trans (HB.out.1.mono HZ0.out.1.size)).size (fun q hq => by have := (HO.out.1.lt q hq).1; have := HB.out.2.1.lt; omega) (fun q hq => by have := (HO.out.2.1.lt q hq).1; have := HB.out.2.1.lt; omega) (fun q hq => by have := (HO.out.2.2.1.lt q hq).1; have := HB.out.2.1.lt; omega)
        case rest =>
          obtain ⟨ob, rfl, rfl, hob, hj, hbx⟩ := jst_cm hcut
          have hbw : Below wr.heap.size wr wc := HV.out.1.trans (hbx.mono HV.out.1.size)
          have HBW := Lib.hid (And.intro hbw hob)
          have hvs := HV.out.1.size
          clear hbw hcut hob hbx
          obtain ⟨tfa, tfc, tla, tlc, tna, tnc, ho, o1, o2, o3, _⟩ := hj
          have hos := HS.out.2.2.1.below HBW.out.1
          by_cases hc : c = 0
          · subst hc
            obtain ⟨hgt, hnx, hlg, hfl⟩ := good_apply HS.out.2.1 HS0.out.2
            have HT := Lib.hid (And.intro hgt (And.intro ho (And.intro hos (And.intro o1 (And.intro o2 o3)))))
            have k1 : ¬ t.next < s.next := by omega
            have k2 : ¬ t.next < 1 := by omega
            have k3 : ¬ t.log < s.log := by omega
            have hsl : s.fl.length ≤ 1000000 := by
              rcases HS.out.2.1.fl with h9 | h9
              · rw [h9]; simp
              · unfold vecB at h9; simp only [Bool.and_eq_true, decide_eq_true_eq] at h9; omega
            have htl : t.fl.length ≤ 1000000 := by
              rcases hgt.fl with h9 | h9
              · rw [h9]; simp
              · unfold vecB at h9; simp only [Bool.and_eq_true, decide_eq_true_eq] at h9; omega
            have hlq := mleq_any (HS.out.2.2.2.2.1.rda.below HBW.out.1) o2.rda hsl htl
            have HLQ := Lib.hid (And.intro hlq hfl)
            have x0 := ho.z0
            have x1 := ho.z1
            have x2 := ho.z2
            have x3 := ho.z3
            have x4 := ho.z4
            have y0 := hos.z0
            have y1 := hos.z1
            have y2 := hos.z2
            have y3 := hos.z3
            have y4 := hos.z4
            clear o1 o2 o3 hgt hos ho hlq hfl hnx hlg
            by_cases hpos : 0 < s.fl.length
            · have p0 : (0 : Int) < (s.fl.length : Int) := by omega
              go_upto_region 15 with (go_at_call 16; refine HLQ.out.1.mono ?_; rintro r w9 ⟨lqb, rfl, hiff, hw9⟩; rw [hw9]; clear hw9; obtain rfl : lqb = true := hiff.2 (HLQ.out.2.resolve_left (fun e => by rw [e] at hpos; simp at hpos)); clear hiff)
              as_aux_lemma =>
                clear x0 x1 x2 x3 x4 y0 y1 y2 y3 y4 p0
                have hfw : t.fs.length ≤ 500 := HT.out.1.few
                have hnw : t.ns.length ≤ 50 := HT.out.1.nfew.1
                go_wp2
                go_loopw [7, 8, 9, 10] (fun kv _ _ _ wr => ∃ k : Nat, k ≤ t.fs.length ∧ kv = .int .i64 (k : Int) ∧ Below wc.heap.size wc wr) (fun kv _ _ _ _ => t.fs.length - (intOf kv).toNat)
                case atStart => exact ⟨0, by omega, rfl, Below.refl _ _⟩
                case round =>
                  obtain ⟨k, hk, rfl, hbk⟩ := hrel
                  have HK := Lib.hid hbk
                  have hok := HT.out.2.1.below hbk
                  have x0 := hok.z0
                  have x1 := hok.z1
                  have x4 := hok.z4
                  have hfr := HT.out.2.2.2.1.rda.below hbk
                  clear hbk
                  by_cases hlk : k < t.fs.length
                  · obtain ⟨fb, foff, hfa, hfl, c0, c1, c2, c3, c4, c5⟩ := rdf_cells hfr hlk
                    subst hfa
                    have hval := HT.out.1.val _ (List.getElem_mem hlk)
                    have hnl := HT.out.1.lt _ (List.getElem_mem hlk)
                    obtain ⟨u, hu⟩ : ∃ u, t.fs[k] = u := ⟨_, rfl⟩
                    rw [hu] at c0 c1 c2 c3 c4 c5 hval hnl
                    obtain ⟨wa, hwa⟩ : ∃ wa, wr.alloc (.cells #[.int .i64 u.lv, .int .i64 u.nu, .int .i64 u.ct, .int .i64 u.sz, .string u.f, .string u.l] 54) = wa := ⟨_, rfl⟩
                    obtain ⟨hfa1, hba⟩ := fi_made hwa
                    obtain ⟨ua, hua⟩ : ∃ m, wr.heap.size = m := ⟨_, rfl⟩
                    rw [hua] at hfa1
                    have ho1 := hok.below hba
                    have HA := Lib.hid (And.intro hfa1 (And.intro (HK.out.trans (hba.mono HK.out.size)) (And.intro (mvalid_any u wa) hval)))
                    have n1 : ¬ t.next ≤ u.nu := by omega
                    have kl : (k : Int) < (t.fs.length : Int) := by omega
                    have kz : (0 : Int) ≤ (k : Int) := by omega
                    have x1' := ho1.z1
                    have q0 := hfa1.c0
                    have q1 := hfa1.c1
                    have q2 := hfa1.c2
                    have q3 := hfa1.c3
                    have q4 := hfa1.c4
                    have q5 := hfa1.c5
                    have HU := Lib.hid hu
                    clear hfa1 hba ho1 hval hnl hu hok hfr hfl
                    go_wp2_with (go_at_call 17; refine HA.out.2.2.1.mono ?_; rw [HA.out.2.2.2]; rintro r wb ⟨rfl, hbb⟩; have HB := Lib.hid (And.intro (HA.out.1.below hbb) (HA.out.2.1.trans (hbb.mono HA.out.2.1.size))); clear hbb)
                    clear x0 x1 x4 x1' q0 q1 q2 q3 q4 q5 c0 c1 c2 c3 c4 c5 hwa
                    go_loopw [9, 10] (fun jv _ wr => ∃ j : Nat, j ≤ k ∧ jv = .int .i64 (j : Int) ∧ Below wc.heap.size wc wr ∧ FiB wr ua u) (fun jv _ _ => k - (intOf jv).toNat)
                    case atStart => exact ⟨0, by omega, rfl, HB.out.2, HB.out.1⟩
                    case round => as_aux_lemma =>
                      obtain ⟨j, hj, rfl, hbj, hfu⟩ := hrel
                      have HJ := Lib.hid (And.intro hbj hfu)
                      have hoj := HT.out.2.1.below hbj
                      have x0 := hoj.z0
                      have hfr := HT.out.2.2.2.1.rda.below hbj
                      clear hbj hfu
                      by_cases hlj : j < k
                      · have hjl : j < t.fs.length := by omega
                        obtain ⟨fb2, foff2, hfa2, hfl2, c0, c1, c2, c3, c4, c5⟩ := rdf_cells hfr hjl
                        injection hfa2 with hfa2
                        injection hfa2 with e1 e2
                        subst e1 e2
                        have hgp := good_pair HT.out.1 hlj hlk
                        have hvj := (valid_all (HT.out.1.val _ (List.getElem_mem hjl))).1
                        rw [HU.out] at hgp
                        obtain ⟨v, hv⟩ : ∃ v, t.fs[j] = v := ⟨_, rfl⟩
                        rw [hv] at c0 c1 c2 c3 c4 c5 hgp hvj
                        obtain ⟨g1, g2, g3, g4⟩ := hgp
                        obtain ⟨wm, hwm⟩ : ∃ wm, wr.alloc (.cells #[.int .i64 v.lv, .int .i64 v.nu, .int .i64 v.ct, .int .i64 v.sz, .string v.f, .string v.l] 54) = wm := ⟨_, rfl⟩
                        obtain ⟨hfm, hbm⟩ := fi_made hwm
                        obtain ⟨um, hum⟩ : ∃ m, wr.heap.size = m := ⟨_, rfl⟩
                        rw [hum] at hfm
                        have hfu := HJ.out.2.below hbm
                        have HM := Lib.hid (And.intro hfu (HJ.out.1.trans (hbm.mono HJ.out.1.size)))
                        have jl : (j : Int) < (k : Int) := by omega
                        have jl2 : (j : Int) < (t.fs.length : Int) := by omega
                        have jz : (0 : Int) ≤ (j : Int) := by omega
                        have r0 := hfu.c0
                        have r1 := hfu.c1
                        have r4 := hfu.c4
                        have m0 := hfm.c0
                        have m1 := hfm.c1
                        have m5 := hfm.c5
                        have e1 : (u.nu == v.nu) = false := beq_eq_false_iff_ne.2 g1
                        have e2 : ¬ u.lv < v.lv := g2
                        clear hbm hfm hfu hfr hoj hv hfl2 g1 g2
                        have hcase : (u.lv ≠ v.lv ∧ u.lv ≠ 0) ∨ (u.lv = v.lv ∧ 0 < u.lv) ∨ (u.lv = v.lv ∧ u.lv = 0) := by omega
                        rcases hcase with ⟨s1, s2⟩ | ⟨s1, s2⟩ | ⟨s1, s2⟩
                        · have e3 : (u.lv == v.lv) = false := beq_eq_false_iff_ne.2 s1
                          have e4 : (u.lv == 0) = false := beq_eq_false_iff_ne.2 s2
                          clear s1 s2 g3 g4 hvj
                          go_wp2
                          go_roundw
                          case rel => exact ⟨j + 1, by omega, by go_num, HM.out.2, HM.out.1⟩
                          case measure => simp [intOf]; omega
                        · have hk9 : ¬ kc u.f v.l ≤ 0 := fun h9 => g3 ⟨s1, s2, h9⟩
                          have e3 : (u.lv == v.lv) = true := beq_iff_eq.2 s1
                          have e4 : (u.lv == 0) = false := beq_eq_false_iff_ne.2 (by omega)
                          have e5 : Op.bytesLess u.f.toList v.l.toList = false := by rw [less_kc]; exact decide_eq_false (by omega)
                          have e6 : (u.f.toList == v.l.toList) = false := strNo (fun h9 => hk9 (by rw [h9, kc_self]; exact Int.le_refl _))
                          have e7 : (0 : Int) < u.lv := s2
                          clear s1 s2 g3 g4 hvj hk9
                          go_wp2
                          go_roundw
                          case rel => exact ⟨j + 1, by omega, by go_num, HM.out.2, HM.out.1⟩
                          case measure => simp [intOf]; omega
                        · have e8 : ¬ u.nu < v.nu := fun h9 => g4 ⟨s2, h9⟩
                          have e3 : (u.lv == v.lv) = true := beq_iff_eq.2 s1
                          have e4 : (u.lv == 0) = true := beq_iff_eq.2 s2
                          have e7 : ¬ (0 : Int) < u.lv := by omega
                          clear s1 s2 g3 g4 hvj
                          go_wp2
                          go_roundw
                          case rel => exact ⟨j + 1, by omega, by go_num, HM.out.2, HM.out.1⟩
                          case measure => simp [intOf]; omega
                      · have jl : ¬ (j : Int) < (k : Int) := by omega
                        clear hfr hoj x0
                        go_wp2
                        go_roundw
                        case rel => exact ⟨k + 1, by omega, by go_num, HJ.out.1⟩
                        case measure => simp [intOf]; omega
                  · have kl : ¬ (k : Int) < (t.fs.length : Int) := by omega
                    clear hfr hok
                    go_wp2
                    clear x0 x1 x4
                    go_loopw [11] (fun kv wr => ∃ m : Nat, (m = 0 ∨ m + 1 ≤ t.ns.length) ∧ kv = .int .i64 ((m : Int) + 1) ∧ Below wc.heap.size wc wr) (fun kv _ => t.ns.length + 1 - (intOf kv).toNat)
                    case atStart => exact ⟨0, .inl rfl, rfl, HK.out⟩
                    case round => as_aux_lemma =>
                      obtain ⟨m, hm, rfl, hbn⟩ := hrel
                      have HN := Lib.hid hbn
                      have hon := HT.out.2.1.below hbn
                      have x4 := hon.z4
                      have hnr := HT.out.2.2.2.2.2.rda.below hbn
                      clear hbn
                      by_cases hlm : m + 1 < t.ns.length
                      · have hgn := grow_notes HT.out.1 (k := m + 1) (by omega) hlm
                        obtain ⟨nb, noff, hna, hnl, c0, c1⟩ := rdn_cells hnr (show m < t.ns.length by omega)
                        obtain ⟨nb2, noff2, hna2, hnl2, d0, d1⟩ := rdn_cells hnr hlm
                        subst hna
                        injection hna2 with hna2
                        injection hna2 with e1 e2
                        subst e1 e2
                        simp only [Nat.add_sub_cancel] at hgn
                        obtain ⟨u, hu⟩ : ∃ u, t.ns[m] = u := ⟨_, rfl⟩
                        obtain ⟨v, hv⟩ : ∃ v, t.ns[m + 1] = v := ⟨_, rfl⟩
                        rw [hu] at c0 c1 hgn
                        rw [hv] at d0 d1 hgn
                        obtain ⟨u1, u2⟩ := u
                        obtain ⟨v1, v2⟩ := v
                        simp only at c0 c1 d0 d1 hgn
                        have e5 : Op.bytesLess u1.toList v1.toList = true := by rw [less_kc]; exact decide_eq_true hgn.1
                        have e6 := emp_no hgn.2
                        have ml : (m : Int) + 1 < (t.ns.length : Int) := by omega
                        have ml2 : (m : Int) < (t.ns.length : Int) := by omega
                        have mz : (0 : Int) ≤ (m : Int) := by omega
                        clear hgn hu hv hnl hnl2 hnr hon c1
                        go_wp2
                        go_quiet (fail)
                        go_wp2
                        go_roundw
                        case rel => exact ⟨m + 1, .inr (by omega), by go_num, below_drewN9 HN.out _⟩
                        case measure => simp [intOf]; omega
                      · have ml : ¬ (m : Int) + 1 < (t.ns.length : Int) := by omega
                        have hos := HT.out.2.2.1.below HN.out
                        have x0 := hon.z0
                        have x1 := hon.z1
                        have x2 := hon.z2
                        have x3 := hon.z3
                        have y0 := hos.z0
                        have y1 := hos.z1
                        have y2 := hos.z2
                        have y3 := hos.z3
                        have y4 := hos.z4
                        have g0 := hos.zf 0
                        have g1 := hos.zf 1
                        have g2 := hos.zf 2
                        have g3 := hos.zf 3
                        have g4 := hos.zf 4
                        have HO := Lib.hid hos
                        clear hnr hon hos
                        go_wp2
                        go_roundw
                        case rel =>
                          have hbt := HS.out.1.trans ((HBW.out.1.trans (HN.out.mono HBW.out.1.size)).mono HS.out.1.size)
                          refine ⟨i + 1, t, by omega, by go_num, hbt.trans (tn5.below hbt.size (fun k hk => by omega)), HT.out.1, ?_, ?_⟩
                          · exact (jst_copy HO.out (row_below HT.out.2.2.2.1 HN.out) (row_below HT.out.2.2.2.2.1 HN.out) (row_below HT.out.2.2.2.2.2 HN.out) (by omega)).mono (by omega)
                          · exact Nat.le_trans (by have := HBW.out.1.size; have := HN.out.size; omega) tn5.size
                        case measure => simp [intOf]; omega
            · have p0 : ¬ (0 : Int) < (s.fl.length : Int) := by omega
              go_upto_region 15 with fail
              as_aux_lemma =>
                clear x0 x1 x2 x3 x4 y0 y1 y2 y3 y4 p0
                have hfw : t.fs.length ≤ 500 := HT.out.1.few
                have hnw : t.ns.length ≤ 50 := HT.out.1.nfew.1
                go_wp2
                go_loopw [7, 8, 9, 10] (fun kv _ _ _ wr => ∃ k : Nat, k ≤ t.fs.length ∧ kv = .int .i64 (k : Int) ∧ Below wc.heap.size wc wr) (fun kv _ _ _ _ => t.fs.length - (intOf kv).toNat)
                case atStart => exact ⟨0, by omega, rfl, Below.refl _ _⟩
                case round =>
                  obtain ⟨k, hk, rfl, hbk⟩ := hrel
                  have HK := Lib.hid hbk
                  have hok := HT.out.2.1.below hbk
                  have x0 := hok.z0
                  have x1 := hok.z1
                  have x4 := hok.z4
                  have hfr := HT.out.2.2.2.1.rda.below hbk
                  clear hbk
                  by_cases hlk : k < t.fs.length
                  · obtain ⟨fb, foff, hfa, hfl, c0, c1, c2, c3, c4, c5⟩ := rdf_cells hfr hlk
                    subst hfa
                    have hval := HT.out.1.val _ (List.getElem_mem hlk)
                    have hnl := HT.out.1.lt _ (List.getElem_mem hlk)
                    obtain ⟨u, hu⟩ : ∃ u, t.fs[k] = u := ⟨_, rfl⟩
                    rw [hu] at c0 c1 c2 c3 c4 c5 hval hnl
                    obtain ⟨wa, hwa⟩ : ∃ wa, wr.alloc (.cells #[.int .i64 u.lv, .int .i64 u.nu, .int .i64 u.ct, .int .i64 u.sz, .string u.f, .string u.l] 54) = wa := ⟨_, rfl⟩
                    obtain ⟨hfa1, hba⟩ := fi_made hwa
                    obtain ⟨ua, hua⟩ : ∃ m, wr.heap.size = m := ⟨_, rfl⟩
                    rw [hua] at hfa1
                    have ho1 := hok.below hba
                    have HA := Lib.hid (And.intro hfa1 (And.intro (HK.out.trans (hba.mono HK.out.size)) (And.intro (mvalid_any u wa) hval)))
                    have n1 : ¬ t.next ≤ u.nu := by omega
                    have kl : (k : Int) < (t.fs.length : Int) := by omega
                    have kz : (0 : Int) ≤ (k : Int) := by omega
                    have x1' := ho1.z1
                    have q0 := hfa1.c0
                    have q1 := hfa1.c1
                    have q2 := hfa1.c2
                    have q3 := hfa1.c3
                    have q4 := hfa1.c4
                    have q5 := hfa1.c5
                    have HU := Lib.hid hu
                    clear hfa1 hba ho1 hval hnl hu hok hfr hfl
                    go_wp2_with (go_at_call 17; refine HA.out.2.2.1.mono ?_; rw [HA.out.2.2.2]; rintro r wb ⟨rfl, hbb⟩; have HB := Lib.hid (And.intro (HA.out.1.below hbb) (HA.out.2.1.trans (hbb.mono HA.out.2.1.size))); clear hbb)
                    clear x0 x1 x4 x1' q0 q1 q2 q3 q4 q5 c0 c1 c2 c3 c4 c5 hwa
                    go_loopw [9, 10] (fun jv _ wr => ∃ j : Nat, j ≤ k ∧ jv = .int .i64 (j : Int) ∧ Below wc.heap.size wc wr ∧ FiB wr ua u) (fun jv _ _ => k - (intOf jv).toNat)
                    case atStart => exact ⟨0, by omega, rfl, HB.out.2, HB.out.1⟩
                    case round => as_aux_lemma =>
                      obtain ⟨j, hj, rfl, hbj, hfu⟩ := hrel
                      have HJ := Lib.hid (And.intro hbj hfu)
                      have hoj := HT.out.2.1.below hbj
                      have x0 := hoj.z0
                      have hfr := HT.out.2.2.2.1.rda.below hbj
                      clear hbj hfu
                      by_cases hlj : j < k
                      · have hjl : j < t.fs.length := by omega
                        obtain ⟨fb2, foff2, hfa2, hfl2, c0, c1, c2, c3, c4, c5⟩ := rdf_cells hfr hjl
                        injection hfa2 with hfa2
                        injection hfa2 with e1 e2
                        subst e1 e2
                        have hgp := good_pair HT.out.1 hlj hlk
                        have hvj := (valid_all (HT.out.1.val _ (List.getElem_mem hjl))).1
                        rw [HU.out] at hgp
                        obtain ⟨v, hv⟩ : ∃ v, t.fs[j] = v := ⟨_, rfl⟩
                        rw [hv] at c0 c1 c2 c3 c4 c5 hgp hvj
                        obtain ⟨g1, g2, g3, g4⟩ := hgp
                        obtain ⟨wm, hwm⟩ : ∃ wm, wr.alloc (.cells #[.int .i64 v.lv, .int .i64 v.nu, .int .i64 v.ct, .int .i64 v.sz, .string v.f, .string v.l] 54) = wm := ⟨_, rfl⟩
                        obtain ⟨hfm, hbm⟩ := fi_made hwm
                        obtain ⟨um, hum⟩ : ∃ m, wr.heap.size = m := ⟨_, rfl⟩
                        rw [hum] at hfm
                        have hfu := HJ.out.2.below hbm
                        have HM := Lib.hid (And.intro hfu (HJ.out.1.trans (hbm.mono HJ.out.1.size)))
                        have jl : (j : Int) < (k : Int) := by omega
                        have jl2 : (j : Int) < (t.fs.length : Int) := by omega
                        have jz : (0 : Int) ≤ (j : Int) := by omega
                        have r0 := hfu.c0
                        have r1 := hfu.c1
                        have r4 := hfu.c4
                        have m0 := hfm.c0
                        have m1 := hfm.c1
                        have m5 := hfm.c5
                        have e1 : (u.nu == v.nu) = false := beq_eq_false_iff_ne.2 g1
                        have e2 : ¬ u.lv < v.lv := g2
                        clear hbm hfm hfu hfr hoj hv hfl2 g1 g2
                        have hcase : (u.lv ≠ v.lv ∧ u.lv ≠ 0) ∨ (u.lv = v.lv ∧ 0 < u.lv) ∨ (u.lv = v.lv ∧ u.lv = 0) := by omega
                        rcases hcase with ⟨s1, s2⟩ | ⟨s1, s2⟩ | ⟨s1, s2⟩
                        · have e3 : (u.lv == v.lv) = false := beq_eq_false_iff_ne.2 s1
                          have e4 : (u.lv == 0) = false := beq_eq_false_iff_ne.2 s2
                          clear s1 s2 g3 g4 hvj
                          go_wp2
                          go_roundw
                          case rel => exact ⟨j + 1, by omega, by go_num, HM.out.2, HM.out.1⟩
                          case measure => simp [intOf]; omega
                        · have hk9 : ¬ kc u.f v.l ≤ 0 := fun h9 => g3 ⟨s1, s2, h9⟩
                          have e3 : (u.lv == v.lv) = true := beq_iff_eq.2 s1
                          have e4 : (u.lv == 0) = false := beq_eq_false_iff_ne.2 (by omega)
                          have e5 : Op.bytesLess u.f.toList v.l.toList = false := by rw [less_kc]; exact decide_eq_false (by omega)
                          have e6 : (u.f.toList == v.l.toList) = false := strNo (fun h9 => hk9 (by rw [h9, kc_self]; exact Int.le_refl _))
                          have e7 : (0 : Int) < u.lv := s2
                          clear s1 s2 g3 g4 hvj hk9
                          go_wp2
                          go_roundw
                          case rel => exact ⟨j + 1, by omega, by go_num, HM.out.2, HM.out.1⟩
                          case measure => simp [intOf]; omega
                        · have e8 : ¬ u.nu < v.nu := fun h9 => g4 ⟨s2, h9⟩
                          have e3 : (u.lv == v.lv) = true := beq_iff_eq.2 s1
                          have e4 : (u.lv == 0) = true := beq_iff_eq.2 s2
                          have e7 : ¬ (0 : Int) < u.lv := by omega
                          clear s1 s2 g3 g4 hvj
                          go_wp2
                          go_roundw
                          case rel => exact ⟨j + 1, by omega, by go_num, HM.out.2, HM.out.1⟩
                          case measure => simp [intOf]; omega
                      · have jl : ¬ (j : Int) < (k : Int) := by omega
                        clear hfr hoj x0
                        go_wp2
                        go_roundw
                        case rel => exact ⟨k + 1, by omega, by go_num, HJ.out.1⟩
                        case measure => simp [intOf]; omega
                  · have kl : ¬ (k : Int) < (t.fs.length : Int) := by omega
                    clear hfr hok
                    go_wp2
                    clear x0 x1 x4
                    go_loopw [11] (fun kv wr => ∃ m : Nat, (m = 0 ∨ m + 1 ≤ t.ns.length) ∧ kv = .int .i64 ((m : Int) + 1) ∧ Below wc.heap.size wc wr) (fun kv _ => t.ns.length + 1 - (intOf kv).toNat)
                    case atStart => exact ⟨0, .inl rfl, rfl, HK.out⟩
                    case round => as_aux_lemma =>
                      obtain ⟨m, hm, rfl, hbn⟩ := hrel
                      have HN := Lib.hid hbn
                      have hon := HT.out.2.1.below hbn
                      have x4 := hon.z4
                      have hnr := HT.out.2.2.2.2.2.rda.below hbn
                      clear hbn
                      by_cases hlm : m + 1 < t.ns.length
                      · have hgn := grow_notes HT.out.1 (k := m + 1) (by omega) hlm
                        obtain ⟨nb, noff, hna, hnl, c0, c1⟩ := rdn_cells hnr (show m < t.ns.length by omega)
                        obtain ⟨nb2, noff2, hna2, hnl2, d0, d1⟩ := rdn_cells hnr hlm
                        subst hna
                        injection hna2 with hna2
                        injection hna2 with e1 e2
                        subst e1 e2
                        simp only [Nat.add_sub_cancel] at hgn
                        obtain ⟨u, hu⟩ : ∃ u, t.ns[m] = u := ⟨_, rfl⟩
                        obtain ⟨v, hv⟩ : ∃ v, t.ns[m + 1] = v := ⟨_, rfl⟩
                        rw [hu] at c0 c1 hgn
                        rw [hv] at d0 d1 hgn
                        obtain ⟨u1, u2⟩ := u
                        obtain ⟨v1, v2⟩ := v
                        simp only at c0 c1 d0 d1 hgn
                        have e5 : Op.bytesLess u1.toList v1.toList = true := by rw [less_kc]; exact decide_eq_true hgn.1
                        have e6 := emp_no hgn.2
                        have ml : (m : Int) + 1 < (t.ns.length : Int) := by omega
                        have ml2 : (m : Int) < (t.ns.length : Int) := by omega
                        have mz : (0 : Int) ≤ (m : Int) := by omega
                        clear hgn hu hv hnl hnl2 hnr hon c1
                        go_wp2
                        go_quiet (fail)
                        go_wp2
                        go_roundw
                        case rel => exact ⟨m + 1, .inr (by omega), by go_num, below_drewN9 HN.out _⟩
                        case measure => simp [intOf]; omega
                      · have ml : ¬ (m : Int) + 1 < (t.ns.length : Int) := by omega
                        have hos := HT.out.2.2.1.below HN.out
                        have x0 := hon.z0
                        have x1 := hon.z1
                        have x2 := hon.z2
                        have x3 := hon.z3
                        have y0 := hos.z0
                        have y1 := hos.z1
                        have y2 := hos.z2
                        have y3 := hos.z3
                        have y4 := hos.z4
                        have g0 := hos.zf 0
                        have g1 := hos.zf 1
                        have g2 := hos.zf 2
                        have g3 := hos.zf 3
                        have g4 := hos.zf 4
                        have HO := Lib.hid hos
                        clear hnr hon hos
                        go_wp2
                        go_roundw
                        case rel =>
                          have hbt := HS.out.1.trans ((HBW.out.1.trans (HN.out.mono HBW.out.1.size)).mono HS.out.1.size)
                          refine ⟨i + 1, t, by omega, by go_num, hbt.trans (tn5.below hbt.size (fun k hk => by omega)), HT.out.1, ?_, ?_⟩
                          · exact (jst_copy HO.out (row_below HT.out.2.2.2.1 HN.out) (row_below HT.out.2.2.2.2.1 HN.out) (row_below HT.out.2.2.2.2.2 HN.out) (by omega)).mono (by omega)
                          · exact Nat.le_trans (by have := HBW.out.1.size; have := HN.out.size; omega) tn5.size
                        case measure => simp [intOf]; omega
          · have ht0 : t = s00 := by
              rcases gapply_zero_or (s := s) (e := e) with h9 | ⟨_, h9⟩
              · rw [HS0.out.2] at h9; exact absurd h9 hc
              · rw [HS0.out.2] at h9; exact h9
            subst ht0
            have e0 : (c != 0) = true := bne_iff_ne.2 hc
            have x0 : wc.cell? ⟨ob, 0, none⟩ = some (.slice tfa 0 tfc) := ho.z0
            have x1 : wc.cell? ⟨ob, 1, none⟩ = some (.int .i64 0) := ho.z1
            have x3 : wc.cell? ⟨ob, 3, none⟩ = some (.slice tla 0 tlc) := ho.z3
            have x4 : wc.cell? ⟨ob, 4, none⟩ = some (.slice tna 0 tnc) := ho.z4
            clear ho o1 o2 o3 hos
            go_wp2
            go_roundw
            case rel => exact ⟨i + 1, s, by omega, by go_num, HS.out.1.trans (HBW.out.1.mono HS.out.1.size), HS.out.2.1, ⟨_, _, _, _, _, _, HS.out.2.2.1.below HBW.out.1, row_below HS.out.2.2.2.1 HBW.out.1, row_below HS.out.2.2.2.2.1 HBW.out.1, row_below HS.out.2.2.2.2.2 HBW.out.1, hn1, hn2, hn3⟩, by have := HBW.out.1.size; omega⟩
            case measure => simp [intOf]; omega
    · have hix : i = len := by omega
      have z0 : ¬ (i : Int) < (len : Int) := by omega
      clear hs1 hs2 hs3 hs4 hg
      go_wp2_with (go_at_call 8; refine (malive_any _).mono ?_; rintro r w5 ⟨rfl, hb5⟩; have H5 := Lib.hid (HS.out.1.trans (hb5.mono HS.out.1.size)); clear hb5)
      go_ret
      exact ⟨rfl, H5.out⟩
end Go.Proofs.YtjebpppjhkkebaaGreatDoor

