import Derived.Test.YtjebpppjhkkebaaGreatDoorM24
/-
  Wal: the walk of Append.
-/
set_option linter.unusedSimpArgs false
set_option linter.unusedVariables false
namespace Go.Proofs.YtjebpppjhkkebaaGreatDoor
open Go.RowKit
variable {G F H : Nat → Prop} {w w' : World} {lb mp db mb bx nm : Nat} {ms : List (Int × Sg)} {L L' : Lg} {D : Dk} {s r : ByteArray}

theorem begin_ok (hon : D.on = true) (hk : (L.begin_ D).1 = 0) : (L.begin_ D).2.2 = { L with m := setL L.m (L.last + 1) [], op := L.last + 1, long := 0 } ∧ (L.begin_ D).2.1.on = true ∧ (L.begin_ D).2.1.acts ≤ D.acts + 1 ∧ L.last + 1 ≤ 4294967295 := by
  unfold Lg.begin_ at hk ⊢
  by_cases h1 : 4294967295 < L.last + 1
  · rw [if_pos h1] at hk; simp at hk
  · rw [if_neg h1] at hk ⊢
    simp only at hk ⊢
    by_cases h2 : (D.create (segZ L.dir (L.last + 1))).1 ≠ 0
    · rw [if_pos h2] at hk; exact absurd hk h2
    · rw [if_neg h2] at hk ⊢
      have := (create_on D hon (segZ L.dir (L.last + 1))).go (by omega)
      exact ⟨rfl, this.1, this.2, by omega⟩
theorem rotate_ok (hon : D.on = true) (hk : (L.rotate D).1 = 0) : (L.rotate D).2.2 = { (L.mended D).2.2 with op := 0, long := 0 } ∧ (L.rotate D).2.1.on = true ∧ (L.rotate D).2.1.acts ≤ D.acts + 7 := by
  unfold Lg.rotate at hk ⊢
  simp only at hk ⊢
  by_cases h1 : (L.mended D).1 ≠ 0
  · rw [if_pos h1] at hk; exact absurd hk h1
  · rw [if_neg h1] at hk ⊢
    have hm := mended_on (L := L) hon (by omega)
    by_cases h2 : ((L.mended D).2.2.sync (L.mended D).2.1).1 ≠ 0
    · rw [if_pos h2] at hk; exact absurd hk h2
    · rw [if_neg h2] at hk ⊢
      have hs : ((L.mended D).2.2.sync (L.mended D).2.1).2.on = true ∧ ((L.mended D).2.2.sync (L.mended D).2.1).2.acts ≤ (L.mended D).2.1.acts + 1 := by
        unfold Lg.sync at h2 ⊢
        by_cases h3 : (L.mended D).2.2.op = 0
        · rw [if_pos h3]; exact ⟨hm.1, by show (L.mended D).2.1.acts ≤ _; omega⟩
        · rw [if_neg h3] at h2 ⊢
          exact (sync_on _ hm.1 _).go (by omega)
      exact ⟨rfl, hs.1, Nat.le_trans hs.2 (by have := hm.2; omega)⟩
theorem mended_fields (L : Lg) (D : Dk) {k : Int} {D1 : Dk} {L1 : Lg} (h : L.mended D = (k, D1, L1)) : L1.dir = L.dir ∧ L1.size = L.size ∧ L1.m = L.m ∧ L1.op = L.op ∧ L1.long = L.long := by
  have := mended_keep L D
  rw [h] at this
  rcases this with e | e <;> simp only at e <;> subst e <;> exact ⟨rfl, rfl, rfl, rfl, rfl⟩
theorem append_eq0 (hr : r.size ≤ 131072) {k : Int} {D1 : Dk} {L1 : Lg} (h1 : L.mended D = (k, D1, L1)) (hk : k ≠ 0) : L.append D r = (k, D1, L1) := by
  unfold Lg.append
  rw [if_neg (by omega), h1]
  simp only
  rw [if_pos hk]
theorem append_eq1 (hr : r.size ≤ 131072) {D1 : Dk} {L1 : Lg} (h1 : L.mended D = (0, D1, L1)) (hf : L1.full r = false) (ho : L1.op ≠ 0) : L.append D r = L1.lay D1 r := by
  unfold Lg.append
  rw [if_neg (by omega), h1]
  simp only [hf]
  simp [ho]
theorem append_eq2 (hr : r.size ≤ 131072) {D1 D2 : Dk} {L1 L2 : Lg} {k : Int} (h1 : L.mended D = (0, D1, L1)) (hf : L1.full r = false) (ho : L1.op = 0) (hb : L1.begin_ D1 = (k, D2, L2)) : L.append D r = if k ≠ 0 then (k, D2, L2) else L2.lay D2 r := by
  unfold Lg.append
  rw [if_neg (by omega), h1]
  simp only [hf]
  simp [ho, hb]
theorem append_eq3 (hr : r.size ≤ 131072) {D1 D3 : Dk} {L1 L3 : Lg} {k : Int} (h1 : L.mended D = (0, D1, L1)) (hf : L1.full r = true) (hb : L1.rotate D1 = (k, D3, L3)) (hk : k ≠ 0) : L.append D r = (k, D3, L3) := by
  unfold Lg.append
  rw [if_neg (by omega), h1]
  simp only [hf]
  simp [hb, hk]
theorem append_eq4 (hr : r.size ≤ 131072) {D1 D2 D3 : Dk} {L1 L2 L3 : Lg} {k : Int} (h1 : L.mended D = (0, D1, L1)) (hf : L1.full r = true) (hb : L1.rotate D1 = (0, D3, L3)) (ho : L3.op = 0) (hg : L3.begin_ D3 = (k, D2, L2)) : L.append D r = if k ≠ 0 then (k, D2, L2) else L2.lay D2 r := by
  unfold Lg.append
  rw [if_neg (by omega), h1]
  simp only [hf]
  simp [hb, ho, hg]
theorem lay_eq {k : Int} {D2 : Dk} {nz : Nat} (ho : L.op = (nz : Int)) (h : D.app (segN L.dir nz) (framed r) = (k, D2)) {rs : List ByteArray} (hg : getL L.m L.op = some rs) : L.lay D r = if k ≠ 0 then (k, D2, L) else (0, D2, { L with long := L.long + (framed r).size, m := setL L.m L.op (rs ++ [r]) }) := by
  unfold Lg.lay Lg.at_
  rw [hg]
  have hz : segZ L.dir L.op = segN L.dir nz := by unfold segZ; rw [ho]; rfl
  rw [hz, h]
  rfl

set_option maxRecDepth 100000 in
set_option maxHeartbeats 8000000 in
theorem w_append (hlo : LoAt G w lb mp db L) (hd : DkAt F w db mb D) (hG : ∀ q, G q → F q ∧ ¬ two db mb q) (hon : D.on = true) (ha : D.acts + 60 ≤ 1000000) {n : Nat} (hn : n < 4294967296) (hlast : L.last = (n : Int)) (hfew : L.m.length < 20000) (r : ByteArray) (hr : r.size ≤ 131072)
    (hopk : L.op ≠ 0 → ∃ rs, getL L.m L.op = some rs) (hrec : ∀ p ∈ L.m, p.2.length + 1 ≤ 1000000) (hlong : L.long ≤ 900000) :
    Calls Tryz.prog 59 #[.pointer (some ⟨lb, 0, none⟩), .string r] w fun e w' => Kept G F w w' lb mp db mb e (L.append D r) := by
  have hnone := w_none hlo
  have hm := w_mended hlo hd hG hon (by omega) hn hlast
  have hmo := mended_on (L := L) hon
  obtain ⟨a, hA⟩ : ∃ a, L.mended D = a := ⟨_, rfl⟩
  rw [hA] at hm hmo
  obtain ⟨k, D1, L1⟩ := a
  have hmf := mended_fields L D hA
  simp only at hmo
  obtain ⟨ms0, hm0⟩ := hlo
  have hd40 : L.dir.size ≤ 40 := hm0.ok.dir
  have hop0 := hm0.ok.op
  have hlg0 := hm0.ok.long
  have hsz0 := hm0.ok.size
  obtain ⟨dir, hdir⟩ : ∃ dir, L.dir = dir := ⟨_, rfl⟩
  rw [hdir] at hd40
  obtain ⟨fr, hfr⟩ : ∃ fr, framed r = fr := ⟨_, rfl⟩
  obtain ⟨fs, hfs⟩ : ∃ fs, fr.size = fs := ⟨_, rfl⟩
  have hfs2 : fs = 8 + r.size := by rw [← hfs, ← hfr, framed_size]
  have hfrs : fr.size ≤ 140737488351232 := by rw [hfs]; omega
  have hrs0 : r.size ≤ 140737488351232 := by omega
  have hfs3 : fs ≤ 131080 := by omega
  have hF : ∀ W, Calls Tryz.prog 117 #[.string r] W fun e w' => e = .returned (.string fr) ∧ Below W.heap.size W w' := fun W => by rw [← hfr]; exact w_framed r (by omega) W
  have HG := Lib.hid hG
  have HA := Lib.hid (And.intro hA (And.intro hmo hmf))
  have HM := Lib.hid hm
  have HL := Lib.hid (And.intro hlast (And.intro hfew (And.intro hopk (And.intro hrec (And.intro hdir (And.intro hfr (And.intro hr hm0)))))))
  have HFS := Lib.hid (And.intro hfs hfs2)
  have HN := Lib.hid hn
  have tr : ¬ (131072 : Int) < (r.size : Int) := by omega
  clear hd hG hA hm hmo hmf hm0 hlast hfew hopk hrec hdir hfr hn hfs2 hr
  go_enter Tryz.func59, Tryz.ntmps59
  go_wp2_with (go_at_call 65; go_loud (refine hnone.mono ?_); rintro e w2 ⟨rfl, rfl⟩)
  refine HM.out.mono ?_
  rintro e w1 ⟨rfl, hd1, hl1, ht1⟩
  simp only at hd1 hl1
  clear hnone
  by_cases h0 : k = 0
  · subst h0
    have on1 := (HA.out.2.1 rfl).1
    have ac1 := (HA.out.2.1 rfl).2
    go_wp2_with fail
    refine (hF _).mono ?_
    rintro e w2 ⟨rfl, hb2⟩
    have hl2 := hl1.below hb2
    have hd2 := hd1.below hb2
    have ht2 : Tn (fun q => two db mb q ∨ G q) w w2 := ht1.trans (Tn.ofBelow hb2)
    have H2 := Lib.hid (And.intro hl2 (And.intro hd2 ht2))
    obtain ⟨ms2, hm2⟩ := hl2
    have c2 := hm2.c2
    have c4 := hm2.c4
    have c5 := hm2.c5
    rw [HA.out.2.2.2.1] at c2
    rw [HA.out.2.2.2.2.2.1] at c4
    rw [HA.out.2.2.2.2.2.2] at c5
    obtain ⟨lz, hlz⟩ : ∃ lz, L.long = lz := ⟨_, rfl⟩
    obtain ⟨sz, hsz⟩ : ∃ sz, L.size = sz := ⟨_, rfl⟩
    obtain ⟨oz, hoz⟩ : ∃ oz : Nat, L.op = (oz : Int) := ⟨L.op.toNat, by omega⟩
    rw [hsz] at c2 hsz0
    rw [hoz] at c4 hop0
    rw [hlz] at c5 hlg0 hlong
    have hfull : L1.full r = (decide (0 < (oz : Int)) && decide (0 < lz) && decide (sz < lz + (fs : Int))) := by
      unfold Lg.full
      rw [HA.out.2.2.2.1, HA.out.2.2.2.2.2.1, HA.out.2.2.2.2.2.2, HL.out.2.2.2.2.2.1, HFS.out.1, hoz, hlz, hsz]
    have HO := Lib.hid (And.intro hlz (And.intro hsz (And.intro hoz hfull)))
    have HOP := Lib.hid hop0
    have e1 : IntKind.i64.wrap (lz + (fs : Int)) = lz + (fs : Int) := IntWalk.i64_in _ (by omega)
    have HE1 := Lib.hid e1
    clear hb2 hm2 hd2 ht2 hl1 hd1 ht1 hlz hsz hoz hfull hF hop0 e1
    by_cases g1 : 0 < oz
    · have d1 : decide (0 < (oz : Int)) = true := by simp; omega
      by_cases g2 : 0 < lz
      · have d2 : decide (0 < lz) = true := by simp; omega
        by_cases g3 : sz < lz + (fs : Int)
        · have d3 : decide (sz < lz + (fs : Int)) = true := by simp; omega
          have HFU : Hid (L1.full r = true) := by unfold Hid; rw [HO.out.2.2.2, d1, d2, d3]; rfl
          have e1 := HE1.out
          go_wp2_with fail
          go_quiet (fail)
          obtain ⟨w2d, hw2d⟩ : ∃ w2d, w2.drewN nq = w2d := ⟨_, rfl⟩
          have hbq : Below w2.heap.size w2 w2d := by rw [← hw2d]; exact below_drewN (Below.refl _ _) nq
          have hl2 := H2.out.1.below hbq
          have hd2 := H2.out.2.1.below hbq
          have H2d := Lib.hid (And.intro hl2 (And.intro hd2 (H2.out.2.2.trans (Tn.ofBelow hbq))))
          rw [hw2d]
          obtain ⟨rt, hrt⟩ : ∃ rt, L1.rotate D1 = rt := ⟨_, rfl⟩
          have hrok := rotate_ok (L := L1) (D := D1) on1
          have hl1n : L1.last = (n : Int) := by unfold Lg.last; rw [HA.out.2.2.2.2.1]; exact HL.out.1
          have hrw := w_rotate H2d.out.1 H2d.out.2.1 HG.out on1 (by omega) HN.out hl1n
          rw [hrt] at hrw hrok
          obtain ⟨kr, D3, L3⟩ := rt
          simp only at hrok
          have hL1m : L1.m = L.m := HA.out.2.2.2.2.1
          have HRW := Lib.hid (And.intro hrw (And.intro hrt (And.intro hrok (And.intro hl1n hL1m))))
          clear hrw hrt hrok hl1n hL1m hbq hl2 hd2 hw2d c2 c4 c5 e1
          go_wp2_with fail
          refine HRW.out.1.mono ?_
          rintro e w3 ⟨rfl, hd3, hl3, ht3⟩
          simp only at hd3 hl3
          have H3x := Lib.hid (And.intro hl3 (And.intro hd3 (H2d.out.2.2.trans ht3)))
          by_cases hr0 : kr = 0
          · subst hr0
            obtain ⟨hL3, onb, acb⟩ := HRW.out.2.2.1 rfl
            have hf3 := mended_keep L1 D1
            have hL3f : L3.m = L1.m ∧ L3.op = 0 ∧ L3.dir = L1.dir := by
              rw [hL3]
              rcases hf3 with e | e <;> rw [e] <;> exact ⟨rfl, rfl, rfl⟩
            have LST : Hid (L3.last = (n : Int) ∧ L3.m.length < 20000) := by
              refine ⟨?_, ?_⟩
              · unfold Lg.last; rw [hL3f.1]; exact HRW.out.2.2.2.1
              · rw [hL3f.1, HRW.out.2.2.2.2]; exact HL.out.2.1
            have LDR : Hid (L3.dir = dir) := by unfold Hid; rw [hL3f.2.2, HA.out.2.2.1]; exact HL.out.2.2.2.2.1
            have HO3 := Lib.hid hL3f.2.1
            have c4z : w3.cell? ⟨lb, 4, none⟩ = some (.int .i64 0) := by obtain ⟨msx, hmx⟩ := hl3; rw [← hL3f.2.1]; exact hmx.c4
            clear hd3 hl3 ht3 hL3 hf3 hL3f
            obtain ⟨bg, hbg⟩ : ∃ bg, L3.begin_ D3 = bg := ⟨_, rfl⟩
            have hbok := begin_ok (L := L3) (D := D3) onb
            have hbw := w_begin H3x.out.1 H3x.out.2.1 HG.out onb (by omega) HN.out LST.out.1 LST.out.2
            rw [hbg] at hbw hbok
            obtain ⟨kb, D4, L4⟩ := bg
            simp only at hbok
            have HBW := Lib.hid hbw
            have HBG := Lib.hid (And.intro hbg hbok)
            clear hbw hbg hbok
            go_wp2_with fail
            refine HBW.out.mono ?_
            rintro e w4 ⟨rfl, hd4, hl4, ht4⟩
            simp only at hd4 hl4
            have ht04 : Tn (fun q => two db mb q ∨ G q) w w4 := H3x.out.2.2.trans ht4
            have HZ := Lib.hid (And.intro hl4 (And.intro hd4 ht04))
            clear hd4 hl4 ht4 ht04
            by_cases hb0 : kb = 0
            · subst hb0
              obtain ⟨hL4, onz, acz0, hmx⟩ := HBG.out.2 rfl
              have HAP : Hid (L.append D r = L4.lay D4 r) := by
                unfold Hid
                rw [append_eq4 HL.out.2.2.2.2.2.2.1 HA.out.1 HFU.out HRW.out.2.1 HO3.out HBG.out.1]
                rfl
              obtain ⟨nz, hnz⟩ : ∃ nz : Nat, nz = n + 1 := ⟨_, rfl⟩
              have HNZ : Hid (nz < 4294967296) := by unfold Hid; rw [LST.out.1] at hmx; omega
              obtain ⟨rs, hrsx⟩ : ∃ rs : List ByteArray, rs = [] := ⟨_, rfl⟩
              obtain ⟨lz2, hlz2⟩ : ∃ lz2 : Int, lz2 = 0 := ⟨_, rfl⟩
              have lz0 : 0 ≤ lz2 := by omega
              have lz1 : lz2 ≤ 900000 := by omega
              have acz : D4.acts < 1000000 := by omega
              have o4 : L4.op = (nz : Int) := by rw [hL4]; show L3.last + 1 = _; rw [LST.out.1, hnz]; rfl
              have hne4 : ∀ p ∈ L3.m, p.1 ≠ L3.last + 1 := by
                obtain ⟨msx, hmx2⟩ := H3x.out.1
                intro p hp e
                have := last_most hmx2.ok p hp
                omega
              have g4 : getL L4.m L4.op = some rs := by
                rw [hL4]
                show getL (setL L3.m (L3.last + 1) []) (L3.last + 1) = some rs
                rw [setL_new' hne4, getL_app_right hne4, getL_one, hrsx]
              have HKZ := Lib.hid (And.intro o4 (And.intro g4 (And.intro (show rs.length + 1 ≤ 1000000 by rw [hrsx]; decide) (And.intro (show L4.long = lz2 by rw [hL4, hlz2]) (And.intro (show L4.dir = dir by rw [hL4]; exact LDR.out) (And.intro HL.out.2.2.2.2.2.1 HFS.out.1))))))
              clear hL4 o4 g4 hne4 hmx hnz hrsx hlz2 c4z
              obtain ⟨msz, hmz⟩ := HZ.out.1
              obtain ⟨A, B, xa, xc, rfl, hA, hB, hgx⟩ := hmz.split HKZ.out.2.1
              rw [HKZ.out.1] at hmz hA hB hgx
              have z0 := hmz.c0
              have z1 := hmz.c1
              have z4 := hmz.c4
              have z5 := hmz.c5
              have z3 := hmz.c3
              have zf5 := hmz.fz 5
              rw [HKZ.out.1] at z4
              rw [HKZ.out.2.2.2.1] at z5
              rw [HKZ.out.2.2.2.2.1] at z1
              obtain ⟨d, hdd⟩ : ∃ d, D4.app (segN dir nz) fr = d := ⟨_, rfl⟩
              obtain ⟨kd, D9⟩ := d
              have hlay := lay_eq (L := L4) (D := D4) (r := r) (k := kd) (D2 := D9) (nz := nz) HKZ.out.1 (by rw [HKZ.out.2.2.2.2.1, HKZ.out.2.2.2.2.2.1]; exact hdd) HKZ.out.2.1
              rw [← HAP.out] at hlay
              have HLY := Lib.hid (And.intro hlay hdd)
              have HMZ := Lib.hid (And.intro hmz (And.intro hA (And.intro hB hgx)))
              obtain ⟨xl, hxl⟩ : ∃ xl, rs.length = xl := ⟨_, rfl⟩
              have HXL := Lib.hid hxl
              have glz := HG.out lb hmz.gl
              have gmz := HG.out mp hmz.gm
              clear hlay hdd hmz hA hB hgx hxl
              go_wp2_with fail
              refine wp_region_K (fun w' => w'.cell? ⟨lb, 0, none⟩ = some (.pointer (some ⟨db, 0, none⟩)) ∧ w'.cell? ⟨lb, 4, none⟩ = some (.int .i64 (nz : Int))) 12 13 (by kernel_rfl) (by kernel_rfl) ⟨z0, z4⟩ (fun hH => ?_)
              refine tkK (i := 0) [12] rfl hH ?_
              try simp only [Act.put, tkA, tkB, tkC]
              refine tkK (i := 1) [12] rfl hH ?_
              try simp only [Act.put, tkA, tkB, tkC]
              refine tkK (i := 2) [12] rfl hH ?_
              try simp only [Act.put, tkA, tkB, tkC]
              refine tkK (i := 3) [12] rfl hH ?_
              try simp only [Act.put, tkA, tkB, tkC]
              refine tkK (i := 4) [12] rfl hH ?_
              try simp only [Act.put, tkA, tkB, tkC]
              refine tkK (i := 5) [12] rfl hH ?_
              try simp only [Act.put, tkA, tkB, tkC]
              refine tkK (i := 6) [12] rfl hH ?_
              try simp only [Act.put, tkA, tkB, tkC]
              refine tkK (i := 7) [12] rfl hH ?_
              try simp only [Act.put, tkA, tkB, tkC]
              refine tkK (i := 8) [12] rfl hH ?_
              try simp only [Act.put, tkA, tkB, tkC]
              refine tkK (i := 10) [12] rfl hH ?_
              try simp only [Act.put, tkA, tkB, tkC]
              refine wpAnyK_one (i := 9) (by kernel_rfl) rfl (fun K hK => ?_) (by kernel_rfl)
              go_simp
              go_at_call 67
              have z1d : w4.drew.cell? ⟨lb, 1, none⟩ = some (.string dir) := z1
              with_reducible refine (w_name (lb := lb) hd40 nz HNZ.out z1d).mono ?_
              rintro e y2 ⟨rfl, hb2⟩
              have hb02 := (Below.refl _ _).drew.trans hb2
              have kd2 := And.intro ((hb2.cell (p := ⟨lb, 0, none⟩) (World.block_lt_of_cell? _ _ z0)).trans z0) ((hb2.cell (p := ⟨lb, 4, none⟩) (World.block_lt_of_cell? _ _ z4)).trans z4)
              have hd2 := HZ.out.2.1.below hb02
              have hm2 := HMZ.out.1.tn (Tn.ofBelow (F := fun _ => False) hb02) (fun _ _ h => h)
              have H2 := Lib.hid (And.intro hb02 (And.intro hd2 hm2))
              obtain ⟨sg, hsg⟩ : ∃ sg, segN dir nz = sg := ⟨_, rfl⟩
              have hszg : sg.size ≤ 140737488351232 := by rw [← hsg, ba_size, segN_list, List.length_append, List.length_append, hexF_len, ← ba_size]; simp; omega
              have HSG := Lib.hid hsg
              rw [hsg]
              clear hb2 hb02 hd2 hm2 hsg
              refine hK.out _ _ kd2 (fun hH => ?_)
              clear hK K
              try simp only [Act.put, tkA, tkB, tkC]
              refine wpAnyK_one (i := 11) (by kernel_rfl) rfl (fun K hK => ?_) (by kernel_rfl)
              go_simp
              go_at_call 72
              with_reducible refine (append_any H2.out.2.1 onz acz sg fr hszg hfrs).mono ?_
              rw [← HSG.out, HLY.out.2]
              rintro e y3 ⟨rfl, hd3, ht3⟩
              simp only at hd3
              have kd3 := And.intro (ht3.cell kd2.1 glz.2) (ht3.cell kd2.2 glz.2)
              have hm3 := H2.out.2.2.tn ht3 (fun q hq h => (HG.out q hq).2 h)
              have y35 := hm3.c5
              rw [HKZ.out.2.2.2.1] at y35
              have yf5 := hm3.fz 5
              have ht03 : Tn (fun q => two db mb q ∨ G q) w y3 := HZ.out.2.2.trans (tn_two ((Tn.ofBelow H2.out.1).trans ht3))
              have H3 := Lib.hid (And.intro hd3 (And.intro hm3 ht03))
              clear hd3 ht3 hm3 ht03
              refine hK.out _ _ kd3 (fun hH => ?_)
              clear hK K
              try simp only [Act.put, tkA, tkB, tkC]
              refine wpAnyK_last (by kernel_rfl) rfl (fun K hK => ?_) (by kernel_rfl)
              go_simp
              refine hK.out _ _ (wpAnyK_done (by kernel_rfl) ?_ _)
              clear hK K hH kd2 kd3 z0 z1 z3 z4 z5 zf5 z1d
              by_cases h9 : kd = 0
              · subst h9
                have HLY2 : Hid (L.append D r = (0, D9, { L4 with long := L4.long + (framed r).size, m := setL L4.m L4.op (rs ++ [r]) })) := by unfold Hid; rw [HLY.out.1]; rfl
                obtain ⟨W8, hW8⟩ : ∃ W8, y3.setCell ⟨lb, 5, none⟩ (.int .i64 (lz2 + (fs : Int))) = W8 := ⟨_, rfl⟩
                have hm8 := H3.out.2.1.longer (n := lz2 + (fs : Int)) ⟨by omega, by omega⟩
                rw [hW8] at hm8
                have t38 : Tn (fun q => q = lb) y3 W8 := by rw [← hW8]; exact Tn.setCell _ _ _ rfl
                have v0 := hm8.c0
                have v3 := hm8.c3
                have v4 := hm8.c4
                have lk8 : (Instr.lookup tSeg (.map (some mp)) (.int .i64 (nz : Int)) false).run Tryz.prog W8 = .ok (.slice xa xl xc) W8 := by
                  have h5 := MapL.look hm8.mpl keyZ und_seg (zero_strs _) false (nz : Int)
                  rw [HMZ.out.2.2.2] at h5
                  rw [← HXL.out]
                  exact h5
                rw [show ({ L4 with long := lz2 + (fs : Int) } : Lg).op = (nz : Int) from HKZ.out.1] at v4
                have H8 := Lib.hid (And.intro hm8 (And.intro t38 hW8))
                clear hm8 t38
                go_wp2
                have vd : W8.drew.cell? ⟨lb, 3, none⟩ = some (.map (some mp)) ∧ W8.drew.cell? ⟨lb, 4, none⟩ = some (.int .i64 (nz : Int)) ∧ (Instr.lookup tSeg (.map (some mp)) (.int .i64 (nz : Int)) false).run Tryz.prog W8.drew = .ok (.slice xa xl xc) W8.drew := by
                  refine ⟨v3, v4, ?_⟩
                  have h5 := MapL.look (MapL.below H8.out.1.mpl (Below.refl _ _).drew) keyZ und_seg (zero_strs _) false (nz : Int)
                  rw [HMZ.out.2.2.2] at h5
                  rw [← HXL.out]
                  exact h5
                clear hW8
                refine wp_region_K (fun w' => w'.cell? ⟨lb, 3, none⟩ = some (.map (some mp)) ∧ w'.cell? ⟨lb, 4, none⟩ = some (.int .i64 (nz : Int)) ∧ (Instr.lookup tSeg (.map (some mp)) (.int .i64 (nz : Int)) false).run Tryz.prog w' = .ok (.slice xa xl xc) w') 21 22 (by kernel_rfl) (by kernel_rfl) vd (fun hH => ?_)
                refine tkK (i := 0) [21] rfl hH ?_
                try simp only [Act.put, tkA, tkB, tkC]
                refine tkK (i := 1) [21] rfl hH ?_
                try simp only [Act.put, tkA, tkB, tkC]
                refine tkK (i := 2) [21] rfl hH ?_
                try simp only [Act.put, tkA, tkB, tkC]
                refine tkK (i := 3) [21] rfl hH ?_
                try simp only [Act.put, tkA, tkB, tkC]
                refine tkK (i := 4) [21] rfl hH ?_
                try simp only [Act.put, tkA, tkB, tkC]
                refine tkK (i := 5) [21] rfl hH ?_
                try simp only [Act.put, tkA, tkB, tkC]
                refine tkK (i := 6) [21] rfl hH ?_
                try simp only [Act.put, tkA, tkB, tkC]
                refine tkK (i := 7) [21] rfl hH ?_
                try simp only [Act.put, tkA, tkB, tkC]
                refine tkK (i := 8) [21] rfl hH ?_
                try simp only [Act.put, tkA, tkB, tkC]
                refine tkK (i := 9) [21] rfl hH ?_
                try simp only [Act.put, tkA, tkB, tkC]
                refine tkK (i := 10) [21] rfl hH ?_
                try simp only [Act.put, tkA, tkB, tkC]
                refine tkK (i := 11) [21] rfl hH ?_
                try simp only [Act.put, tkA, tkB, tkC]
                refine tkK (i := 12) [21] rfl hH ?_
                try simp only [Act.put, tkA, tkB, tkC]
                refine tkK (i := 13) [21] rfl hH ?_
                try simp only [Act.put, tkA, tkB, tkC]
                refine tkK (i := 14) [21] rfl hH ?_
                try simp only [Act.put, tkA, tkB, tkC]
                refine tkK (i := 15) [21] rfl hH ?_
                try simp only [Act.put, tkA, tkB, tkC]
                refine tkK (i := 16) [21] rfl hH ?_
                try simp only [Act.put, tkA, tkB, tkC]
                refine tkK (i := 17) [21] rfl hH ?_
                try simp only [Act.put, tkA, tkB, tkC]
                refine wpAnyK_one (i := 18) (by kernel_rfl) rfl (fun K hK => ?_) (by kernel_rfl)
                go_simp
                go_at_call 20
                with_reducible refine (clone_any _ r hrs0).mono ?_
                rintro e y4 ⟨rfl, hb4⟩
                have hb84 := (Below.refl _ _).drew.trans hb4
                have lkb : ∀ y, Below W8.heap.size W8 y → (Instr.lookup tSeg (.map (some mp)) (.int .i64 (nz : Int)) false).run Tryz.prog y = .ok (.slice xa xl xc) y := fun y hy => by
                  have h5 := MapL.look (MapL.below H8.out.1.mpl hy) keyZ und_seg (zero_strs _) false (nz : Int)
                  rw [HMZ.out.2.2.2] at h5
                  rw [← HXL.out]
                  exact h5
                have hlb8 := World.block_lt_of_cell? _ _ v3
                have vd4 := And.intro ((hb84.cell (p := ⟨lb, 3, none⟩) hlb8).trans v3) (And.intro ((hb84.cell (p := ⟨lb, 4, none⟩) hlb8).trans v4) (lkb y4 hb84))
                have H4 := Lib.hid (And.intro hb84 lkb)
                clear hb4 hb84 lkb
                refine hK.out _ _ vd4 (fun hH => ?_)
                clear hK K
                try simp only [Act.put, tkA, tkB, tkC]
                refine wpAnyK_one (i := 19) (by kernel_rfl) rfl (fun K hK => ?_) (by kernel_rfl)
                go_simp
                obtain ⟨y5, hy5⟩ : ∃ y5, y5 = y4.alloc (.cells #[.string r] 9) := ⟨_, rfl⟩
                have hb85 : Below W8.heap.size W8 y5 := by rw [hy5]; exact H4.out.1.alloc H4.out.1.size _
                have hsrc : Src eStr y5 (.slice (some ⟨y4.heap.size, 0, none⟩) 1 1) [r] := by rw [hy5]; exact src_one y4 r _ _ rfl 1
                have hm5 := H8.out.1.tn (Tn.ofBelow (F := fun _ => False) hb85) (fun _ _ h => h)
                have vd5 := And.intro ((hb85.cell (p := ⟨lb, 3, none⟩) hlb8).trans v3) (And.intro ((hb85.cell (p := ⟨lb, 4, none⟩) hlb8).trans v4) (H4.out.2 y5 hb85))
                have hrow5 : Own eStr y5 0 (.slice xa xl xc) rs := by
                  have h5 := hm5.rows ((nz : Int), (⟨xa, xc, rs⟩ : Sg)) (by simp)
                  rw [← HXL.out]
                  exact h5
                have H5 := Lib.hid (And.intro hm5 (And.intro hsrc (And.intro hrow5 hb85)))
                rw [← hy5]
                clear hb85 hsrc hm5 hrow5 hy5
                refine hK.out _ _ vd5 (fun hH => ?_)
                clear hK K
                try simp only [Act.put, tkA, tkB, tkC]
                refine wpAnyK_one (i := 20) (by kernel_rfl) rfl (fun K hK => ?_) (by kernel_rfl)
                refine step_app2 eStr rfl _ _ rfl rfl rfl H5.out.2.2.1 H5.out.2.1 (by have := HKZ.out.2.2.1; simp; omega) (Nat.zero_le _) ?_
                rw [HXL.out]
                intro a6 cap6 y6 hap'
                have hap : Appd eStr y5 y6 0 (.slice xa xl xc) (.slice a6 (xl + 1) cap6) rs [r] := hap'
                have hx5 : ∀ q, (Value.slice xa xl xc).ownBlock = some q → q ≠ lb ∧ q ≠ mp := fun q hq => H5.out.1.off ((nz : Int), (⟨xa, xc, rs⟩ : Sg)) (by simp) q (by show (Value.slice xa rs.length xc).ownBlock = some q; rw [HXL.out]; exact hq)
                have nb5 : ¬ (Value.slice xa xl xc).ownBlock = some lb := fun e => (hx5 lb e).1 rfl
                have hmp6 := MapL.tn H5.out.1.mpl hap.tn (fun e => (hx5 mp e).2 rfl)
                have lk6 : (Instr.lookup tSeg (.map (some mp)) (.int .i64 (nz : Int)) false).run Tryz.prog y6 = .ok (.slice xa xl xc) y6 := by
                  have h5 := MapL.look hmp6 keyZ und_seg (zero_strs _) false (nz : Int)
                  rw [HMZ.out.2.2.2] at h5
                  rw [← HXL.out]
                  exact h5
                have vd6 := And.intro (hap.tn.cell vd5.1 nb5) (And.intro (hap.tn.cell vd5.2.1 nb5) lk6)
                obtain ⟨y7, hrun, hm7, ht7, hz7⟩ := MapL.put hmp6 keyZ und_seg (nz : Int) (⟨a6, cap6, rs ++ [r]⟩ : Sg)
                have hrun' : (Instr.mapUpdate tSeg (.map (some mp)) (.int .i64 (nz : Int)) (.slice a6 (xl + 1) cap6)).run Tryz.prog y6 = .ok () y7 := by
                  have : cvS (⟨a6, cap6, rs ++ [r]⟩ : Sg) = .slice a6 (xl + 1) cap6 := by
                    show Value.slice a6 (rs ++ [r]).length cap6 = _
                    rw [List.length_append, HXL.out]; rfl
                  rw [this] at hrun
                  exact hrun
                have H7 := Lib.hid (And.intro hap (And.intro hm7 ht7))
                clear hap hap' hmp6 lk6 hrun hm7 ht7 hz7
                refine hK.out _ _ vd6 (fun hH => ?_)
                clear hK K
                try simp only [Act.put, tkA, tkB, tkC]
                refine wpAnyK_last (by kernel_rfl) rfl (fun K hK => ?_) (by kernel_rfl)
                go_simp
                refine hK.out _ _ (wpAnyK_done (by kernel_rfl) ?_ _)
                clear hK K hH vd vd4 vd5 vd6 v0 v3 v4 lk8 hrun'
                go_wp2_with fail
                go_ret
                unfold Kept
                rw [HLY2.out]
                obtain ⟨hlm, tg, hmq⟩ := LoM.lay (G := G) (xa := xa) (xc := xc) (rs := rs) (r := r) (n' := xl + 1) (a' := a6) (c' := cap6) H5.out.1 HMZ.out.2.1 HMZ.out.2.2.1 (by rw [List.length_append, HXL.out]; rfl) (by rw [HXL.out]; exact H7.out.1) H7.out.2.1 H7.out.2.2 HKZ.out.2.2.1
                have t35 : Tn (fun q => q = lb) y3 y5 := H8.out.2.1.trans (Tn.ofBelow H5.out.2.2.2)
                have h35 : y3.heap.size ≤ y5.heap.size := t35.size
                have hw3 := H3.out.2.2.size
                have gfl : ∀ q, G q → F q ∧ ¬ two db mb q := HG.out
                have hd5 := H3.out.1.frame t35 (fun q _ e => by subst e; exact ⟨glz.1, fun e => glz.2 (.inl e), fun e => glz.2 (.inr e)⟩)
                have hmore : ∀ q, more G (.slice a6 (xl + 1) cap6) q → F q ∨ y5.heap.size ≤ q := fun q hq => (hmq q hq).imp (fun h => (gfl q h).1) id
                have hd7 : DkAt (fun q => F q ∨ more G (.slice a6 (xl + 1) cap6) q) y7 db mb D9 := hd5.widen (H := G) tg (fun q _ h => gfl q h) (fun q h => .inl h) (fun q h => h.elim .inl (hmore q)) (fun q h => h.elim (fun h => Nat.lt_of_lt_of_le (hd5.lt q h) tg.size) (hlm.lt q))
                refine ⟨rfl, more G (.slice a6 (xl + 1) cap6), _, hd7, ⟨A ++ ((nz : Int), ⟨a6, cap6, rs ++ [r]⟩) :: B, ?_⟩, fun q hq => ⟨.inr hq, fun h2 => ?_⟩, fun q h => .inl h, fun q h => ?_, fun q hq => ?_, ?_⟩
                · have e1 : ({ ({ L4 with long := lz2 + (fs : Int) } : Lg) with m := setL ({ L4 with long := lz2 + (fs : Int) } : Lg).m (nz : Int) (rs ++ [r]) } : Lg) = { L4 with long := L4.long + (framed r).size, m := setL L4.m L4.op (rs ++ [r]) } := by
                    rw [HKZ.out.1, HKZ.out.2.2.2.1, HKZ.out.2.2.2.2.2.1, HKZ.out.2.2.2.2.2.2]
                  rw [← e1]
                  exact hlm
                · rcases hmq q hq with h | h
                  · exact (gfl q h).2 h2
                  · have := hd5.ltd
                    have := hd5.m.lt
                    rcases h2 with rfl | rfl <;> omega
                · rcases h with h | h
                  · exact .inl h
                  · exact (hmore q h).imp id (fun h => by omega)
                · exact (hmq q hq).imp id (fun h => by omega)
                · exact H3.out.2.2.trans (((t35.mono (fun q e => by subst e; exact .inr H5.out.1.gl))).trans (tg.mono (fun q h => .inr h)))
              · have t9 : (kd != 0) = true := by simpa using h9
                have HLY2 : Hid (L.append D r = (kd, D9, L4)) := by unfold Hid; rw [HLY.out.1, if_pos h9]
                clear h9 y35 yf5
                go_wp2
                go_ret
                rw [HLY2.out]
                exact Both.kept ⟨rfl, H3.out.1, ⟨_, H3.out.2.1⟩, H3.out.2.2⟩ HG.out
            · have tb : (kb != 0) = true := by simpa using hb0
              have HAP : Hid (L.append D r = (kb, D4, L4)) := by
                unfold Hid
                rw [append_eq4 HL.out.2.2.2.2.2.2.1 HA.out.1 HFU.out HRW.out.2.1 HO3.out HBG.out.1, if_pos hb0]
              clear hb0
              go_wp2
              go_ret
              rw [HAP.out]
              exact Both.kept ⟨rfl, HZ.out.2.1, HZ.out.1, HZ.out.2.2⟩ HG.out
          · have tr0 : (kr != 0) = true := by simpa using hr0
            have HAP : Hid (L.append D r = (kr, D3, L3)) := append_eq3 HL.out.2.2.2.2.2.2.1 HA.out.1 HFU.out HRW.out.2.1 hr0
            clear hr0 hd3 hl3 ht3
            go_wp2
            go_ret
            rw [HAP.out]
            exact Both.kept ⟨rfl, H3x.out.2.1, H3x.out.1, H3x.out.2.2⟩ HG.out
        · have d3 : decide (sz < lz + (fs : Int)) = false := by simp; omega
          have HFU : Hid (L1.full r = false) := by unfold Hid; rw [HO.out.2.2.2, d1, d2, d3]; rfl
          have e1 := HE1.out
          go_wp2_with fail
          go_quiet (fail)
          obtain ⟨wq, hwq⟩ : ∃ wq, w2.drewN nq = wq := ⟨_, rfl⟩
          have hbq : Below w2.heap.size w2 wq := by rw [← hwq]; exact below_drewN (Below.refl _ _) nq
          have hl2 := H2.out.1.below hbq
          have hd2 := H2.out.2.1.below hbq
          have H2q := Lib.hid (And.intro hl2 (And.intro hd2 (H2.out.2.2.trans (Tn.ofBelow hbq))))
          rw [hwq]
          clear H2 hbq hl2 hd2 hwq c2 c4 c5 e1
          have H2 := H2q
          obtain ⟨rs, hrsx⟩ := HL.out.2.2.1 (by rw [HO.out.2.2.1]; omega)
          have HNZ : Hid (oz < 4294967296) := by unfold Hid; have := HOP.out; omega
          have onz := on1
          have acz : D1.acts < 1000000 := by omega
          have hrl : rs.length + 1 ≤ 1000000 := HL.out.2.2.2.1 _ (getL_mem hrsx)
          have lz0 := hlg0.1
          have HKZ := Lib.hid (And.intro (show L1.op = (oz : Int) by rw [HA.out.2.2.2.2.2.1, HO.out.2.2.1]) (And.intro (show getL L1.m L1.op = some rs by rw [HA.out.2.2.2.2.1, HA.out.2.2.2.2.2.1]; exact hrsx) (And.intro hrl (And.intro (show L1.long = lz by rw [HA.out.2.2.2.2.2.2, HO.out.1]) (And.intro (show L1.dir = dir by rw [HA.out.2.2.1]; exact HL.out.2.2.2.2.1) (And.intro HL.out.2.2.2.2.2.1 HFS.out.1))))))
          have HZ := H2
          have HAP : Hid (L.append D r = L1.lay D1 r) := append_eq1 HL.out.2.2.2.2.2.2.1 HA.out.1 HFU.out (by rw [HA.out.2.2.2.2.2.1, HO.out.2.2.1]; omega)
          have t13 : ((oz : Int) == 0) = false := beq_eq_false_iff_ne.2 (by omega)
          clear hrsx hrl
          obtain ⟨msz, hmz⟩ := HZ.out.1
          obtain ⟨A, B, xa, xc, rfl, hA, hB, hgx⟩ := hmz.split HKZ.out.2.1
          rw [HKZ.out.1] at hmz hA hB hgx
          have z0 := hmz.c0
          have z1 := hmz.c1
          have z4 := hmz.c4
          have z5 := hmz.c5
          have z3 := hmz.c3
          have zf5 := hmz.fz 5
          rw [HKZ.out.1] at z4
          rw [HKZ.out.2.2.2.1] at z5
          rw [HKZ.out.2.2.2.2.1] at z1
          obtain ⟨d, hdd⟩ : ∃ d, D1.app (segN dir oz) fr = d := ⟨_, rfl⟩
          obtain ⟨kd, D9⟩ := d
          have hlay := lay_eq (L := L1) (D := D1) (r := r) (k := kd) (D2 := D9) (nz := oz) HKZ.out.1 (by rw [HKZ.out.2.2.2.2.1, HKZ.out.2.2.2.2.2.1]; exact hdd) HKZ.out.2.1
          rw [← HAP.out] at hlay
          have HLY := Lib.hid (And.intro hlay hdd)
          have HMZ := Lib.hid (And.intro hmz (And.intro hA (And.intro hB hgx)))
          obtain ⟨xl, hxl⟩ : ∃ xl, rs.length = xl := ⟨_, rfl⟩
          have HXL := Lib.hid hxl
          have glz := HG.out lb hmz.gl
          have gmz := HG.out mp hmz.gm
          clear hlay hdd hmz hA hB hgx hxl
          go_wp2_with fail
          refine wp_region_K (fun w' => w'.cell? ⟨lb, 0, none⟩ = some (.pointer (some ⟨db, 0, none⟩)) ∧ w'.cell? ⟨lb, 4, none⟩ = some (.int .i64 (oz : Int))) 12 13 (by kernel_rfl) (by kernel_rfl) ⟨z0, z4⟩ (fun hH => ?_)
          refine tkK (i := 0) [12] rfl hH ?_
          try simp only [Act.put, tkA, tkB, tkC]
          refine tkK (i := 1) [12] rfl hH ?_
          try simp only [Act.put, tkA, tkB, tkC]
          refine tkK (i := 2) [12] rfl hH ?_
          try simp only [Act.put, tkA, tkB, tkC]
          refine tkK (i := 3) [12] rfl hH ?_
          try simp only [Act.put, tkA, tkB, tkC]
          refine tkK (i := 4) [12] rfl hH ?_
          try simp only [Act.put, tkA, tkB, tkC]
          refine tkK (i := 5) [12] rfl hH ?_
          try simp only [Act.put, tkA, tkB, tkC]
          refine tkK (i := 6) [12] rfl hH ?_
          try simp only [Act.put, tkA, tkB, tkC]
          refine tkK (i := 7) [12] rfl hH ?_
          try simp only [Act.put, tkA, tkB, tkC]
          refine tkK (i := 8) [12] rfl hH ?_
          try simp only [Act.put, tkA, tkB, tkC]
          refine tkK (i := 10) [12] rfl hH ?_
          try simp only [Act.put, tkA, tkB, tkC]
          refine wpAnyK_one (i := 9) (by kernel_rfl) rfl (fun K hK => ?_) (by kernel_rfl)
          go_simp
          go_at_call 67
          have z1d : wq.drew.cell? ⟨lb, 1, none⟩ = some (.string dir) := z1
          with_reducible refine (w_name (lb := lb) hd40 oz HNZ.out z1d).mono ?_
          rintro e y2 ⟨rfl, hb2⟩
          have hb02 := (Below.refl _ _).drew.trans hb2
          have kd2 := And.intro ((hb2.cell (p := ⟨lb, 0, none⟩) (World.block_lt_of_cell? _ _ z0)).trans z0) ((hb2.cell (p := ⟨lb, 4, none⟩) (World.block_lt_of_cell? _ _ z4)).trans z4)
          have hd2 := HZ.out.2.1.below hb02
          have hm2 := HMZ.out.1.tn (Tn.ofBelow (F := fun _ => False) hb02) (fun _ _ h => h)
          have H2 := Lib.hid (And.intro hb02 (And.intro hd2 hm2))
          obtain ⟨sg, hsg⟩ : ∃ sg, segN dir oz = sg := ⟨_, rfl⟩
          have hszg : sg.size ≤ 140737488351232 := by rw [← hsg, ba_size, segN_list, List.length_append, List.length_append, hexF_len, ← ba_size]; simp; omega
          have HSG := Lib.hid hsg
          rw [hsg]
          clear hb2 hb02 hd2 hm2 hsg
          refine hK.out _ _ kd2 (fun hH => ?_)
          clear hK K
          try simp only [Act.put, tkA, tkB, tkC]
          refine wpAnyK_one (i := 11) (by kernel_rfl) rfl (fun K hK => ?_) (by kernel_rfl)
          go_simp
          go_at_call 72
          with_reducible refine (append_any H2.out.2.1 onz acz sg fr hszg hfrs).mono ?_
          rw [← HSG.out, HLY.out.2]
          rintro e y3 ⟨rfl, hd3, ht3⟩
          simp only at hd3
          have kd3 := And.intro (ht3.cell kd2.1 glz.2) (ht3.cell kd2.2 glz.2)
          have hm3 := H2.out.2.2.tn ht3 (fun q hq h => (HG.out q hq).2 h)
          have y35 := hm3.c5
          rw [HKZ.out.2.2.2.1] at y35
          have yf5 := hm3.fz 5
          have ht03 : Tn (fun q => two db mb q ∨ G q) w y3 := HZ.out.2.2.trans (tn_two ((Tn.ofBelow H2.out.1).trans ht3))
          have H3 := Lib.hid (And.intro hd3 (And.intro hm3 ht03))
          clear hd3 ht3 hm3 ht03
          refine hK.out _ _ kd3 (fun hH => ?_)
          clear hK K
          try simp only [Act.put, tkA, tkB, tkC]
          refine wpAnyK_last (by kernel_rfl) rfl (fun K hK => ?_) (by kernel_rfl)
          go_simp
          refine hK.out _ _ (wpAnyK_done (by kernel_rfl) ?_ _)
          clear hK K hH kd2 kd3 z0 z1 z3 z4 z5 zf5 z1d
          by_cases h9 : kd = 0
          · subst h9
            have HLY2 : Hid (L.append D r = (0, D9, { L1 with long := L1.long + (framed r).size, m := setL L1.m L1.op (rs ++ [r]) })) := by unfold Hid; rw [HLY.out.1]; rfl
            obtain ⟨W8, hW8⟩ : ∃ W8, y3.setCell ⟨lb, 5, none⟩ (.int .i64 (lz + (fs : Int))) = W8 := ⟨_, rfl⟩
            have hm8 := H3.out.2.1.longer (n := lz + (fs : Int)) ⟨by omega, by omega⟩
            rw [hW8] at hm8
            have t38 : Tn (fun q => q = lb) y3 W8 := by rw [← hW8]; exact Tn.setCell _ _ _ rfl
            have v0 := hm8.c0
            have v3 := hm8.c3
            have v4 := hm8.c4
            have lk8 : (Instr.lookup tSeg (.map (some mp)) (.int .i64 (oz : Int)) false).run Tryz.prog W8 = .ok (.slice xa xl xc) W8 := by
              have h5 := MapL.look hm8.mpl keyZ und_seg (zero_strs _) false (oz : Int)
              rw [HMZ.out.2.2.2] at h5
              rw [← HXL.out]
              exact h5
            rw [show ({ L1 with long := lz + (fs : Int) } : Lg).op = (oz : Int) from HKZ.out.1] at v4
            have H8 := Lib.hid (And.intro hm8 (And.intro t38 hW8))
            clear hm8 t38
            go_wp2
            have vd : W8.drew.cell? ⟨lb, 3, none⟩ = some (.map (some mp)) ∧ W8.drew.cell? ⟨lb, 4, none⟩ = some (.int .i64 (oz : Int)) ∧ (Instr.lookup tSeg (.map (some mp)) (.int .i64 (oz : Int)) false).run Tryz.prog W8.drew = .ok (.slice xa xl xc) W8.drew := by
              refine ⟨v3, v4, ?_⟩
              have h5 := MapL.look (MapL.below H8.out.1.mpl (Below.refl _ _).drew) keyZ und_seg (zero_strs _) false (oz : Int)
              rw [HMZ.out.2.2.2] at h5
              rw [← HXL.out]
              exact h5
            clear hW8
            refine wp_region_K (fun w' => w'.cell? ⟨lb, 3, none⟩ = some (.map (some mp)) ∧ w'.cell? ⟨lb, 4, none⟩ = some (.int .i64 (oz : Int)) ∧ (Instr.lookup tSeg (.map (some mp)) (.int .i64 (oz : Int)) false).run Tryz.prog w' = .ok (.slice xa xl xc) w') 21 22 (by kernel_rfl) (by kernel_rfl) vd (fun hH => ?_)
            refine tkK (i := 0) [21] rfl hH ?_
            try simp only [Act.put, tkA, tkB, tkC]
            refine tkK (i := 1) [21] rfl hH ?_
            try simp only [Act.put, tkA, tkB, tkC]
            refine tkK (i := 2) [21] rfl hH ?_
            try simp only [Act.put, tkA, tkB, tkC]
            refine tkK (i := 3) [21] rfl hH ?_
            try simp only [Act.put, tkA, tkB, tkC]
            refine tkK (i := 4) [21] rfl hH ?_
            try simp only [Act.put, tkA, tkB, tkC]
            refine tkK (i := 5) [21] rfl hH ?_
            try simp only [Act.put, tkA, tkB, tkC]
            refine tkK (i := 6) [21] rfl hH ?_
            try simp only [Act.put, tkA, tkB, tkC]
            refine tkK (i := 7) [21] rfl hH ?_
            try simp only [Act.put, tkA, tkB, tkC]
            refine tkK (i := 8) [21] rfl hH ?_
            try simp only [Act.put, tkA, tkB, tkC]
            refine tkK (i := 9) [21] rfl hH ?_
            try simp only [Act.put, tkA, tkB, tkC]
            refine tkK (i := 10) [21] rfl hH ?_
            try simp only [Act.put, tkA, tkB, tkC]
            refine tkK (i := 11) [21] rfl hH ?_
            try simp only [Act.put, tkA, tkB, tkC]
            refine tkK (i := 12) [21] rfl hH ?_
            try simp only [Act.put, tkA, tkB, tkC]
            refine tkK (i := 13) [21] rfl hH ?_
            try simp only [Act.put, tkA, tkB, tkC]
            refine tkK (i := 14) [21] rfl hH ?_
            try simp only [Act.put, tkA, tkB, tkC]
            refine tkK (i := 15) [21] rfl hH ?_
            try simp only [Act.put, tkA, tkB, tkC]
            refine tkK (i := 16) [21] rfl hH ?_
            try simp only [Act.put, tkA, tkB, tkC]
            refine tkK (i := 17) [21] rfl hH ?_
            try simp only [Act.put, tkA, tkB, tkC]
            refine wpAnyK_one (i := 18) (by kernel_rfl) rfl (fun K hK => ?_) (by kernel_rfl)
            go_simp
            go_at_call 20
            with_reducible refine (clone_any _ r hrs0).mono ?_
            rintro e y4 ⟨rfl, hb4⟩
            have hb84 := (Below.refl _ _).drew.trans hb4
            have lkb : ∀ y, Below W8.heap.size W8 y → (Instr.lookup tSeg (.map (some mp)) (.int .i64 (oz : Int)) false).run Tryz.prog y = .ok (.slice xa xl xc) y := fun y hy => by
              have h5 := MapL.look (MapL.below H8.out.1.mpl hy) keyZ und_seg (zero_strs _) false (oz : Int)
              rw [HMZ.out.2.2.2] at h5
              rw [← HXL.out]
              exact h5
            have hlb8 := World.block_lt_of_cell? _ _ v3
            have vd4 := And.intro ((hb84.cell (p := ⟨lb, 3, none⟩) hlb8).trans v3) (And.intro ((hb84.cell (p := ⟨lb, 4, none⟩) hlb8).trans v4) (lkb y4 hb84))
            have H4 := Lib.hid (And.intro hb84 lkb)
            clear hb4 hb84 lkb
            refine hK.out _ _ vd4 (fun hH => ?_)
            clear hK K
            try simp only [Act.put, tkA, tkB, tkC]
            refine wpAnyK_one (i := 19) (by kernel_rfl) rfl (fun K hK => ?_) (by kernel_rfl)
            go_simp
            obtain ⟨y5, hy5⟩ : ∃ y5, y5 = y4.alloc (.cells #[.string r] 9) := ⟨_, rfl⟩
            have hb85 : Below W8.heap.size W8 y5 := by rw [hy5]; exact H4.out.1.alloc H4.out.1.size _
            have hsrc : Src eStr y5 (.slice (some ⟨y4.heap.size, 0, none⟩) 1 1) [r] := by rw [hy5]; exact src_one y4 r _ _ rfl 1
            have hm5 := H8.out.1.tn (Tn.ofBelow (F := fun _ => False) hb85) (fun _ _ h => h)
            have vd5 := And.intro ((hb85.cell (p := ⟨lb, 3, none⟩) hlb8).trans v3) (And.intro ((hb85.cell (p := ⟨lb, 4, none⟩) hlb8).trans v4) (H4.out.2 y5 hb85))
            have hrow5 : Own eStr y5 0 (.slice xa xl xc) rs := by
              have h5 := hm5.rows ((oz : Int), (⟨xa, xc, rs⟩ : Sg)) (by simp)
              rw [← HXL.out]
              exact h5
            have H5 := Lib.hid (And.intro hm5 (And.intro hsrc (And.intro hrow5 hb85)))
            rw [← hy5]
            clear hb85 hsrc hm5 hrow5 hy5
            refine hK.out _ _ vd5 (fun hH => ?_)
            clear hK K
            try simp only [Act.put, tkA, tkB, tkC]
            refine wpAnyK_one (i := 20) (by kernel_rfl) rfl (fun K hK => ?_) (by kernel_rfl)
            refine step_app2 eStr rfl _ _ rfl rfl rfl H5.out.2.2.1 H5.out.2.1 (by have := HKZ.out.2.2.1; simp; omega) (Nat.zero_le _) ?_
            rw [HXL.out]
            intro a6 cap6 y6 hap'
            have hap : Appd eStr y5 y6 0 (.slice xa xl xc) (.slice a6 (xl + 1) cap6) rs [r] := hap'
            have hx5 : ∀ q, (Value.slice xa xl xc).ownBlock = some q → q ≠ lb ∧ q ≠ mp := fun q hq => H5.out.1.off ((oz : Int), (⟨xa, xc, rs⟩ : Sg)) (by simp) q (by show (Value.slice xa rs.length xc).ownBlock = some q; rw [HXL.out]; exact hq)
            have nb5 : ¬ (Value.slice xa xl xc).ownBlock = some lb := fun e => (hx5 lb e).1 rfl
            have hmp6 := MapL.tn H5.out.1.mpl hap.tn (fun e => (hx5 mp e).2 rfl)
            have lk6 : (Instr.lookup tSeg (.map (some mp)) (.int .i64 (oz : Int)) false).run Tryz.prog y6 = .ok (.slice xa xl xc) y6 := by
              have h5 := MapL.look hmp6 keyZ und_seg (zero_strs _) false (oz : Int)
              rw [HMZ.out.2.2.2] at h5
              rw [← HXL.out]
              exact h5
            have vd6 := And.intro (hap.tn.cell vd5.1 nb5) (And.intro (hap.tn.cell vd5.2.1 nb5) lk6)
            obtain ⟨y7, hrun, hm7, ht7, hz7⟩ := MapL.put hmp6 keyZ und_seg (oz : Int) (⟨a6, cap6, rs ++ [r]⟩ : Sg)
            have hrun' : (Instr.mapUpdate tSeg (.map (some mp)) (.int .i64 (oz : Int)) (.slice a6 (xl + 1) cap6)).run Tryz.prog y6 = .ok () y7 := by
              have : cvS (⟨a6, cap6, rs ++ [r]⟩ : Sg) = .slice a6 (xl + 1) cap6 := by
                show Value.slice a6 (rs ++ [r]).length cap6 = _
                rw [List.length_append, HXL.out]; rfl
              rw [this] at hrun
              exact hrun
            have H7 := Lib.hid (And.intro hap (And.intro hm7 ht7))
            clear hap hap' hmp6 lk6 hrun hm7 ht7 hz7
            refine hK.out _ _ vd6 (fun hH => ?_)
            clear hK K
            try simp only [Act.put, tkA, tkB, tkC]
            refine wpAnyK_last (by kernel_rfl) rfl (fun K hK => ?_) (by kernel_rfl)
            go_simp
            refine hK.out _ _ (wpAnyK_done (by kernel_rfl) ?_ _)
            clear hK K hH vd vd4 vd5 vd6 v0 v3 v4 lk8 hrun'
            go_wp2_with fail
            go_ret
            unfold Kept
            rw [HLY2.out]
            obtain ⟨hlm, tg, hmq⟩ := LoM.lay (G := G) (xa := xa) (xc := xc) (rs := rs) (r := r) (n' := xl + 1) (a' := a6) (c' := cap6) H5.out.1 HMZ.out.2.1 HMZ.out.2.2.1 (by rw [List.length_append, HXL.out]; rfl) (by rw [HXL.out]; exact H7.out.1) H7.out.2.1 H7.out.2.2 HKZ.out.2.2.1
            have t35 : Tn (fun q => q = lb) y3 y5 := H8.out.2.1.trans (Tn.ofBelow H5.out.2.2.2)
            have h35 : y3.heap.size ≤ y5.heap.size := t35.size
            have hw3 := H3.out.2.2.size
            have gfl : ∀ q, G q → F q ∧ ¬ two db mb q := HG.out
            have hd5 := H3.out.1.frame t35 (fun q _ e => by subst e; exact ⟨glz.1, fun e => glz.2 (.inl e), fun e => glz.2 (.inr e)⟩)
            have hmore : ∀ q, more G (.slice a6 (xl + 1) cap6) q → F q ∨ y5.heap.size ≤ q := fun q hq => (hmq q hq).imp (fun h => (gfl q h).1) id
            have hd7 : DkAt (fun q => F q ∨ more G (.slice a6 (xl + 1) cap6) q) y7 db mb D9 := hd5.widen (H := G) tg (fun q _ h => gfl q h) (fun q h => .inl h) (fun q h => h.elim .inl (hmore q)) (fun q h => h.elim (fun h => Nat.lt_of_lt_of_le (hd5.lt q h) tg.size) (hlm.lt q))
            refine ⟨rfl, more G (.slice a6 (xl + 1) cap6), _, hd7, ⟨A ++ ((oz : Int), ⟨a6, cap6, rs ++ [r]⟩) :: B, ?_⟩, fun q hq => ⟨.inr hq, fun h2 => ?_⟩, fun q h => .inl h, fun q h => ?_, fun q hq => ?_, ?_⟩
            · have e1 : ({ ({ L1 with long := lz + (fs : Int) } : Lg) with m := setL ({ L1 with long := lz + (fs : Int) } : Lg).m (oz : Int) (rs ++ [r]) } : Lg) = { L1 with long := L1.long + (framed r).size, m := setL L1.m L1.op (rs ++ [r]) } := by
                rw [HKZ.out.1, HKZ.out.2.2.2.1, HKZ.out.2.2.2.2.2.1, HKZ.out.2.2.2.2.2.2]
              rw [← e1]
              exact hlm
            · rcases hmq q hq with h | h
              · exact (gfl q h).2 h2
              · have := hd5.ltd
                have := hd5.m.lt
                rcases h2 with rfl | rfl <;> omega
            · rcases h with h | h
              · exact .inl h
              · exact (hmore q h).imp id (fun h => by omega)
            · exact (hmq q hq).imp id (fun h => by omega)
            · exact H3.out.2.2.trans (((t35.mono (fun q e => by subst e; exact .inr H5.out.1.gl))).trans (tg.mono (fun q h => .inr h)))
          · have t9 : (kd != 0) = true := by simpa using h9
            have HLY2 : Hid (L.append D r = (kd, D9, L1)) := by unfold Hid; rw [HLY.out.1, if_pos h9]
            clear h9 y35 yf5
            go_wp2
            go_ret
            rw [HLY2.out]
            exact Both.kept ⟨rfl, H3.out.1, ⟨_, H3.out.2.1⟩, H3.out.2.2⟩ HG.out
      · have d2 : decide (0 < lz) = false := by simp; omega
        have HFU : Hid (L1.full r = false) := by unfold Hid; rw [HO.out.2.2.2, d1, d2]; rfl
        go_wp2_with fail
        go_quiet (fail)
        obtain ⟨wq, hwq⟩ : ∃ wq, w2.drewN nq = wq := ⟨_, rfl⟩
        have hbq : Below w2.heap.size w2 wq := by rw [← hwq]; exact below_drewN (Below.refl _ _) nq
        have hl2 := H2.out.1.below hbq
        have hd2 := H2.out.2.1.below hbq
        have H2q := Lib.hid (And.intro hl2 (And.intro hd2 (H2.out.2.2.trans (Tn.ofBelow hbq))))
        rw [hwq]
        clear H2 hbq hl2 hd2 hwq c2 c4 c5
        have H2 := H2q
        obtain ⟨rs, hrsx⟩ := HL.out.2.2.1 (by rw [HO.out.2.2.1]; omega)
        have HNZ : Hid (oz < 4294967296) := by unfold Hid; have := HOP.out; omega
        have onz := on1
        have acz : D1.acts < 1000000 := by omega
        have hrl : rs.length + 1 ≤ 1000000 := HL.out.2.2.2.1 _ (getL_mem hrsx)
        have lz0 := hlg0.1
        have HKZ := Lib.hid (And.intro (show L1.op = (oz : Int) by rw [HA.out.2.2.2.2.2.1, HO.out.2.2.1]) (And.intro (show getL L1.m L1.op = some rs by rw [HA.out.2.2.2.2.1, HA.out.2.2.2.2.2.1]; exact hrsx) (And.intro hrl (And.intro (show L1.long = lz by rw [HA.out.2.2.2.2.2.2, HO.out.1]) (And.intro (show L1.dir = dir by rw [HA.out.2.2.1]; exact HL.out.2.2.2.2.1) (And.intro HL.out.2.2.2.2.2.1 HFS.out.1))))))
        have HZ := H2
        have HAP : Hid (L.append D r = L1.lay D1 r) := append_eq1 HL.out.2.2.2.2.2.2.1 HA.out.1 HFU.out (by rw [HA.out.2.2.2.2.2.1, HO.out.2.2.1]; omega)
        have t13 : ((oz : Int) == 0) = false := beq_eq_false_iff_ne.2 (by omega)
        clear hrsx hrl
        obtain ⟨msz, hmz⟩ := HZ.out.1
        obtain ⟨A, B, xa, xc, rfl, hA, hB, hgx⟩ := hmz.split HKZ.out.2.1
        rw [HKZ.out.1] at hmz hA hB hgx
        have z0 := hmz.c0
        have z1 := hmz.c1
        have z4 := hmz.c4
        have z5 := hmz.c5
        have z3 := hmz.c3
        have zf5 := hmz.fz 5
        rw [HKZ.out.1] at z4
        rw [HKZ.out.2.2.2.1] at z5
        rw [HKZ.out.2.2.2.2.1] at z1
        obtain ⟨d, hdd⟩ : ∃ d, D1.app (segN dir oz) fr = d := ⟨_, rfl⟩
        obtain ⟨kd, D9⟩ := d
        have hlay := lay_eq (L := L1) (D := D1) (r := r) (k := kd) (D2 := D9) (nz := oz) HKZ.out.1 (by rw [HKZ.out.2.2.2.2.1, HKZ.out.2.2.2.2.2.1]; exact hdd) HKZ.out.2.1
        rw [← HAP.out] at hlay
        have HLY := Lib.hid (And.intro hlay hdd)
        have HMZ := Lib.hid (And.intro hmz (And.intro hA (And.intro hB hgx)))
        obtain ⟨xl, hxl⟩ : ∃ xl, rs.length = xl := ⟨_, rfl⟩
        have HXL := Lib.hid hxl
        have glz := HG.out lb hmz.gl
        have gmz := HG.out mp hmz.gm
        clear hlay hdd hmz hA hB hgx hxl
        go_wp2_with fail
        refine wp_region_K (fun w' => w'.cell? ⟨lb, 0, none⟩ = some (.pointer (some ⟨db, 0, none⟩)) ∧ w'.cell? ⟨lb, 4, none⟩ = some (.int .i64 (oz : Int))) 12 13 (by kernel_rfl) (by kernel_rfl) ⟨z0, z4⟩ (fun hH => ?_)
        refine tkK (i := 0) [12] rfl hH ?_
        try simp only [Act.put, tkA, tkB, tkC]
        refine tkK (i := 1) [12] rfl hH ?_
        try simp only [Act.put, tkA, tkB, tkC]
        refine tkK (i := 2) [12] rfl hH ?_
        try simp only [Act.put, tkA, tkB, tkC]
        refine tkK (i := 3) [12] rfl hH ?_
        try simp only [Act.put, tkA, tkB, tkC]
        refine tkK (i := 4) [12] rfl hH ?_
        try simp only [Act.put, tkA, tkB, tkC]
        refine tkK (i := 5) [12] rfl hH ?_
        try simp only [Act.put, tkA, tkB, tkC]
        refine tkK (i := 6) [12] rfl hH ?_
        try simp only [Act.put, tkA, tkB, tkC]
        refine tkK (i := 7) [12] rfl hH ?_
        try simp only [Act.put, tkA, tkB, tkC]
        refine tkK (i := 8) [12] rfl hH ?_
        try simp only [Act.put, tkA, tkB, tkC]
        refine tkK (i := 10) [12] rfl hH ?_
        try simp only [Act.put, tkA, tkB, tkC]
        refine wpAnyK_one (i := 9) (by kernel_rfl) rfl (fun K hK => ?_) (by kernel_rfl)
        go_simp
        go_at_call 67
        have z1d : wq.drew.cell? ⟨lb, 1, none⟩ = some (.string dir) := z1
        with_reducible refine (w_name (lb := lb) hd40 oz HNZ.out z1d).mono ?_
        rintro e y2 ⟨rfl, hb2⟩
        have hb02 := (Below.refl _ _).drew.trans hb2
        have kd2 := And.intro ((hb2.cell (p := ⟨lb, 0, none⟩) (World.block_lt_of_cell? _ _ z0)).trans z0) ((hb2.cell (p := ⟨lb, 4, none⟩) (World.block_lt_of_cell? _ _ z4)).trans z4)
        have hd2 := HZ.out.2.1.below hb02
        have hm2 := HMZ.out.1.tn (Tn.ofBelow (F := fun _ => False) hb02) (fun _ _ h => h)
        have H2 := Lib.hid (And.intro hb02 (And.intro hd2 hm2))
        obtain ⟨sg, hsg⟩ : ∃ sg, segN dir oz = sg := ⟨_, rfl⟩
        have hszg : sg.size ≤ 140737488351232 := by rw [← hsg, ba_size, segN_list, List.length_append, List.length_append, hexF_len, ← ba_size]; simp; omega
        have HSG := Lib.hid hsg
        rw [hsg]
        clear hb2 hb02 hd2 hm2 hsg
        refine hK.out _ _ kd2 (fun hH => ?_)
        clear hK K
        try simp only [Act.put, tkA, tkB, tkC]
        refine wpAnyK_one (i := 11) (by kernel_rfl) rfl (fun K hK => ?_) (by kernel_rfl)
        go_simp
        go_at_call 72
        with_reducible refine (append_any H2.out.2.1 onz acz sg fr hszg hfrs).mono ?_
        rw [← HSG.out, HLY.out.2]
        rintro e y3 ⟨rfl, hd3, ht3⟩
        simp only at hd3
        have kd3 := And.intro (ht3.cell kd2.1 glz.2) (ht3.cell kd2.2 glz.2)
        have hm3 := H2.out.2.2.tn ht3 (fun q hq h => (HG.out q hq).2 h)
        have y35 := hm3.c5
        rw [HKZ.out.2.2.2.1] at y35
        have yf5 := hm3.fz 5
        have ht03 : Tn (fun q => two db mb q ∨ G q) w y3 := HZ.out.2.2.trans (tn_two ((Tn.ofBelow H2.out.1).trans ht3))
        have H3 := Lib.hid (And.intro hd3 (And.intro hm3 ht03))
        clear hd3 ht3 hm3 ht03
        refine hK.out _ _ kd3 (fun hH => ?_)
        clear hK K
        try simp only [Act.put, tkA, tkB, tkC]
        refine wpAnyK_last (by kernel_rfl) rfl (fun K hK => ?_) (by kernel_rfl)
        go_simp
        refine hK.out _ _ (wpAnyK_done (by kernel_rfl) ?_ _)
        clear hK K hH kd2 kd3 z0 z1 z3 z4 z5 zf5 z1d
        by_cases h9 : kd = 0
        · subst h9
          have HLY2 : Hid (L.append D r = (0, D9, { L1 with long := L1.long + (framed r).size, m := setL L1.m L1.op (rs ++ [r]) })) := by unfold Hid; rw [HLY.out.1]; rfl
          obtain ⟨W8, hW8⟩ : ∃ W8, y3.setCell ⟨lb, 5, none⟩ (.int .i64 (lz + (fs : Int))) = W8 := ⟨_, rfl⟩
          have hm8 := H3.out.2.1.longer (n := lz + (fs : Int)) ⟨by omega, by omega⟩
          rw [hW8] at hm8
          have t38 : Tn (fun q => q = lb) y3 W8 := by rw [← hW8]; exact Tn.setCell _ _ _ rfl
          have v0 := hm8.c0
          have v3 := hm8.c3
          have v4 := hm8.c4
          have lk8 : (Instr.lookup tSeg (.map (some mp)) (.int .i64 (oz : Int)) false).run Tryz.prog W8 = .ok (.slice xa xl xc) W8 := by
            have h5 := MapL.look hm8.mpl keyZ und_seg (zero_strs _) false (oz : Int)
            rw [HMZ.out.2.2.2] at h5
            rw [← HXL.out]
            exact h5
          rw [show ({ L1 with long := lz + (fs : Int) } : Lg).op = (oz : Int) from HKZ.out.1] at v4
          have H8 := Lib.hid (And.intro hm8 (And.intro t38 hW8))
          clear hm8 t38
          go_wp2
          have vd : W8.drew.cell? ⟨lb, 3, none⟩ = some (.map (some mp)) ∧ W8.drew.cell? ⟨lb, 4, none⟩ = some (.int .i64 (oz : Int)) ∧ (Instr.lookup tSeg (.map (some mp)) (.int .i64 (oz : Int)) false).run Tryz.prog W8.drew = .ok (.slice xa xl xc) W8.drew := by
            refine ⟨v3, v4, ?_⟩
            have h5 := MapL.look (MapL.below H8.out.1.mpl (Below.refl _ _).drew) keyZ und_seg (zero_strs _) false (oz : Int)
            rw [HMZ.out.2.2.2] at h5
            rw [← HXL.out]
            exact h5
          clear hW8
          refine wp_region_K (fun w' => w'.cell? ⟨lb, 3, none⟩ = some (.map (some mp)) ∧ w'.cell? ⟨lb, 4, none⟩ = some (.int .i64 (oz : Int)) ∧ (Instr.lookup tSeg (.map (some mp)) (.int .i64 (oz : Int)) false).run Tryz.prog w' = .ok (.slice xa xl xc) w') 21 22 (by kernel_rfl) (by kernel_rfl) vd (fun hH => ?_)
          refine tkK (i := 0) [21] rfl hH ?_
          try simp only [Act.put, tkA, tkB, tkC]
          refine tkK (i := 1) [21] rfl hH ?_
          try simp only [Act.put, tkA, tkB, tkC]
          refine tkK (i := 2) [21] rfl hH ?_
          try simp only [Act.put, tkA, tkB, tkC]
          refine tkK (i := 3) [21] rfl hH ?_
          try simp only [Act.put, tkA, tkB, tkC]
          refine tkK (i := 4) [21] rfl hH ?_
          try simp only [Act.put, tkA, tkB, tkC]
          refine tkK (i := 5) [21] rfl hH ?_
          try simp only [Act.put, tkA, tkB, tkC]
          refine tkK (i := 6) [21] rfl hH ?_
          try simp only [Act.put, tkA, tkB, tkC]
          refine tkK (i := 7) [21] rfl hH ?_
          try simp only [Act.put, tkA, tkB, tkC]
          refine tkK (i := 8) [21] rfl hH ?_
          try simp only [Act.put, tkA, tkB, tkC]
          refine tkK (i := 9) [21] rfl hH ?_
          try simp only [Act.put, tkA, tkB, tkC]
          refine tkK (i := 10) [21] rfl hH ?_
          try simp only [Act.put, tkA, tkB, tkC]
          refine tkK (i := 11) [21] rfl hH ?_
          try simp only [Act.put, tkA, tkB, tkC]
          refine tkK (i := 12) [21] rfl hH ?_
          try simp only [Act.put, tkA, tkB, tkC]
          refine tkK (i := 13) [21] rfl hH ?_
          try simp only [Act.put, tkA, tkB, tkC]
          refine tkK (i := 14) [21] rfl hH ?_
          try simp only [Act.put, tkA, tkB, tkC]
          refine tkK (i := 15) [21] rfl hH ?_
          try simp only [Act.put, tkA, tkB, tkC]
          refine tkK (i := 16) [21] rfl hH ?_
          try simp only [Act.put, tkA, tkB, tkC]
          refine tkK (i := 17) [21] rfl hH ?_
          try simp only [Act.put, tkA, tkB, tkC]
          refine wpAnyK_one (i := 18) (by kernel_rfl) rfl (fun K hK => ?_) (by kernel_rfl)
          go_simp
          go_at_call 20
          with_reducible refine (clone_any _ r hrs0).mono ?_
          rintro e y4 ⟨rfl, hb4⟩
          have hb84 := (Below.refl _ _).drew.trans hb4
          have lkb : ∀ y, Below W8.heap.size W8 y → (Instr.lookup tSeg (.map (some mp)) (.int .i64 (oz : Int)) false).run Tryz.prog y = .ok (.slice xa xl xc) y := fun y hy => by
            have h5 := MapL.look (MapL.below H8.out.1.mpl hy) keyZ und_seg (zero_strs _) false (oz : Int)
            rw [HMZ.out.2.2.2] at h5
            rw [← HXL.out]
            exact h5
          have hlb8 := World.block_lt_of_cell? _ _ v3
          have vd4 := And.intro ((hb84.cell (p := ⟨lb, 3, none⟩) hlb8).trans v3) (And.intro ((hb84.cell (p := ⟨lb, 4, none⟩) hlb8).trans v4) (lkb y4 hb84))
          have H4 := Lib.hid (And.intro hb84 lkb)
          clear hb4 hb84 lkb
          refine hK.out _ _ vd4 (fun hH => ?_)
          clear hK K
          try simp only [Act.put, tkA, tkB, tkC]
          refine wpAnyK_one (i := 19) (by kernel_rfl) rfl (fun K hK => ?_) (by kernel_rfl)
          go_simp
          obtain ⟨y5, hy5⟩ : ∃ y5, y5 = y4.alloc (.cells #[.string r] 9) := ⟨_, rfl⟩
          have hb85 : Below W8.heap.size W8 y5 := by rw [hy5]; exact H4.out.1.alloc H4.out.1.size _
          have hsrc : Src eStr y5 (.slice (some ⟨y4.heap.size, 0, none⟩) 1 1) [r] := by rw [hy5]; exact src_one y4 r _ _ rfl 1
          have hm5 := H8.out.1.tn (Tn.ofBelow (F := fun _ => False) hb85) (fun _ _ h => h)
          have vd5 := And.intro ((hb85.cell (p := ⟨lb, 3, none⟩) hlb8).trans v3) (And.intro ((hb85.cell (p := ⟨lb, 4, none⟩) hlb8).trans v4) (H4.out.2 y5 hb85))
          have hrow5 : Own eStr y5 0 (.slice xa xl xc) rs := by
            have h5 := hm5.rows ((oz : Int), (⟨xa, xc, rs⟩ : Sg)) (by simp)
            rw [← HXL.out]
            exact h5
          have H5 := Lib.hid (And.intro hm5 (And.intro hsrc (And.intro hrow5 hb85)))
          rw [← hy5]
          clear hb85 hsrc hm5 hrow5 hy5
          refine hK.out _ _ vd5 (fun hH => ?_)
          clear hK K
          try simp only [Act.put, tkA, tkB, tkC]
          refine wpAnyK_one (i := 20) (by kernel_rfl) rfl (fun K hK => ?_) (by kernel_rfl)
          refine step_app2 eStr rfl _ _ rfl rfl rfl H5.out.2.2.1 H5.out.2.1 (by have := HKZ.out.2.2.1; simp; omega) (Nat.zero_le _) ?_
          rw [HXL.out]
          intro a6 cap6 y6 hap'
          have hap : Appd eStr y5 y6 0 (.slice xa xl xc) (.slice a6 (xl + 1) cap6) rs [r] := hap'
          have hx5 : ∀ q, (Value.slice xa xl xc).ownBlock = some q → q ≠ lb ∧ q ≠ mp := fun q hq => H5.out.1.off ((oz : Int), (⟨xa, xc, rs⟩ : Sg)) (by simp) q (by show (Value.slice xa rs.length xc).ownBlock = some q; rw [HXL.out]; exact hq)
          have nb5 : ¬ (Value.slice xa xl xc).ownBlock = some lb := fun e => (hx5 lb e).1 rfl
          have hmp6 := MapL.tn H5.out.1.mpl hap.tn (fun e => (hx5 mp e).2 rfl)
          have lk6 : (Instr.lookup tSeg (.map (some mp)) (.int .i64 (oz : Int)) false).run Tryz.prog y6 = .ok (.slice xa xl xc) y6 := by
            have h5 := MapL.look hmp6 keyZ und_seg (zero_strs _) false (oz : Int)
            rw [HMZ.out.2.2.2] at h5
            rw [← HXL.out]
            exact h5
          have vd6 := And.intro (hap.tn.cell vd5.1 nb5) (And.intro (hap.tn.cell vd5.2.1 nb5) lk6)
          obtain ⟨y7, hrun, hm7, ht7, hz7⟩ := MapL.put hmp6 keyZ und_seg (oz : Int) (⟨a6, cap6, rs ++ [r]⟩ : Sg)
          have hrun' : (Instr.mapUpdate tSeg (.map (some mp)) (.int .i64 (oz : Int)) (.slice a6 (xl + 1) cap6)).run Tryz.prog y6 = .ok () y7 := by
            have : cvS (⟨a6, cap6, rs ++ [r]⟩ : Sg) = .slice a6 (xl + 1) cap6 := by
              show Value.slice a6 (rs ++ [r]).length cap6 = _
              rw [List.length_append, HXL.out]; rfl
            rw [this] at hrun
            exact hrun
          have H7 := Lib.hid (And.intro hap (And.intro hm7 ht7))
          clear hap hap' hmp6 lk6 hrun hm7 ht7 hz7
          refine hK.out _ _ vd6 (fun hH => ?_)
          clear hK K
          try simp only [Act.put, tkA, tkB, tkC]
          refine wpAnyK_last (by kernel_rfl) rfl (fun K hK => ?_) (by kernel_rfl)
          go_simp
          refine hK.out _ _ (wpAnyK_done (by kernel_rfl) ?_ _)
          clear hK K hH vd vd4 vd5 vd6 v0 v3 v4 lk8 hrun'
          go_wp2_with fail
          go_ret
          unfold Kept
          rw [HLY2.out]
          obtain ⟨hlm, tg, hmq⟩ := LoM.lay (G := G) (xa := xa) (xc := xc) (rs := rs) (r := r) (n' := xl + 1) (a' := a6) (c' := cap6) H5.out.1 HMZ.out.2.1 HMZ.out.2.2.1 (by rw [List.length_append, HXL.out]; rfl) (by rw [HXL.out]; exact H7.out.1) H7.out.2.1 H7.out.2.2 HKZ.out.2.2.1
          have t35 : Tn (fun q => q = lb) y3 y5 := H8.out.2.1.trans (Tn.ofBelow H5.out.2.2.2)
          have h35 : y3.heap.size ≤ y5.heap.size := t35.size
          have hw3 := H3.out.2.2.size
          have gfl : ∀ q, G q → F q ∧ ¬ two db mb q := HG.out
          have hd5 := H3.out.1.frame t35 (fun q _ e => by subst e; exact ⟨glz.1, fun e => glz.2 (.inl e), fun e => glz.2 (.inr e)⟩)
          have hmore : ∀ q, more G (.slice a6 (xl + 1) cap6) q → F q ∨ y5.heap.size ≤ q := fun q hq => (hmq q hq).imp (fun h => (gfl q h).1) id
          have hd7 : DkAt (fun q => F q ∨ more G (.slice a6 (xl + 1) cap6) q) y7 db mb D9 := hd5.widen (H := G) tg (fun q _ h => gfl q h) (fun q h => .inl h) (fun q h => h.elim .inl (hmore q)) (fun q h => h.elim (fun h => Nat.lt_of_lt_of_le (hd5.lt q h) tg.size) (hlm.lt q))
          refine ⟨rfl, more G (.slice a6 (xl + 1) cap6), _, hd7, ⟨A ++ ((oz : Int), ⟨a6, cap6, rs ++ [r]⟩) :: B, ?_⟩, fun q hq => ⟨.inr hq, fun h2 => ?_⟩, fun q h => .inl h, fun q h => ?_, fun q hq => ?_, ?_⟩
          · have e1 : ({ ({ L1 with long := lz + (fs : Int) } : Lg) with m := setL ({ L1 with long := lz + (fs : Int) } : Lg).m (oz : Int) (rs ++ [r]) } : Lg) = { L1 with long := L1.long + (framed r).size, m := setL L1.m L1.op (rs ++ [r]) } := by
              rw [HKZ.out.1, HKZ.out.2.2.2.1, HKZ.out.2.2.2.2.2.1, HKZ.out.2.2.2.2.2.2]
            rw [← e1]
            exact hlm
          · rcases hmq q hq with h | h
            · exact (gfl q h).2 h2
            · have := hd5.ltd
              have := hd5.m.lt
              rcases h2 with rfl | rfl <;> omega
          · rcases h with h | h
            · exact .inl h
            · exact (hmore q h).imp id (fun h => by omega)
          · exact (hmq q hq).imp id (fun h => by omega)
          · exact H3.out.2.2.trans (((t35.mono (fun q e => by subst e; exact .inr H5.out.1.gl))).trans (tg.mono (fun q h => .inr h)))
        · have t9 : (kd != 0) = true := by simpa using h9
          have HLY2 : Hid (L.append D r = (kd, D9, L1)) := by unfold Hid; rw [HLY.out.1, if_pos h9]
          clear h9 y35 yf5
          go_wp2
          go_ret
          rw [HLY2.out]
          exact Both.kept ⟨rfl, H3.out.1, ⟨_, H3.out.2.1⟩, H3.out.2.2⟩ HG.out
    · have d1 : decide (0 < (oz : Int)) = false := by simp; omega
      have HFU : Hid (L1.full r = false) := by unfold Hid; rw [HO.out.2.2.2, d1]; rfl
      have hoz0 : oz = 0 := by omega
      go_wp2_with fail
      go_quiet (fail)
      obtain ⟨wq, hwq⟩ : ∃ wq, w2.drewN nq = wq := ⟨_, rfl⟩
      have hbq : Below w2.heap.size w2 wq := by rw [← hwq]; exact below_drewN (Below.refl _ _) nq
      have hl2 := H2.out.1.below hbq
      have hd2 := H2.out.2.1.below hbq
      have H3x := Lib.hid (And.intro hl2 (And.intro hd2 (H2.out.2.2.trans (Tn.ofBelow hbq))))
      have c4z : wq.cell? ⟨lb, 4, none⟩ = some (.int .i64 0) := by
        obtain ⟨msx, hmx⟩ := hl2
        have := hmx.c4
        rw [HA.out.2.2.2.2.2.1, HO.out.2.2.1, hoz0] at this
        exact this
      have HO1 : Hid (L1.op = 0) := by unfold Hid; rw [HA.out.2.2.2.2.2.1, HO.out.2.2.1, hoz0]; rfl
      have LST : Hid (L1.last = (n : Int) ∧ L1.m.length < 20000) := by
        refine ⟨?_, ?_⟩
        · unfold Lg.last; rw [HA.out.2.2.2.2.1]; exact HL.out.1
        · rw [HA.out.2.2.2.2.1]; exact HL.out.2.1
      have LDR : Hid (L1.dir = dir) := by unfold Hid; rw [HA.out.2.2.1]; exact HL.out.2.2.2.2.1
      have onb := on1
      rw [hwq]
      clear hbq hl2 hd2 hwq c2 c4 c5 hoz0
      obtain ⟨bg, hbg⟩ : ∃ bg, L1.begin_ D1 = bg := ⟨_, rfl⟩
      have hbok := begin_ok (L := L1) (D := D1) onb
      have hbw := w_begin H3x.out.1 H3x.out.2.1 HG.out onb (by omega) HN.out LST.out.1 LST.out.2
      rw [hbg] at hbw hbok
      obtain ⟨kb, D4, L4⟩ := bg
      simp only at hbok
      have HBW := Lib.hid hbw
      have HBG := Lib.hid (And.intro hbg hbok)
      clear hbw hbg hbok
      go_wp2_with fail
      refine HBW.out.mono ?_
      rintro e w4 ⟨rfl, hd4, hl4, ht4⟩
      simp only at hd4 hl4
      have ht04 : Tn (fun q => two db mb q ∨ G q) w w4 := H3x.out.2.2.trans ht4
      have HZ := Lib.hid (And.intro hl4 (And.intro hd4 ht04))
      clear hd4 hl4 ht4 ht04
      by_cases hb0 : kb = 0
      · subst hb0
        obtain ⟨hL4, onz, acz0, hmx⟩ := HBG.out.2 rfl
        have HAP : Hid (L.append D r = L4.lay D4 r) := by
          unfold Hid
          rw [append_eq2 HL.out.2.2.2.2.2.2.1 HA.out.1 HFU.out HO1.out HBG.out.1]
          rfl
        obtain ⟨nz, hnz⟩ : ∃ nz : Nat, nz = n + 1 := ⟨_, rfl⟩
        have HNZ : Hid (nz < 4294967296) := by unfold Hid; rw [LST.out.1] at hmx; omega
        obtain ⟨rs, hrsx⟩ : ∃ rs : List ByteArray, rs = [] := ⟨_, rfl⟩
        obtain ⟨lz2, hlz2⟩ : ∃ lz2 : Int, lz2 = 0 := ⟨_, rfl⟩
        have lz0 : 0 ≤ lz2 := by omega
        have lz1 : lz2 ≤ 900000 := by omega
        have acz : D4.acts < 1000000 := by omega
        have o4 : L4.op = (nz : Int) := by rw [hL4]; show L1.last + 1 = _; rw [LST.out.1, hnz]; rfl
        have hne4 : ∀ p ∈ L1.m, p.1 ≠ L1.last + 1 := by
          obtain ⟨msx, hmx2⟩ := H3x.out.1
          intro p hp e
          have := last_most hmx2.ok p hp
          omega
        have g4 : getL L4.m L4.op = some rs := by
          rw [hL4]
          show getL (setL L1.m (L1.last + 1) []) (L1.last + 1) = some rs
          rw [setL_new' hne4, getL_app_right hne4, getL_one, hrsx]
        have HKZ := Lib.hid (And.intro o4 (And.intro g4 (And.intro (show rs.length + 1 ≤ 1000000 by rw [hrsx]; decide) (And.intro (show L4.long = lz2 by rw [hL4, hlz2]) (And.intro (show L4.dir = dir by rw [hL4]; exact LDR.out) (And.intro HL.out.2.2.2.2.2.1 HFS.out.1))))))
        clear hL4 o4 g4 hne4 hmx hnz hrsx hlz2 c4z
        obtain ⟨msz, hmz⟩ := HZ.out.1
        obtain ⟨A, B, xa, xc, rfl, hA, hB, hgx⟩ := hmz.split HKZ.out.2.1
        rw [HKZ.out.1] at hmz hA hB hgx
        have z0 := hmz.c0
        have z1 := hmz.c1
        have z4 := hmz.c4
        have z5 := hmz.c5
        have z3 := hmz.c3
        have zf5 := hmz.fz 5
        rw [HKZ.out.1] at z4
        rw [HKZ.out.2.2.2.1] at z5
        rw [HKZ.out.2.2.2.2.1] at z1
        obtain ⟨d, hdd⟩ : ∃ d, D4.app (segN dir nz) fr = d := ⟨_, rfl⟩
        obtain ⟨kd, D9⟩ := d
        have hlay := lay_eq (L := L4) (D := D4) (r := r) (k := kd) (D2 := D9) (nz := nz) HKZ.out.1 (by rw [HKZ.out.2.2.2.2.1, HKZ.out.2.2.2.2.2.1]; exact hdd) HKZ.out.2.1
        rw [← HAP.out] at hlay
        have HLY := Lib.hid (And.intro hlay hdd)
        have HMZ := Lib.hid (And.intro hmz (And.intro hA (And.intro hB hgx)))
        obtain ⟨xl, hxl⟩ : ∃ xl, rs.length = xl := ⟨_, rfl⟩
        have HXL := Lib.hid hxl
        have glz := HG.out lb hmz.gl
        have gmz := HG.out mp hmz.gm
        clear hlay hdd hmz hA hB hgx hxl
        go_wp2_with fail
        refine wp_region_K (fun w' => w'.cell? ⟨lb, 0, none⟩ = some (.pointer (some ⟨db, 0, none⟩)) ∧ w'.cell? ⟨lb, 4, none⟩ = some (.int .i64 (nz : Int))) 12 13 (by kernel_rfl) (by kernel_rfl) ⟨z0, z4⟩ (fun hH => ?_)
        refine tkK (i := 0) [12] rfl hH ?_
        try simp only [Act.put, tkA, tkB, tkC]
        refine tkK (i := 1) [12] rfl hH ?_
        try simp only [Act.put, tkA, tkB, tkC]
        refine tkK (i := 2) [12] rfl hH ?_
        try simp only [Act.put, tkA, tkB, tkC]
        refine tkK (i := 3) [12] rfl hH ?_
        try simp only [Act.put, tkA, tkB, tkC]
        refine tkK (i := 4) [12] rfl hH ?_
        try simp only [Act.put, tkA, tkB, tkC]
        refine tkK (i := 5) [12] rfl hH ?_
        try simp only [Act.put, tkA, tkB, tkC]
        refine tkK (i := 6) [12] rfl hH ?_
        try simp only [Act.put, tkA, tkB, tkC]
        refine tkK (i := 7) [12] rfl hH ?_
        try simp only [Act.put, tkA, tkB, tkC]
        refine tkK (i := 8) [12] rfl hH ?_
        try simp only [Act.put, tkA, tkB, tkC]
        refine tkK (i := 10) [12] rfl hH ?_
        try simp only [Act.put, tkA, tkB, tkC]
        refine wpAnyK_one (i := 9) (by kernel_rfl) rfl (fun K hK => ?_) (by kernel_rfl)
        go_simp
        go_at_call 67
        have z1d : w4.drew.cell? ⟨lb, 1, none⟩ = some (.string dir) := z1
        with_reducible refine (w_name (lb := lb) hd40 nz HNZ.out z1d).mono ?_
        rintro e y2 ⟨rfl, hb2⟩
        have hb02 := (Below.refl _ _).drew.trans hb2
        have kd2 := And.intro ((hb2.cell (p := ⟨lb, 0, none⟩) (World.block_lt_of_cell? _ _ z0)).trans z0) ((hb2.cell (p := ⟨lb, 4, none⟩) (World.block_lt_of_cell? _ _ z4)).trans z4)
        have hd2 := HZ.out.2.1.below hb02
        have hm2 := HMZ.out.1.tn (Tn.ofBelow (F := fun _ => False) hb02) (fun _ _ h => h)
        have H2 := Lib.hid (And.intro hb02 (And.intro hd2 hm2))
        obtain ⟨sg, hsg⟩ : ∃ sg, segN dir nz = sg := ⟨_, rfl⟩
        have hszg : sg.size ≤ 140737488351232 := by rw [← hsg, ba_size, segN_list, List.length_append, List.length_append, hexF_len, ← ba_size]; simp; omega
        have HSG := Lib.hid hsg
        rw [hsg]
        clear hb2 hb02 hd2 hm2 hsg
        refine hK.out _ _ kd2 (fun hH => ?_)
        clear hK K
        try simp only [Act.put, tkA, tkB, tkC]
        refine wpAnyK_one (i := 11) (by kernel_rfl) rfl (fun K hK => ?_) (by kernel_rfl)
        go_simp
        go_at_call 72
        with_reducible refine (append_any H2.out.2.1 onz acz sg fr hszg hfrs).mono ?_
        rw [← HSG.out, HLY.out.2]
        rintro e y3 ⟨rfl, hd3, ht3⟩
        simp only at hd3
        have kd3 := And.intro (ht3.cell kd2.1 glz.2) (ht3.cell kd2.2 glz.2)
        have hm3 := H2.out.2.2.tn ht3 (fun q hq h => (HG.out q hq).2 h)
        have y35 := hm3.c5
        rw [HKZ.out.2.2.2.1] at y35
        have yf5 := hm3.fz 5
        have ht03 : Tn (fun q => two db mb q ∨ G q) w y3 := HZ.out.2.2.trans (tn_two ((Tn.ofBelow H2.out.1).trans ht3))
        have H3 := Lib.hid (And.intro hd3 (And.intro hm3 ht03))
        clear hd3 ht3 hm3 ht03
        refine hK.out _ _ kd3 (fun hH => ?_)
        clear hK K
        try simp only [Act.put, tkA, tkB, tkC]
        refine wpAnyK_last (by kernel_rfl) rfl (fun K hK => ?_) (by kernel_rfl)
        go_simp
        refine hK.out _ _ (wpAnyK_done (by kernel_rfl) ?_ _)
        clear hK K hH kd2 kd3 z0 z1 z3 z4 z5 zf5 z1d
        by_cases h9 : kd = 0
        · subst h9
          have HLY2 : Hid (L.append D r = (0, D9, { L4 with long := L4.long + (framed r).size, m := setL L4.m L4.op (rs ++ [r]) })) := by unfold Hid; rw [HLY.out.1]; rfl
          obtain ⟨W8, hW8⟩ : ∃ W8, y3.setCell ⟨lb, 5, none⟩ (.int .i64 (lz2 + (fs : Int))) = W8 := ⟨_, rfl⟩
          have hm8 := H3.out.2.1.longer (n := lz2 + (fs : Int)) ⟨by omega, by omega⟩
          rw [hW8] at hm8
          have t38 : Tn (fun q => q = lb) y3 W8 := by rw [← hW8]; exact Tn.setCell _ _ _ rfl
          have v0 := hm8.c0
          have v3 := hm8.c3
          have v4 := hm8.c4
          have lk8 : (Instr.lookup tSeg (.map (some mp)) (.int .i64 (nz : Int)) false).run Tryz.prog W8 = .ok (.slice xa xl xc) W8 := by
            have h5 := MapL.look hm8.mpl keyZ und_seg (zero_strs _) false (nz : Int)
            rw [HMZ.out.2.2.2] at h5
            rw [← HXL.out]
            exact h5
          rw [show ({ L4 with long := lz2 + (fs : Int) } : Lg).op = (nz : Int) from HKZ.out.1] at v4
          have H8 := Lib.hid (And.intro hm8 (And.intro t38 hW8))
          clear hm8 t38
          go_wp2
          have vd : W8.drew.cell? ⟨lb, 3, none⟩ = some (.map (some mp)) ∧ W8.drew.cell? ⟨lb, 4, none⟩ = some (.int .i64 (nz : Int)) ∧ (Instr.lookup tSeg (.map (some mp)) (.int .i64 (nz : Int)) false).run Tryz.prog W8.drew = .ok (.slice xa xl xc) W8.drew := by
            refine ⟨v3, v4, ?_⟩
            have h5 := MapL.look (MapL.below H8.out.1.mpl (Below.refl _ _).drew) keyZ und_seg (zero_strs _) false (nz : Int)
            rw [HMZ.out.2.2.2] at h5
            rw [← HXL.out]
            exact h5
          clear hW8
          refine wp_region_K (fun w' => w'.cell? ⟨lb, 3, none⟩ = some (.map (some mp)) ∧ w'.cell? ⟨lb, 4, none⟩ = some (.int .i64 (nz : Int)) ∧ (Instr.lookup tSeg (.map (some mp)) (.int .i64 (nz : Int)) false).run Tryz.prog w' = .ok (.slice xa xl xc) w') 21 22 (by kernel_rfl) (by kernel_rfl) vd (fun hH => ?_)
          refine tkK (i := 0) [21] rfl hH ?_
          try simp only [Act.put, tkA, tkB, tkC]
          refine tkK (i := 1) [21] rfl hH ?_
          try simp only [Act.put, tkA, tkB, tkC]
          refine tkK (i := 2) [21] rfl hH ?_
          try simp only [Act.put, tkA, tkB, tkC]
          refine tkK (i := 3) [21] rfl hH ?_
          try simp only [Act.put, tkA, tkB, tkC]
          refine tkK (i := 4) [21] rfl hH ?_
          try simp only [Act.put, tkA, tkB, tkC]
          refine tkK (i := 5) [21] rfl hH ?_
          try simp only [Act.put, tkA, tkB, tkC]
          refine tkK (i := 6) [21] rfl hH ?_
          try simp only [Act.put, tkA, tkB, tkC]
          refine tkK (i := 7) [21] rfl hH ?_
          try simp only [Act.put, tkA, tkB, tkC]
          refine tkK (i := 8) [21] rfl hH ?_
          try simp only [Act.put, tkA, tkB, tkC]
          refine tkK (i := 9) [21] rfl hH ?_
          try simp only [Act.put, tkA, tkB, tkC]
          refine tkK (i := 10) [21] rfl hH ?_
          try simp only [Act.put, tkA, tkB, tkC]
          refine tkK (i := 11) [21] rfl hH ?_
          try simp only [Act.put, tkA, tkB, tkC]
          refine tkK (i := 12) [21] rfl hH ?_
          try simp only [Act.put, tkA, tkB, tkC]
          refine tkK (i := 13) [21] rfl hH ?_
          try simp only [Act.put, tkA, tkB, tkC]
          refine tkK (i := 14) [21] rfl hH ?_
          try simp only [Act.put, tkA, tkB, tkC]
          refine tkK (i := 15) [21] rfl hH ?_
          try simp only [Act.put, tkA, tkB, tkC]
          refine tkK (i := 16) [21] rfl hH ?_
          try simp only [Act.put, tkA, tkB, tkC]
          refine tkK (i := 17) [21] rfl hH ?_
          try simp only [Act.put, tkA, tkB, tkC]
          refine wpAnyK_one (i := 18) (by kernel_rfl) rfl (fun K hK => ?_) (by kernel_rfl)
          go_simp
          go_at_call 20
          with_reducible refine (clone_any _ r hrs0).mono ?_
          rintro e y4 ⟨rfl, hb4⟩
          have hb84 := (Below.refl _ _).drew.trans hb4
          have lkb : ∀ y, Below W8.heap.size W8 y → (Instr.lookup tSeg (.map (some mp)) (.int .i64 (nz : Int)) false).run Tryz.prog y = .ok (.slice xa xl xc) y := fun y hy => by
            have h5 := MapL.look (MapL.below H8.out.1.mpl hy) keyZ und_seg (zero_strs _) false (nz : Int)
            rw [HMZ.out.2.2.2] at h5
            rw [← HXL.out]
            exact h5
          have hlb8 := World.block_lt_of_cell? _ _ v3
          have vd4 := And.intro ((hb84.cell (p := ⟨lb, 3, none⟩) hlb8).trans v3) (And.intro ((hb84.cell (p := ⟨lb, 4, none⟩) hlb8).trans v4) (lkb y4 hb84))
          have H4 := Lib.hid (And.intro hb84 lkb)
          clear hb4 hb84 lkb
          refine hK.out _ _ vd4 (fun hH => ?_)
          clear hK K
          try simp only [Act.put, tkA, tkB, tkC]
          refine wpAnyK_one (i := 19) (by kernel_rfl) rfl (fun K hK => ?_) (by kernel_rfl)
          go_simp
          obtain ⟨y5, hy5⟩ : ∃ y5, y5 = y4.alloc (.cells #[.string r] 9) := ⟨_, rfl⟩
          have hb85 : Below W8.heap.size W8 y5 := by rw [hy5]; exact H4.out.1.alloc H4.out.1.size _
          have hsrc : Src eStr y5 (.slice (some ⟨y4.heap.size, 0, none⟩) 1 1) [r] := by rw [hy5]; exact src_one y4 r _ _ rfl 1
          have hm5 := H8.out.1.tn (Tn.ofBelow (F := fun _ => False) hb85) (fun _ _ h => h)
          have vd5 := And.intro ((hb85.cell (p := ⟨lb, 3, none⟩) hlb8).trans v3) (And.intro ((hb85.cell (p := ⟨lb, 4, none⟩) hlb8).trans v4) (H4.out.2 y5 hb85))
          have hrow5 : Own eStr y5 0 (.slice xa xl xc) rs := by
            have h5 := hm5.rows ((nz : Int), (⟨xa, xc, rs⟩ : Sg)) (by simp)
            rw [← HXL.out]
            exact h5
          have H5 := Lib.hid (And.intro hm5 (And.intro hsrc (And.intro hrow5 hb85)))
          rw [← hy5]
          clear hb85 hsrc hm5 hrow5 hy5
          refine hK.out _ _ vd5 (fun hH => ?_)
          clear hK K
          try simp only [Act.put, tkA, tkB, tkC]
          refine wpAnyK_one (i := 20) (by kernel_rfl) rfl (fun K hK => ?_) (by kernel_rfl)
          refine step_app2 eStr rfl _ _ rfl rfl rfl H5.out.2.2.1 H5.out.2.1 (by have := HKZ.out.2.2.1; simp; omega) (Nat.zero_le _) ?_
          rw [HXL.out]
          intro a6 cap6 y6 hap'
          have hap : Appd eStr y5 y6 0 (.slice xa xl xc) (.slice a6 (xl + 1) cap6) rs [r] := hap'
          have hx5 : ∀ q, (Value.slice xa xl xc).ownBlock = some q → q ≠ lb ∧ q ≠ mp := fun q hq => H5.out.1.off ((nz : Int), (⟨xa, xc, rs⟩ : Sg)) (by simp) q (by show (Value.slice xa rs.length xc).ownBlock = some q; rw [HXL.out]; exact hq)
          have nb5 : ¬ (Value.slice xa xl xc).ownBlock = some lb := fun e => (hx5 lb e).1 rfl
          have hmp6 := MapL.tn H5.out.1.mpl hap.tn (fun e => (hx5 mp e).2 rfl)
          have lk6 : (Instr.lookup tSeg (.map (some mp)) (.int .i64 (nz : Int)) false).run Tryz.prog y6 = .ok (.slice xa xl xc) y6 := by
            have h5 := MapL.look hmp6 keyZ und_seg (zero_strs _) false (nz : Int)
            rw [HMZ.out.2.2.2] at h5
            rw [← HXL.out]
            exact h5
          have vd6 := And.intro (hap.tn.cell vd5.1 nb5) (And.intro (hap.tn.cell vd5.2.1 nb5) lk6)
          obtain ⟨y7, hrun, hm7, ht7, hz7⟩ := MapL.put hmp6 keyZ und_seg (nz : Int) (⟨a6, cap6, rs ++ [r]⟩ : Sg)
          have hrun' : (Instr.mapUpdate tSeg (.map (some mp)) (.int .i64 (nz : Int)) (.slice a6 (xl + 1) cap6)).run Tryz.prog y6 = .ok () y7 := by
            have : cvS (⟨a6, cap6, rs ++ [r]⟩ : Sg) = .slice a6 (xl + 1) cap6 := by
              show Value.slice a6 (rs ++ [r]).length cap6 = _
              rw [List.length_append, HXL.out]; rfl
            rw [this] at hrun
            exact hrun
          have H7 := Lib.hid (And.intro hap (And.intro hm7 ht7))
          clear hap hap' hmp6 lk6 hrun hm7 ht7 hz7
          refine hK.out _ _ vd6 (fun hH => ?_)
          clear hK K
          try simp only [Act.put, tkA, tkB, tkC]
          refine wpAnyK_last (by kernel_rfl) rfl (fun K hK => ?_) (by kernel_rfl)
          go_simp
          refine hK.out _ _ (wpAnyK_done (by kernel_rfl) ?_ _)
          clear hK K hH vd vd4 vd5 vd6 v0 v3 v4 lk8 hrun'
          go_wp2_with fail
          go_ret
          unfold Kept
          rw [HLY2.out]
          obtain ⟨hlm, tg, hmq⟩ := LoM.lay (G := G) (xa := xa) (xc := xc) (rs := rs) (r := r) (n' := xl + 1) (a' := a6) (c' := cap6) H5.out.1 HMZ.out.2.1 HMZ.out.2.2.1 (by rw [List.length_append, HXL.out]; rfl) (by rw [HXL.out]; exact H7.out.1) H7.out.2.1 H7.out.2.2 HKZ.out.2.2.1
          have t35 : Tn (fun q => q = lb) y3 y5 := H8.out.2.1.trans (Tn.ofBelow H5.out.2.2.2)
          have h35 : y3.heap.size ≤ y5.heap.size := t35.size
          have hw3 := H3.out.2.2.size
          have gfl : ∀ q, G q → F q ∧ ¬ two db mb q := HG.out
          have hd5 := H3.out.1.frame t35 (fun q _ e => by subst e; exact ⟨glz.1, fun e => glz.2 (.inl e), fun e => glz.2 (.inr e)⟩)
          have hmore : ∀ q, more G (.slice a6 (xl + 1) cap6) q → F q ∨ y5.heap.size ≤ q := fun q hq => (hmq q hq).imp (fun h => (gfl q h).1) id
          have hd7 : DkAt (fun q => F q ∨ more G (.slice a6 (xl + 1) cap6) q) y7 db mb D9 := hd5.widen (H := G) tg (fun q _ h => gfl q h) (fun q h => .inl h) (fun q h => h.elim .inl (hmore q)) (fun q h => h.elim (fun h => Nat.lt_of_lt_of_le (hd5.lt q h) tg.size) (hlm.lt q))
          refine ⟨rfl, more G (.slice a6 (xl + 1) cap6), _, hd7, ⟨A ++ ((nz : Int), ⟨a6, cap6, rs ++ [r]⟩) :: B, ?_⟩, fun q hq => ⟨.inr hq, fun h2 => ?_⟩, fun q h => .inl h, fun q h => ?_, fun q hq => ?_, ?_⟩
          · have e1 : ({ ({ L4 with long := lz2 + (fs : Int) } : Lg) with m := setL ({ L4 with long := lz2 + (fs : Int) } : Lg).m (nz : Int) (rs ++ [r]) } : Lg) = { L4 with long := L4.long + (framed r).size, m := setL L4.m L4.op (rs ++ [r]) } := by
              rw [HKZ.out.1, HKZ.out.2.2.2.1, HKZ.out.2.2.2.2.2.1, HKZ.out.2.2.2.2.2.2]
            rw [← e1]
            exact hlm
          · rcases hmq q hq with h | h
            · exact (gfl q h).2 h2
            · have := hd5.ltd
              have := hd5.m.lt
              rcases h2 with rfl | rfl <;> omega
          · rcases h with h | h
            · exact .inl h
            · exact (hmore q h).imp id (fun h => by omega)
          · exact (hmq q hq).imp id (fun h => by omega)
          · exact H3.out.2.2.trans (((t35.mono (fun q e => by subst e; exact .inr H5.out.1.gl))).trans (tg.mono (fun q h => .inr h)))
        · have t9 : (kd != 0) = true := by simpa using h9
          have HLY2 : Hid (L.append D r = (kd, D9, L4)) := by unfold Hid; rw [HLY.out.1, if_pos h9]
          clear h9 y35 yf5
          go_wp2
          go_ret
          rw [HLY2.out]
          exact Both.kept ⟨rfl, H3.out.1, ⟨_, H3.out.2.1⟩, H3.out.2.2⟩ HG.out
      · have tb : (kb != 0) = true := by simpa using hb0
        have HAP : Hid (L.append D r = (kb, D4, L4)) := by
          unfold Hid
          rw [append_eq2 HL.out.2.2.2.2.2.2.1 HA.out.1 HFU.out HO1.out HBG.out.1, if_pos hb0]
        clear hb0
        go_wp2
        go_ret
        rw [HAP.out]
        exact Both.kept ⟨rfl, HZ.out.2.1, HZ.out.1, HZ.out.2.2⟩ HG.out
  · have t0 : (k != 0) = true := by simpa using h0
    have HAP : Hid (L.append D r = (k, D1, L1)) := append_eq0 HL.out.2.2.2.2.2.2.1 HA.out.1 h0
    have H1 := Lib.hid (And.intro hl1 (And.intro hd1 ht1))
    clear h0 hd1 hl1 ht1 hF
    go_wp2
    go_ret
    rw [HAP.out]
    exact Both.kept ⟨rfl, H1.out.2.1, H1.out.1, H1.out.2.2⟩ HG.out
end Go.Proofs.YtjebpppjhkkebaaGreatDoor
