
/-
  ManifestJoined: its walk.
-/
import Derived.Test.YtjebpppjhkkebaaGreatDoorM33
set_option linter.unusedSimpArgs false
set_option linter.unusedVariables false
namespace Go.Proofs.YtjebpppjhkkebaaGreatDoor
open Go.RowKit
variable {w w' w0 : World}

/-- Two pairs in boxes. -/
structure Pr2 (w w' : World) (p q : KV) : Prop where
  a0 : w'.cell? ⟨w.heap.size, 0, none⟩ = some (.string p.1)
  a1 : w'.cell? ⟨w.heap.size, 1, none⟩ = some (.string p.2)
  b0 : w'.cell? ⟨w.heap.size + 1, 0, none⟩ = some (.string q.1)
  b1 : w'.cell? ⟨w.heap.size + 1, 1, none⟩ = some (.string q.2)
  b : Below w.heap.size w w'
  sz : w.heap.size + 2 ≤ w'.heap.size
theorem Pr2.belowB {w1 w2 : World} {p q : KV} (h : Pr2 w w1 p q) (hb : Below (w.heap.size + 2) w1 w2) : Pr2 w w2 p q :=
  ⟨(hb.cell (p := ⟨w.heap.size, 0, none⟩) (by show w.heap.size < _; omega)).trans h.a0, (hb.cell (p := ⟨w.heap.size, 1, none⟩) (by show w.heap.size < _; omega)).trans h.a1, (hb.cell (p := ⟨w.heap.size + 1, 0, none⟩) (by show w.heap.size + 1 < _; omega)).trans h.b0, (hb.cell (p := ⟨w.heap.size + 1, 1, none⟩) (by show w.heap.size + 1 < _; omega)).trans h.b1, h.b.trans (hb.mono (by omega)), Nat.le_trans h.sz hb.size⟩
theorem Pr2.below {w1 w2 : World} {p q : KV} (h : Pr2 w w1 p q) (hb : Below w1.heap.size w1 w2) : Pr2 w w2 p q := h.belowB (hb.mono h.sz)
theorem pr2_made (w : World) (p q : KV) : Pr2 w ((w.alloc (.cells #[.string p.1, .string p.2] 47)).alloc (.cells #[.string q.1, .string q.2] 47)) p q := by
  have hz : (w.alloc (.cells #[.string p.1, .string p.2] 47)).heap.size = w.heap.size + 1 := by simp
  refine ⟨by simp [go_sem], by simp [go_sem], ?_, ?_, ((Below.refl _ _).alloc (Nat.le_refl _) _).alloc (by simp) _, by simp⟩
  all_goals (rw [← hz]; simp [go_sem])
/-- An edit of notes alone. -/
theorem edN {w : World} {x : Value} {l : List KV} (h : RdN w x l) : EdV w (.agg #[.slice none 0 0, .slice none 0 0, .int .i64 0, .slice none 0 0, x]) ⟨[], [], 0, [], l⟩ := ⟨_, _, _, _, rfl, RdA.nil w, RdA.nil w, RdA.nil w, h⟩
theorem rdn_one {w : World} {b : Nat} {p : KV} (h0 : w.cell? ⟨b, 0, none⟩ = some (.string p.1)) (h1 : w.cell? ⟨b, 1, none⟩ = some (.string p.2)) : RdN w (.slice (some ⟨b, 0, none⟩) 1 1) [p] := by
  refine ⟨_, 1, rfl, Nat.le_refl _, by omega, (fun e => by cases e), .inr ⟨b, 0, rfl, World.block_lt_of_cell? _ _ h0, fun i hi j u hu => ?_⟩⟩
  have hi0 : i = 0 := by simp at hi; omega
  subst hi0
  have hu : (cNt p)[j]? = some u := hu
  have hj : j < 2 := (List.getElem?_eq_some_iff.1 hu).1
  rw [show 0 + 0 * 2 + j = j by omega]
  rcases (by omega : j = 0 ∨ j = 1) with rfl | rfl
  · exact h0.trans hu
  · exact h1.trans hu
theorem rdn_two {w : World} {b : Nat} {p q : KV} (h0 : w.cell? ⟨b, 0, none⟩ = some (.string p.1)) (h1 : w.cell? ⟨b, 1, none⟩ = some (.string p.2)) (h2 : w.cell? ⟨b, 2, none⟩ = some (.string q.1)) (h3 : w.cell? ⟨b, 3, none⟩ = some (.string q.2)) : RdN w (.slice (some ⟨b, 0, none⟩) 2 2) [p, q] := by
  refine ⟨_, 2, rfl, Nat.le_refl _, by omega, (fun e => by cases e), .inr ⟨b, 0, rfl, World.block_lt_of_cell? _ _ h0, fun i hi j u hu => ?_⟩⟩
  have hi2 : i < 2 := by simpa using hi
  rcases (by omega : i = 0 ∨ i = 1) with rfl | rfl
  · have hu : (cNt p)[j]? = some u := hu
    have hj : j < 2 := (List.getElem?_eq_some_iff.1 hu).1
    rw [show 0 + 0 * 2 + j = j by omega]
    rcases (by omega : j = 0 ∨ j = 1) with rfl | rfl
    · exact h0.trans hu
    · exact h1.trans hu
  · have hu : (cNt q)[j]? = some u := hu
    have hj : j < 2 := (List.getElem?_eq_some_iff.1 hu).1
    rcases (by omega : j = 0 ∨ j = 1) with rfl | rfl
    · exact h2.trans hu
    · exact h3.trans hu

theorem joined_else (a : Option Addr) (len cap : Nat) (p q : KV) (w : World) (hlen : len ≤ 140737488351232) (hp : szN p) (hq : szN q) (hno : ¬ (len ≤ 30 ∧ p.1 ≠ q.1 ∧ (1 ≤ p.1.size ∧ p.1.size ≤ 32) ∧ (1 ≤ q.1.size ∧ q.1.size ≤ 32) ∧ p.2.size + q.2.size ≤ 9000)) :
    Calls Tryz.prog 4 #[.slice a len cap, .agg #[.string p.1, .string p.2], .agg #[.string q.1, .string q.2]] w fun e w' => e = .returned (.bool true) ∧ Below w.heap.size w w' := by
  obtain ⟨hp1, hp2⟩ := hp
  obtain ⟨hq1, hq2⟩ := hq
  obtain ⟨w2, hw2⟩ : ∃ w2, (w.alloc (.cells #[.string p.1, .string p.2] 47)).alloc (.cells #[.string q.1, .string q.2] 47) = w2 := ⟨_, rfl⟩
  have hz1 : (w.alloc (.cells #[.string p.1, .string p.2] 47)).heap.size = w.heap.size + 1 := by simp
  have h2 := pr2_made w p q
  rw [hw2] at h2
  have a0 := h2.a0
  have a1 := h2.a1
  have b0 := h2.b0
  have b1 := h2.b1
  have HB := Lib.hid h2.b
  clear h2
  obtain ⟨p1, p2⟩ := p
  obtain ⟨q1, q2⟩ := q
  simp only at *

  by_cases c0 : len ≤ 30
  · have t0 : ¬ (30 : Int) < (len : Int) := by omega
    by_cases c1 : p1 ≠ q1
    · have t1 := strNo c1
      by_cases c2 : 1 ≤ p1.size
      · have t2 : ¬ (p1.size : Int) < 1 := by omega
        by_cases c3 : p1.size ≤ 32
        · have t3 : ¬ (32 : Int) < (p1.size : Int) := by omega
          by_cases c4 : 1 ≤ q1.size
          · have t4 : ¬ (q1.size : Int) < 1 := by omega
            by_cases c5 : q1.size ≤ 32
            · have t5 : ¬ (32 : Int) < (q1.size : Int) := by omega
              by_cases c6 : p2.size + q2.size ≤ 9000
              · exact absurd ⟨c0, c1, ⟨c2, c3⟩, ⟨c4, c5⟩, c6⟩ hno
              · have t6 : (9000 : Int) < (p2.size : Int) + (q2.size : Int) := by omega
                clear hno
                go_enter Tryz.func4, Tryz.ntmps4
                go_wp2_with (go_at_call 8; refine (malive_any _).mono ?_; rintro r w3 ⟨rfl, hb3⟩; have H3 := Lib.hid (HB.out.trans (hb3.mono HB.out.size)); clear hb3)
                go_ret
                exact ⟨rfl, H3.out⟩
            · have t5 : (32 : Int) < (q1.size : Int) := by omega
              clear hno
              go_enter Tryz.func4, Tryz.ntmps4
              go_wp2_with (go_at_call 8; refine (malive_any _).mono ?_; rintro r w3 ⟨rfl, hb3⟩; have H3 := Lib.hid (HB.out.trans (hb3.mono HB.out.size)); clear hb3)
              go_ret
              exact ⟨rfl, H3.out⟩
          · have t4 : (q1.size : Int) < 1 := by omega
            clear hno
            go_enter Tryz.func4, Tryz.ntmps4
            go_wp2_with (go_at_call 8; refine (malive_any _).mono ?_; rintro r w3 ⟨rfl, hb3⟩; have H3 := Lib.hid (HB.out.trans (hb3.mono HB.out.size)); clear hb3)
            go_ret
            exact ⟨rfl, H3.out⟩
        · have t3 : (32 : Int) < (p1.size : Int) := by omega
          clear hno
          go_enter Tryz.func4, Tryz.ntmps4
          go_wp2_with (go_at_call 8; refine (malive_any _).mono ?_; rintro r w3 ⟨rfl, hb3⟩; have H3 := Lib.hid (HB.out.trans (hb3.mono HB.out.size)); clear hb3)
          go_ret
          exact ⟨rfl, H3.out⟩
      · have t2 : (p1.size : Int) < 1 := by omega
        clear hno
        go_enter Tryz.func4, Tryz.ntmps4
        go_wp2_with (go_at_call 8; refine (malive_any _).mono ?_; rintro r w3 ⟨rfl, hb3⟩; have H3 := Lib.hid (HB.out.trans (hb3.mono HB.out.size)); clear hb3)
        go_ret
        exact ⟨rfl, H3.out⟩
    · have e1 : p1 = q1 := Classical.not_not.1 c1
      subst e1
      have t1 := strYes p1
      clear hno
      go_enter Tryz.func4, Tryz.ntmps4
      go_wp2_with (go_at_call 8; refine (malive_any _).mono ?_; rintro r w3 ⟨rfl, hb3⟩; have H3 := Lib.hid (HB.out.trans (hb3.mono HB.out.size)); clear hb3)
      go_ret
      exact ⟨rfl, H3.out⟩
  · have t0 : (30 : Int) < (len : Int) := by omega
    clear hno
    go_enter Tryz.func4, Tryz.ntmps4
    go_wp2_with (go_at_call 8; refine (malive_any _).mono ?_; rintro r w3 ⟨rfl, hb3⟩; have H3 := Lib.hid (HB.out.trans (hb3.mono HB.out.size)); clear hb3)
    go_ret
    exact ⟨rfl, H3.out⟩
set_option maxRecDepth 100000 in
set_option maxHeartbeats 8000000 in
theorem joined_walk (a : Option Addr) (len cap : Nat) (L : List EdR) (p q : KV) {W : World} (hl : EdsIn W a len cap L) (hlen : len ≤ 140737488351232) (hp : szN p) (hq : szN q) (w : World) (hW : W = w) :
    Calls Tryz.prog 4 #[.slice a len cap, .agg #[.string p.1, .string p.2], .agg #[.string q.1, .string q.2]] w fun e w' => e = .returned (.bool true) ∧ Below w.heap.size w w' := by
  subst hW
  obtain ⟨w, rfl⟩ : ∃ w, w = W := ⟨_, rfl⟩
  by_cases hok : len ≤ 30 ∧ p.1 ≠ q.1 ∧ (1 ≤ p.1.size ∧ p.1.size ≤ 32) ∧ (1 ≤ q.1.size ∧ q.1.size ≤ 32) ∧ p.2.size + q.2.size ≤ 9000
  case neg => exact joined_else a len cap p q w hlen hp hq hok
  obtain ⟨c0, c1, ⟨c2, c3⟩, ⟨c4, c5⟩, c6⟩ := hok
  have hjp : ∀ s, GoodS s → _ := fun s hs => joined_plain (s := s) hs (a := p) (b := q) ⟨c2, c3⟩ ⟨c4, c5⟩ c6 c1
  have HJP := Lib.hid hjp
  obtain ⟨w2, hw2⟩ : ∃ w2, (w.alloc (.cells #[.string p.1, .string p.2] 47)).alloc (.cells #[.string q.1, .string q.2] 47) = w2 := ⟨_, rfl⟩
  have hz1 : (w.alloc (.cells #[.string p.1, .string p.2] 47)).heap.size = w.heap.size + 1 := by simp
  have h2 := pr2_made w p q
  rw [hw2] at h2
  have hz2 : w2.heap.size = w.heap.size + 2 := by rw [← hw2]; simp
  obtain ⟨w3, hw3⟩ : ∃ w3, w2.alloc (.cells #[.slice none 0 0, .int .i64 0, .int .i64 0, .slice none 0 0, .slice none 0 0] 30) = w3 := ⟨_, rfl⟩
  have hb3 : Below w2.heap.size w2 w3 := by rw [← hw3]; exact (Below.refl _ _).alloc (Nat.le_refl _) _
  have ho3 : ObZ w3 (w.heap.size + 2) := by rw [← hw3, ← hz2]; exact ObZ.made w2
  have a0 := h2.a0
  have a1 := h2.a1
  have b0 := h2.b0
  have b1 := h2.b1
  have z0 := ho3.z0
  have z1 := ho3.z1
  have z2 := ho3.z2
  have z3 := ho3.z3
  have z4 := ho3.z4
  have f0 := ho3.zf 0
  have f1 := ho3.zf 1
  have f2 := ho3.zf 2
  have f3 := ho3.zf 3
  have f4 := ho3.zf 4
  have hz3 : w.heap.size + 3 ≤ w3.heap.size := by rw [← hw3]; simp; omega
  have H3 := Lib.hid (And.intro (h2.below hb3) (And.intro ho3 hz3))
  have HL := Lib.hid hl
  have HPQ := Lib.hid (And.intro hp hq)
  clear hjp h2 hb3 ho3 hl hp hq hz3
  obtain ⟨p1, p2⟩ := p
  obtain ⟨q1, q2⟩ := q
  simp only at c1 c2 c3 c4 c5 c6 a0 a1 b0 b1 hw2 hz1 ⊢
  have t0 : ¬ (30 : Int) < (len : Int) := by omega
  have t1 := strNo c1
  have t2 : ¬ (p1.size : Int) < 1 := by omega
  have t3 : ¬ (32 : Int) < (p1.size : Int) := by omega
  have t4 : ¬ (q1.size : Int) < 1 := by omega
  have t5 : ¬ (32 : Int) < (q1.size : Int) := by omega
  have t6 : ¬ (9000 : Int) < (p2.size : Int) + (q2.size : Int) := by omega
  go_enter Tryz.func4, Tryz.ntmps4
  go_wp2
  clear a0 a1 b0 b1 z0 z1 z2 z3 z4 f0 f1 f2 f3 f4 hw2 hw3
  go_loopw [8, 9, 10] (fun iv _ _ wr => ∃ (i : Nat) (s : PS), i ≤ len ∧ iv = .int .i64 (i : Int) ∧ Pr2 w wr (p1, p2) (q1, q2) ∧ GoodS s ∧ JSt (w.heap.size + 3) wr (w.heap.size + 2) s ∧ w.heap.size + 3 ≤ wr.heap.size) (fun iv _ _ _ => len - (intOf iv).toNat)
  case atStart =>
    refine ⟨0, s00, by omega, rfl, ?_, good00, ?_, ?_⟩
    · exact H3.out.1.belowB (tn5.below H3.out.1.sz (fun k hk => by omega))
    · exact jst_zero _ (cells5 (obZS H3.out.2.1))
    · exact Nat.le_trans H3.out.2.2 tn5.size
  case round =>
    obtain ⟨i, s, hi, rfl, hpr, hg, hjs, hsz⟩ := hrel
    obtain ⟨sfa, sfc, sla, slc, sna, snc, hs1, hs2, hs3, hs4, hn1, hn2, hn3⟩ := hjs
    have HS := Lib.hid (And.intro hpr (And.intro hg (And.intro hs1 (And.intro hs2 (And.intro hs3 hs4)))))
    by_cases hlt : i < len
    · obtain ⟨b, off, ed, e, rfl, hbl, hed, hwf, d0, d1, d2, d3, d4⟩ := ed_at HL.out hlt
      obtain ⟨eo, heo⟩ : ∃ m, off + i * 5 = m := ⟨_, rfl⟩
      have hec : EdC w b (off + i * 5) ed := ⟨d0, d1, d2, d3, d4⟩
      have hecr := hec.below hpr.b
      rw [heo] at hecr
      have hlv := light_any (hed.below hpr.b) hwf
      have z0 : (i : Int) < (len : Int) := by omega
      have z1 : (0 : Int) ≤ (i : Int) := by omega
      have d0 := hecr.c0
      have d1 := hecr.c1
      have d2 := hecr.c2
      have d3 := hecr.c3
      have d4 := hecr.c4
      have HE := Lib.hid (And.intro hecr (And.intro (hed.below hpr.b) (And.intro hwf hlv)))
      clear hec hecr hed hwf hlv hpr hg hs1 hs2 hs3 hs4
      go_upto_region 9 with (first
        | (go_at_call 14; refine HE.out.2.2.2.mono ?_; rintro r wv ⟨lb, rfl, hbv, hlb⟩; have HV := Lib.hid (And.intro hbv hlb); clear hbv hlb; cases lb)
        | (go_at_call 8; refine (malive_any _).mono ?_; rintro r w5 ⟨rfl, hb5⟩; have H5 := Lib.hid (HS.out.1.b.trans (((HV.out.1).mono (by omega)).trans (hb5.mono (by have := HV.out.1.size; omega)))); clear hb5))

      · go_ret
        exact ⟨rfl, H5.out⟩
      · have hlb := HV.out.2 (by first | rfl | trivial)
        unfold lightN at hlb
        obtain ⟨c, t, hct⟩ : ∃ c t, applyF s e = (c, t) := ⟨_, _, rfl⟩
        have hst : StV wr (.agg #[.slice sfa s.fs.length sfc, .int .i64 s.next, .int .i64 s.log, .slice sla s.fl.length slc, .slice sna s.ns.length snc]) s := ⟨_, _, _, rfl, HS.out.2.2.2.1.rda, HS.out.2.2.2.2.1.rda, HS.out.2.2.2.2.2.rda⟩
        have hap : ∀ y, Below wv.heap.size wv y → Calls Tryz.prog 15 #[(.agg #[.slice sfa s.fs.length sfc, .int .i64 s.next, .int .i64 s.log, .slice sla s.fl.length slc, .slice sna s.ns.length snc]), .agg #[ed.av, ed.rv, .int .i64 ed.lg, ed.lv, ed.nv]] y (AqAns t c y) := fun y hy => by
          have hw := HV.out.1.trans (hy.mono HV.out.1.size)
          have := apply_aq (hst.below hw) (HE.out.2.1.below hw) HS.out.2.1 (by omega) (by omega) (by omega) (by omega)
          rw [hct] at this
          exact this
        have HAP := Lib.hid hap
        have HS0 := Lib.hid (And.intro (HS.out.2.2.1.below HV.out.1) hct)
        have HE0 := Lib.hid (HE.out.1.below HV.out.1)
        clear hlb hst hap hct d0 d1 d2 d3 d4
        go_cut [9, 10] (fun y9 y10 wx => CmAns t c wv y9 y10 wx)
        case first =>
          refine wp_region_K (fun w' => w'.cell? ⟨w.heap.size + 2, 0, none⟩ = some (.slice sfa s.fs.length sfc) ∧ w'.cell? ⟨w.heap.size + 2, 1, none⟩ = some (.int .i64 s.next) ∧ w'.cell? ⟨w.heap.size + 2, 2, none⟩ = some (.int .i64 s.log) ∧ w'.cell? ⟨w.heap.size + 2, 3, none⟩ = some (.slice sla s.fl.length slc) ∧ w'.cell? ⟨w.heap.size + 2, 4, none⟩ = some (.slice sna s.ns.length snc) ∧ w'.cell? ⟨b, eo, none⟩ = some (ed.av) ∧ w'.cell? ⟨b, eo + 1, none⟩ = some (ed.rv) ∧ w'.cell? ⟨b, eo + 2, none⟩ = some (.int .i64 ed.lg) ∧ w'.cell? ⟨b, eo + 3, none⟩ = some (ed.lv) ∧ w'.cell? ⟨b, eo + 4, none⟩ = some (ed.nv)) 11 12 (by kernel_rfl) (by kernel_rfl) ⟨(HS0.out.1.below (Below.refl _ _).drew).z0, (HS0.out.1.below (Below.refl _ _).drew).z1, (HS0.out.1.below (Below.refl _ _).drew).z2, (HS0.out.1.below (Below.refl _ _).drew).z3, (HS0.out.1.below (Below.refl _ _).drew).z4, (HE0.out.below (Below.refl _ _).drew).and⟩ (fun hH => ?_)
          refine tkK (i := 0) [11] rfl hH ?_
          try simp only [Act.put, tkA, tkB, tkC]
          refine tkK (i := 1) [11] rfl hH ?_
          try simp only [Act.put, tkA, tkB, tkC]
          refine tkK (i := 2) [11] rfl hH ?_
          try simp only [Act.put, tkA, tkB, tkC]
          refine tkK (i := 3) [11] rfl hH ?_
          try simp only [Act.put, tkA, tkB, tkC]
          refine tkK (i := 4) [11] rfl hH ?_
          try simp only [Act.put, tkA, tkB, tkC]
          obtain ⟨wz, hwz⟩ : ∃ wz, wv.drew = wz := ⟨_, rfl⟩
          have hz0 : Below wv.heap.size wv wz := by rw [← hwz]; exact (Below.refl _ _).drew
          have hz1 : wz.heap.size = wv.heap.size := by rw [← hwz]; rfl
          rw [hwz] at hH ⊢
          have HZ0 := Lib.hid (And.intro hz0 hz1)
          clear hwz hz0 hz1
          refine wpAnyK_all (rs := [5, 9]) (by kernel_rfl) (by simp) (fun i hi => ?_)
          rcases List.mem_cons.1 hi with rfl | hi2
          · refine wpOp_K rfl (fun K hK => ?_) (by kernel_rfl)
            go_simp
            go_at_call 15
            refine (HAP.out _ HZ0.out.1).mono ?_
            rintro r w5 ⟨fa, fc, la, lc, na, nc, rfl, o1, o2, o3, hb⟩
            have HO := Lib.hid (And.intro o1 (And.intro o2 (And.intro o3 hb)))
            clear o1 o2 o3 hb
            refine hK.out _ _ ⟨(HS0.out.1.below (HZ0.out.1.trans (HO.out.2.2.2.mono HZ0.out.1.size))).z0, (HS0.out.1.below (HZ0.out.1.trans (HO.out.2.2.2.mono HZ0.out.1.size))).z1, (HS0.out.1.below (HZ0.out.1.trans (HO.out.2.2.2.mono HZ0.out.1.size))).z2, (HS0.out.1.below (HZ0.out.1.trans (HO.out.2.2.2.mono HZ0.out.1.size))).z3, (HS0.out.1.below (HZ0.out.1.trans (HO.out.2.2.2.mono HZ0.out.1.size))).z4, (HE0.out.below (HZ0.out.1.trans (HO.out.2.2.2.mono HZ0.out.1.size))).and⟩ (fun hH => ?_)
            clear hK K
            try simp only [Act.put, tkA, tkB, tkC]
            refine tkK (i := 6) [11] rfl hH ?_
            try simp only [Act.put, tkA, tkB, tkC]
            refine tkK (i := 7) [11] rfl hH ?_
            try simp only [Act.put, tkA, tkB, tkC]
            refine tkK (i := 8) [11] rfl hH ?_
            try simp only [Act.put, tkA, tkB, tkC]
            refine wpAnyK_one (i := 9) (by kernel_rfl) rfl (fun K hK => ?_) (by kernel_rfl)
            go_simp
            obtain ⟨ob, hob⟩ : ∃ k, w5.heap.size = k := ⟨_, rfl⟩
            rw [hob]
            obtain ⟨wb, hwb⟩ : ∃ wb, w5.alloc (.cells #[.slice none 0 0, .int .i64 0, .int .i64 0, .slice none 0 0, .slice none 0 0] 30) = wb := ⟨_, rfl⟩
            rw [hwb]
            have hbb : Below w5.heap.size w5 wb := by rw [← hwb]; exact (Below.refl _ _).alloc (Nat.le_refl _) _
            have hoz : ObZ wb ob := by rw [← hob, ← hwb]; exact ObZ.made _
            have HB := Lib.hid (And.intro hbb (And.intro hoz hob))
            clear hbb hoz hob hwb
            refine hK.out _ _ ⟨(HS0.out.1.below ((HZ0.out.1.trans (HO.out.2.2.2.mono HZ0.out.1.size)).trans (HB.out.1.mono (HZ0.out.1.trans (HO.out.2.2.2.mono HZ0.out.1.size)).size))).z0, (HS0.out.1.below ((HZ0.out.1.trans (HO.out.2.2.2.mono HZ0.out.1.size)).trans (HB.out.1.mono (HZ0.out.1.trans (HO.out.2.2.2.mono HZ0.out.1.size)).size))).z1, (HS0.out.1.below ((HZ0.out.1.trans (HO.out.2.2.2.mono HZ0.out.1.size)).trans (HB.out.1.mono (HZ0.out.1.trans (HO.out.2.2.2.mono HZ0.out.1.size)).size))).z2, (HS0.out.1.below ((HZ0.out.1.trans (HO.out.2.2.2.mono HZ0.out.1.size)).trans (HB.out.1.mono (HZ0.out.1.trans (HO.out.2.2.2.mono HZ0.out.1.size)).size))).z3, (HS0.out.1.below ((HZ0.out.1.trans (HO.out.2.2.2.mono HZ0.out.1.size)).trans (HB.out.1.mono (HZ0.out.1.trans (HO.out.2.2.2.mono HZ0.out.1.size)).size))).z4, (HE0.out.below ((HZ0.out.1.trans (HO.out.2.2.2.mono HZ0.out.1.size)).trans (HB.out.1.mono (HZ0.out.1.trans (HO.out.2.2.2.mono HZ0.out.1.size)).size))).and⟩ (fun hH => ?_)
            clear hK K
            try simp only [Act.put, tkA, tkB, tkC]
            have hoz : ObZ wb ob := HB.out.2.1
            have z0 := hoz.z0
            have z1 := hoz.z1
            have z2 := hoz.z2
            have z3 := hoz.z3
            have z4 := hoz.z4
            have f0 := hoz.zf 0
            have f1 := hoz.zf 1
            have f2 := hoz.zf 2
            have f3 := hoz.zf 3
            have f4 := hoz.zf 4
            have HQ := Lib.hid hoz
            clear hoz
            refine wpAnyK_one (i := 10) (by kernel_rfl) rfl (fun K hK => ?_) (by kernel_rfl)
            go_simp
            refine hK.out _ _ ⟨(HS0.out.1.below (((HZ0.out.1.trans (HO.out.2.2.2.mono HZ0.out.1.size)).trans (HB.out.1.mono (HZ0.out.1.trans (HO.out.2.2.2.mono HZ0.out.1.size)).size)).trans (tn5.below ((HZ0.out.1.trans (HO.out.2.2.2.mono HZ0.out.1.size)).trans (HB.out.1.mono (HZ0.out.1.trans (HO.out.2.2.2.mono HZ0.out.1.size)).size)).size (fun q hq => by rw [hq, ← HB.out.2.2]; exact (HZ0.out.1.trans (HO.out.2.2.2.mono HZ0.out.1.size)).size)))).z0, (HS0.out.1.below (((HZ0.out.1.trans (HO.out.2.2.2.mono HZ0.out.1.size)).trans (HB.out.1.mono (HZ0.out.1.trans (HO.out.2.2.2.mono HZ0.out.1.size)).size)).trans (tn5.below ((HZ0.out.1.trans (HO.out.2.2.2.mono HZ0.out.1.size)).trans (HB.out.1.mono (HZ0.out.1.trans (HO.out.2.2.2.mono HZ0.out.1.size)).size)).size (fun q hq => by rw [hq, ← HB.out.2.2]; exact (HZ0.out.1.trans (HO.out.2.2.2.mono HZ0.out.1.size)).size)))).z1, (HS0.out.1.below (((HZ0.out.1.trans (HO.out.2.2.2.mono HZ0.out.1.size)).trans (HB.out.1.mono (HZ0.out.1.trans (HO.out.2.2.2.mono HZ0.out.1.size)).size)).trans (tn5.below ((HZ0.out.1.trans (HO.out.2.2.2.mono HZ0.out.1.size)).trans (HB.out.1.mono (HZ0.out.1.trans (HO.out.2.2.2.mono HZ0.out.1.size)).size)).size (fun q hq => by rw [hq, ← HB.out.2.2]; exact (HZ0.out.1.trans (HO.out.2.2.2.mono HZ0.out.1.size)).size)))).z2, (HS0.out.1.below (((HZ0.out.1.trans (HO.out.2.2.2.mono HZ0.out.1.size)).trans (HB.out.1.mono (HZ0.out.1.trans (HO.out.2.2.2.mono HZ0.out.1.size)).size)).trans (tn5.below ((HZ0.out.1.trans (HO.out.2.2.2.mono HZ0.out.1.size)).trans (HB.out.1.mono (HZ0.out.1.trans (HO.out.2.2.2.mono HZ0.out.1.size)).size)).size (fun q hq => by rw [hq, ← HB.out.2.2]; exact (HZ0.out.1.trans (HO.out.2.2.2.mono HZ0.out.1.size)).size)))).z3, (HS0.out.1.below (((HZ0.out.1.trans (HO.out.2.2.2.mono HZ0.out.1.size)).trans (HB.out.1.mono (HZ0.out.1.trans (HO.out.2.2.2.mono HZ0.out.1.size)).size)).trans (tn5.below ((HZ0.out.1.trans (HO.out.2.2.2.mono HZ0.out.1.size)).trans (HB.out.1.mono (HZ0.out.1.trans (HO.out.2.2.2.mono HZ0.out.1.size)).size)).size (fun q hq => by rw [hq, ← HB.out.2.2]; exact (HZ0.out.1.trans (HO.out.2.2.2.mono HZ0.out.1.size)).size)))).z4, (HE0.out.below (((HZ0.out.1.trans (HO.out.2.2.2.mono HZ0.out.1.size)).trans (HB.out.1.mono (HZ0.out.1.trans (HO.out.2.2.2.mono HZ0.out.1.size)).size)).trans (tn5.below ((HZ0.out.1.trans (HO.out.2.2.2.mono HZ0.out.1.size)).trans (HB.out.1.mono (HZ0.out.1.trans (HO.out.2.2.2.mono HZ0.out.1.size)).size)).size (fun q hq => by rw [hq, ← HB.out.2.2]; exact (HZ0.out.1.trans (HO.out.2.2.2.mono HZ0.out.1.size)).size)))).and⟩ (fun hH => ?_)
            clear hK K
            try simp only [Act.put, tkA, tkB, tkC]
            refine wpAnyK_last (by kernel_rfl) rfl (fun K hK => ?_) (by kernel_rfl)
            go_simp
            refine hK.out _ _ (wpAnyK_done (by kernel_rfl) ?_ _)
            clear hK K hH
            go_wp2_with fail
            go_meet
            case rel => exact cm_done ((HZ0.out.1.trans (HO.out.2.2.2.mono HZ0.out.1.size)).trans (HB.out.1.mono (HZ0.out.1.trans (HO.out.2.2.2.mono HZ0.out.1.size)).size)) HQ.out (by rw [← HB.out.2.2]; exact (HZ0.out.1.trans (HO.out.2.2.2.mono HZ0.out.1.size)).size) (row_below HO.out.1 HB.out.1) (row_below HO.out.2.1 HB.out.1) (row_below HO.out.2.2.1 HB.out.1) HZ0.out.1.size (fun q hq => by have := (HO.out.1.lt q hq).2; have := HB.out.2.2; omega) (fun q hq => by have := (HO.out.2.1.lt q hq).2; have := HB.out.2.2; omega) (fun q hq => by have := (HO.out.2.2.1.lt q hq).2; have := HB.out.2.2; omega)
          · obtain rfl := List.mem_singleton.1 hi2
            refine wpOp_K rfl (fun K hK => ?_) (by kernel_rfl)
            go_simp
            obtain ⟨ob, hob⟩ : ∃ k, wz.heap.size = k := ⟨_, rfl⟩
            rw [hob]
            obtain ⟨wb, hwb⟩ : ∃ wb, wz.alloc (.cells #[.slice none 0 0, .int .i64 0, .int .i64 0, .slice none 0 0, .slice none 0 0] 30) = wb := ⟨_, rfl⟩
            rw [hwb]
            have hbb : Below wz.heap.size wz wb := by rw [← hwb]; exact (Below.refl _ _).alloc (Nat.le_refl _) _
            have hoz : ObZ wb ob := by rw [← hob, ← hwb]; exact ObZ.made _
            have HB := Lib.hid (And.intro hbb (And.intro hoz hob))
            clear hbb hoz hob hwb
            refine hK.out _ _ ⟨(HS0.out.1.below (HZ0.out.1.trans (HB.out.1.mono HZ0.out.1.size))).z0, (HS0.out.1.below (HZ0.out.1.trans (HB.out.1.mono HZ0.out.1.size))).z1, (HS0.out.1.below (HZ0.out.1.trans (HB.out.1.mono HZ0.out.1.size))).z2, (HS0.out.1.below (HZ0.out.1.trans (HB.out.1.mono HZ0.out.1.size))).z3, (HS0.out.1.below (HZ0.out.1.trans (HB.out.1.mono HZ0.out.1.size))).z4, (HE0.out.below (HZ0.out.1.trans (HB.out.1.mono HZ0.out.1.size))).and⟩ (fun hH => ?_)
            clear hK K
            try simp only [Act.put, tkA, tkB, tkC]
            refine wpAnyK_one (i := 5) (by kernel_rfl) rfl (fun K hK => ?_) (by kernel_rfl)
            go_simp
            go_at_call 15
            refine (HAP.out _ (HZ0.out.1.trans (HB.out.1.mono HZ0.out.1.size))).mono ?_
            rintro r w5 ⟨fa, fc, la, lc, na, nc, rfl, o1, o2, o3, hb⟩
            have HO := Lib.hid (And.intro o1 (And.intro o2 (And.intro o3 hb)))
            clear o1 o2 o3 hb
            refine hK.out _ _ ⟨(HS0.out.1.below ((HZ0.out.1.trans (HB.out.1.mono HZ0.out.1.size)).trans (HO.out.2.2.2.mono (HZ0.out.1.trans (HB.out.1.mono HZ0.out.1.size)).size))).z0, (HS0.out.1.below ((HZ0.out.1.trans (HB.out.1.mono HZ0.out.1.size)).trans (HO.out.2.2.2.mono (HZ0.out.1.trans (HB.out.1.mono HZ0.out.1.size)).size))).z1, (HS0.out.1.below ((HZ0.out.1.trans (HB.out.1.mono HZ0.out.1.size)).trans (HO.out.2.2.2.mono (HZ0.out.1.trans (HB.out.1.mono HZ0.out.1.size)).size))).z2, (HS0.out.1.below ((HZ0.out.1.trans (HB.out.1.mono HZ0.out.1.size)).trans (HO.out.2.2.2.mono (HZ0.out.1.trans (HB.out.1.mono HZ0.out.1.size)).size))).z3, (HS0.out.1.below ((HZ0.out.1.trans (HB.out.1.mono HZ0.out.1.size)).trans (HO.out.2.2.2.mono (HZ0.out.1.trans (HB.out.1.mono HZ0.out.1.size)).size))).z4, (HE0.out.below ((HZ0.out.1.trans (HB.out.1.mono HZ0.out.1.size)).trans (HO.out.2.2.2.mono (HZ0.out.1.trans (HB.out.1.mono HZ0.out.1.size)).size))).and⟩ (fun hH => ?_)
            clear hK K
            try simp only [Act.put, tkA, tkB, tkC]
            refine tkK (i := 6) [11] rfl hH ?_
            try simp only [Act.put, tkA, tkB, tkC]
            refine tkK (i := 7) [11] rfl hH ?_
            try simp only [Act.put, tkA, tkB, tkC]
            refine tkK (i := 8) [11] rfl hH ?_
            try simp only [Act.put, tkA, tkB, tkC]
            have hoz : ObZ w5 ob := HB.out.2.1.below HO.out.2.2.2
            have z0 := hoz.z0
            have z1 := hoz.z1
            have z2 := hoz.z2
            have z3 := hoz.z3
            have z4 := hoz.z4
            have f0 := hoz.zf 0
            have f1 := hoz.zf 1
            have f2 := hoz.zf 2
            have f3 := hoz.zf 3
            have f4 := hoz.zf 4
            have HQ := Lib.hid hoz
            clear hoz
            refine wpAnyK_one (i := 10) (by kernel_rfl) rfl (fun K hK => ?_) (by kernel_rfl)
            go_simp
            refine hK.out _ _ ⟨(HS0.out.1.below (((HZ0.out.1.trans (HB.out.1.mono HZ0.out.1.size)).trans (HO.out.2.2.2.mono (HZ0.out.1.trans (HB.out.1.mono HZ0.out.1.size)).size)).trans (tn5.below ((HZ0.out.1.trans (HB.out.1.mono HZ0.out.1.size)).trans (HO.out.2.2.2.mono (HZ0.out.1.trans (HB.out.1.mono HZ0.out.1.size)).size)).size (fun q hq => by rw [hq, ← HB.out.2.2]; exact HZ0.out.1.size)))).z0, (HS0.out.1.below (((HZ0.out.1.trans (HB.out.1.mono HZ0.out.1.size)).trans (HO.out.2.2.2.mono (HZ0.out.1.trans (HB.out.1.mono HZ0.out.1.size)).size)).trans (tn5.below ((HZ0.out.1.trans (HB.out.1.mono HZ0.out.1.size)).trans (HO.out.2.2.2.mono (HZ0.out.1.trans (HB.out.1.mono HZ0.out.1.size)).size)).size (fun q hq => by rw [hq, ← HB.out.2.2]; exact HZ0.out.1.size)))).z1, (HS0.out.1.below (((HZ0.out.1.trans (HB.out.1.mono HZ0.out.1.size)).trans (HO.out.2.2.2.mono (HZ0.out.1.trans (HB.out.1.mono HZ0.out.1.size)).size)).trans (tn5.below ((HZ0.out.1.trans (HB.out.1.mono HZ0.out.1.size)).trans (HO.out.2.2.2.mono (HZ0.out.1.trans (HB.out.1.mono HZ0.out.1.size)).size)).size (fun q hq => by rw [hq, ← HB.out.2.2]; exact HZ0.out.1.size)))).z2, (HS0.out.1.below (((HZ0.out.1.trans (HB.out.1.mono HZ0.out.1.size)).trans (HO.out.2.2.2.mono (HZ0.out.1.trans (HB.out.1.mono HZ0.out.1.size)).size)).trans (tn5.below ((HZ0.out.1.trans (HB.out.1.mono HZ0.out.1.size)).trans (HO.out.2.2.2.mono (HZ0.out.1.trans (HB.out.1.mono HZ0.out.1.size)).size)).size (fun q hq => by rw [hq, ← HB.out.2.2]; exact HZ0.out.1.size)))).z3, (HS0.out.1.below (((HZ0.out.1.trans (HB.out.1.mono HZ0.out.1.size)).trans (HO.out.2.2.2.mono (HZ0.out.1.trans (HB.out.1.mono HZ0.out.1.size)).size)).trans (tn5.below ((HZ0.out.1.trans (HB.out.1.mono HZ0.out.1.size)).trans (HO.out.2.2.2.mono (HZ0.out.1.trans (HB.out.1.mono HZ0.out.1.size)).size)).size (fun q hq => by rw [hq, ← HB.out.2.2]; exact HZ0.out.1.size)))).z4, (HE0.out.below (((HZ0.out.1.trans (HB.out.1.mono HZ0.out.1.size)).trans (HO.out.2.2.2.mono (HZ0.out.1.trans (HB.out.1.mono HZ0.out.1.size)).size)).trans (tn5.below ((HZ0.out.1.trans (HB.out.1.mono HZ0.out.1.size)).trans (HO.out.2.2.2.mono (HZ0.out.1.trans (HB.out.1.mono HZ0.out.1.size)).size)).size (fun q hq => by rw [hq, ← HB.out.2.2]; exact HZ0.out.1.size)))).and⟩ (fun hH => ?_)
            clear hK K
            try simp only [Act.put, tkA, tkB, tkC]
            refine wpAnyK_last (by kernel_rfl) rfl (fun K hK => ?_) (by kernel_rfl)
            go_simp
            refine hK.out _ _ (wpAnyK_done (by kernel_rfl) ?_ _)
            clear hK K hH
            go_wp2_with fail
            go_meet
            case rel => exact cm_done ((HZ0.out.1.trans (HB.out.1.mono HZ0.out.1.size)).trans (HO.out.2.2.2.mono (HZ0.out.1.trans (HB.out.1.mono HZ0.out.1.size)).size)) HQ.out (by rw [← HB.out.2.2]; exact HZ0.out.1.size) HO.out.1 HO.out.2.1 HO.out.2.2.1 (HZ0.out.1.trans (HB.out.1.mono HZ0.out.1.size)).size (fun q hq => by have := (HO.out.1.lt q hq).1; have := HB.out.2.1.lt; omega) (fun q hq => by have := (HO.out.2.1.lt q hq).1; have := HB.out.2.1.lt; omega) (fun q hq => by have := (HO.out.2.2.1.lt q hq).1; have := HB.out.2.1.lt; omega)
        case rest =>
          obtain ⟨ob, rfl, rfl, hob, hj, hbx⟩ := jst_cm hcut
          have hbw : Below wr.heap.size wr wc := HV.out.1.trans (hbx.mono HV.out.1.size)
          have HBW := Lib.hid (And.intro hbw hob)
          have hvs := HV.out.1.size
          clear hbw hcut hob hbx
          by_cases hc : c = 0
          · subst hc
            obtain ⟨fa, fc, la, lc, na, nc, ho, o1, o2, o3, _⟩ := hj
            have hgt := (good_apply HS.out.2.1 HS0.out.2).1
            have hos := HS.out.2.2.1.below HBW.out.1
            have HJ := Lib.hid (And.intro hgt (And.intro hos (And.intro o1 (And.intro o2 o3))))
            have x0 := ho.z0
            have x1 := ho.z1
            have x2 := ho.z2
            have x3 := ho.z3
            have x4 := ho.z4
            have y0 := hos.z0
            have y1 := hos.z1
            have y2 := hos.z2
            have y3 := hos.z3
            have y4 := hos.z4
            have g0 := hos.zf 0
            have g1 := hos.zf 1
            have g2 := hos.zf 2
            have g3 := hos.zf 3
            have g4 := hos.zf 4
            clear ho o1 o2 o3 hgt hos
            go_wp2
            go_roundw
            case rel =>
              refine ⟨i + 1, t, by omega, by go_num, ?_, HJ.out.1, ?_, ?_⟩
              · exact (HS.out.1.below HBW.out.1).belowB (tn5.below (by have := HBW.out.1.size; omega) (fun k hk => by omega))
              · exact (jst_copy HJ.out.2.1 HJ.out.2.2.1 HJ.out.2.2.2.1 HJ.out.2.2.2.2 (by omega)).mono (by omega)
              · exact Nat.le_trans (by have := HBW.out.1.size; omega) tn5.size
            case measure => simp [intOf]; omega
          · have e0 : (c == 0) = false := beq_eq_false_iff_ne.2 hc
            clear hj
            go_wp2
            go_roundw
            case rel => exact ⟨i + 1, s, by omega, by go_num, HS.out.1.below HBW.out.1, HS.out.2.1, ⟨_, _, _, _, _, _, HS.out.2.2.1.below HBW.out.1, row_below HS.out.2.2.2.1 HBW.out.1, row_below HS.out.2.2.2.2.1 HBW.out.1, row_below HS.out.2.2.2.2.2 HBW.out.1, hn1, hn2, hn3⟩, by have := HBW.out.1.size; omega⟩
            case measure => simp [intOf]; omega
    · have hix : i = len := by omega
      have z0 : ¬ (i : Int) < (len : Int) := by omega
      have a0 := hpr.a0
      have a1 := hpr.a1
      have b0 := hpr.b0
      have b1 := hpr.b1
      have y0 := hs1.z0
      have y1 := hs1.z1
      have y2 := hs1.z2
      have y3 := hs1.z3
      have y4 := hs1.z4
      obtain ⟨v1, hv1⟩ : ∃ v1, wr.alloc (.cells #[.string p1, .string p2] 47) = v1 := ⟨_, rfl⟩
      have hbv1 : Below wr.heap.size wr v1 := by rw [← hv1]; exact (Below.refl _ _).alloc (Nat.le_refl _) _
      have hr1 : RdN v1 (.slice (some ⟨wr.heap.size, 0, none⟩) 1 1) [(p1, p2)] := rdn_one (p := (p1, p2)) (by rw [← hv1]; simp [go_sem]) (by rw [← hv1]; simp [go_sem])
      have hst : StV wr (.agg #[.slice sfa s.fs.length sfc, .int .i64 s.next, .int .i64 s.log, .slice sla s.fl.length slc, .slice sna s.ns.length snc]) s := ⟨_, _, _, rfl, hs2.rda, hs3.rda, hs4.rda⟩
      have hA1 := apply_aq (hst.below hbv1) (edN hr1) hg (by simp) (by simp) (by simp) (by simp)
      have HST := Lib.hid hst
      have HPL := Lib.hid (HJP.out s hg)
      have HBV := Lib.hid hbv1
      clear hpr hg hs1 hs2 hs3 hs4 hbv1 hr1 hst hix hn1 hn2 hn3
      rcases HPL.out with hpl | ⟨x, hpx, hgx, hpl⟩
      · rw [hpl] at hA1
        have HA1 := Lib.hid hA1
        clear hA1 hpl
        go_wp2_with (first
          | (go_at_call 8; refine (malive_any _).mono ?_; rintro r w5 ⟨rfl, hb5⟩; have H5 := Lib.hid (HK1.out.2.trans (hb5.mono HK1.out.2.size)); clear hb5)
          | (go_at_call 15; refine HA1.out.mono ?_; rintro r u1 ⟨fa, fc, la, lc, na, nc, rfl, o1, o2, o3, hb⟩; obtain ⟨U1, hU1⟩ : ∃ m, u1.alloc (.cells #[.slice none 0 0, .int .i64 0, .int .i64 0, .slice none 0 0, .slice none 0 0] 30) = m := ⟨_, rfl⟩; have hkp := jst_keep (t := s00) hU1 o1 o2 o3; have hz : ObZ U1 u1.heap.size := (by rw [← hU1]; exact ObZ.made u1); have z0 := hz.z0; have z1 := hz.z1; have z2 := hz.z2; have z3 := hz.z3; have z4 := hz.z4; have f0 := hz.zf 0; have f1 := hz.zf 1; have f2 := hz.zf 2; have f3 := hz.zf 3; have f4 := hz.zf 4; have HK1 := Lib.hid (And.intro hkp.1 ((HBV.out).trans ((hb.mono (HBV.out).size).trans (hkp.2.mono ((HBV.out).trans (hb.mono (HBV.out).size)).size)))); clear o1 o2 o3 hb hkp hz))
        go_ret
        exact ⟨rfl, HS.out.1.b.trans (H5.out.mono HS.out.1.b.size)⟩
      · rw [hpx] at hA1
        have HA1 := Lib.hid hA1
        have HGX := Lib.hid hgx
        clear hA1 hpx hgx
        go_upto_region 15 with (go_at_call 15; refine HA1.out.mono ?_; rintro r u1 ⟨fa, fc, la, lc, na, nc, rfl, o1, o2, o3, hb⟩; obtain ⟨U1, hU1⟩ : ∃ m, u1.alloc (.cells #[.slice none 0 0, .int .i64 0, .int .i64 0, .slice none 0 0, .slice none 0 0] 30) = m := ⟨_, rfl⟩; have hkp := jst_keep (t := x) hU1 o1 o2 o3; have hz : ObZ U1 u1.heap.size := (by rw [← hU1]; exact ObZ.made u1); have z0 := hz.z0; have z1 := hz.z1; have z2 := hz.z2; have z3 := hz.z3; have z4 := hz.z4; have f0 := hz.zf 0; have f1 := hz.zf 1; have f2 := hz.zf 2; have f3 := hz.zf 3; have f4 := hz.zf 4; have HK1 := Lib.hid (And.intro hkp.1 ((HBV.out).trans ((hb.mono (HBV.out).size).trans (hkp.2.mono ((HBV.out).trans (hb.mono (HBV.out).size)).size)))); clear o1 o2 o3 hb hkp hz)
        have hk1 := HK1.out
        obtain ⟨y1, hy1⟩ : ∃ y1, (((((U1.setCell ⟨u1.heap.size, 0, none⟩ (.slice fa x.fs.length fc)).setCell ⟨u1.heap.size, 1, none⟩ (.int .i64 x.next)).setCell ⟨u1.heap.size, 2, none⟩ (.int .i64 x.log)).setCell ⟨u1.heap.size, 3, none⟩ (.slice la x.fl.length lc)).setCell ⟨u1.heap.size, 4, none⟩ (.slice na x.ns.length nc)) = y1 := ⟨_, rfl⟩
        rw [hy1] at hk1 ⊢
        obtain ⟨⟨xfa, xfc, xla, xlc, xna, xnc, hx, ox1, ox2, ox3, _⟩, hby1⟩ := hk1
        obtain ⟨xb, hxb⟩ : ∃ m, u1.heap.size = m := ⟨_, rfl⟩
        rw [hxb] at hx ⊢
        clear hy1 z0 z1 z2 z3 z4 f0 f1 f2 f3 f4 hU1 HK1
        have hpr1 := HS.out.1.below hby1
        have hsx : StV y1 (.agg #[.slice xfa x.fs.length xfc, .int .i64 x.next, .int .i64 x.log, .slice xla x.fl.length xlc, .slice xna x.ns.length xnc]) x := ⟨_, _, _, rfl, ox1.rda, ox2.rda, ox3.rda⟩
        obtain ⟨v2, hv2⟩ : ∃ v2, y1.alloc (.cells #[.string q1, .string q2] 47) = v2 := ⟨_, rfl⟩
        have hbv2 : Below y1.heap.size y1 v2 := by rw [← hv2]; exact (Below.refl _ _).alloc (Nat.le_refl _) _
        have hr2 : RdN v2 (.slice (some ⟨y1.heap.size, 0, none⟩) 1 1) [(q1, q2)] := rdn_one (p := (q1, q2)) (by rw [← hv2]; simp [go_sem]) (by rw [← hv2]; simp [go_sem])
        have hA2 := apply_aq (hsx.below hbv2) (edN hr2) HGX.out (by simp) (by simp) (by simp) (by simp)
        obtain ⟨c2', s2', hc2⟩ : ∃ c s', applyF x ⟨[], [], 0, [], [(q1, q2)]⟩ = (c, s') := ⟨_, _, rfl⟩
        obtain ⟨c3', s3', hc3⟩ : ∃ c s', applyF s ⟨[], [], 0, [], [(q1, q2), (p1, p2)]⟩ = (c, s') := ⟨_, _, rfl⟩
        rw [hc2] at hA2
        have HA2 := Lib.hid hA2
        have HPJ := Lib.hid (And.intro hpl (And.intro hc2 hc3))
        have HY1 := Lib.hid (And.intro hby1 hbv2)
        have x0 := hx.z0
        have x1 := hx.z1
        have x2 := hx.z2
        have x3 := hx.z3
        have x4 := hx.z4
        have b0 := hpr1.b0
        have b1 := hpr1.b1
        have HX := Lib.hid hx
        clear hA2 hpl hc2 hc3 hby1 hbv2 hr2 hsx hpr1 hx ox1 ox2 ox3 a0 a1 y0 y2 y3 y4 hxb
        go_upto_region 16 with (go_at_call 15; refine HA2.out.mono ?_; rintro r u2 ⟨fa, fc, la, lc, na, nc, rfl, o1, o2, o3, hb⟩; obtain ⟨U2, hU2⟩ : ∃ m, u2.alloc (.cells #[.slice none 0 0, .int .i64 0, .int .i64 0, .slice none 0 0, .slice none 0 0] 30) = m := ⟨_, rfl⟩; have hkp := jst_keep (t := s2') hU2 o1 o2 o3; have hz : ObZ U2 u2.heap.size := (by rw [← hU2]; exact ObZ.made u2); have z0 := hz.z0; have z1 := hz.z1; have z2 := hz.z2; have z3 := hz.z3; have z4 := hz.z4; have f0 := hz.zf 0; have f1 := hz.zf 1; have f2 := hz.zf 2; have f3 := hz.zf 3; have f4 := hz.zf 4; have HK2 := Lib.hid (And.intro hkp.1 ((HY1.out.2).trans ((hb.mono (HY1.out.2).size).trans (hkp.2.mono ((HY1.out.2).trans (hb.mono (HY1.out.2).size)).size)))); clear o1 o2 o3 hb hkp hz)
        have hk2 := HK2.out
        obtain ⟨y2, hy2⟩ : ∃ y2, (((((U2.setCell ⟨u2.heap.size, 0, none⟩ (.slice fa s2'.fs.length fc)).setCell ⟨u2.heap.size, 1, none⟩ (.int .i64 s2'.next)).setCell ⟨u2.heap.size, 2, none⟩ (.int .i64 s2'.log)).setCell ⟨u2.heap.size, 3, none⟩ (.slice la s2'.fl.length lc)).setCell ⟨u2.heap.size, 4, none⟩ (.slice na s2'.ns.length nc)) = y2 := ⟨_, rfl⟩
        rw [hy2] at hk2 ⊢
        obtain ⟨hj2, hby2⟩ := hk2
        obtain ⟨yb, hyb⟩ : ∃ m, u2.heap.size = m := ⟨_, rfl⟩
        rw [hyb] at hj2 ⊢
        clear hy2 z0 z1 z2 z3 z4 f0 f1 f2 f3 f4 hU2 HK2 x0 x1 x2 x3 x4 b0 b1
        have hbt2 := HY1.out.1.trans (hby2.mono HY1.out.1.size)
        have hpr2 := HS.out.1.below hbt2
        have hs12 := HS.out.2.2.1.below hbt2
        obtain ⟨v3, hv3⟩ : ∃ v3, y2.alloc (.cells #[.string q1, .string q2, .string p1, .string p2] 47) = v3 := ⟨_, rfl⟩
        have hbv3 : Below y2.heap.size y2 v3 := by rw [← hv3]; exact (Below.refl _ _).alloc (Nat.le_refl _) _
        have hr3 : RdN v3 (.slice (some ⟨y2.heap.size, 0, none⟩) 2 2) [(q1, q2), (p1, p2)] := rdn_two (p := (q1, q2)) (q := (p1, p2)) (by rw [← hv3]; simp [go_sem]) (by rw [← hv3]; simp [go_sem]) (by rw [← hv3]; simp [go_sem]) (by rw [← hv3]; simp [go_sem])
        have hA3 := apply_aq ((HST.out.below hbt2).below hbv3) (edN hr3) HS.out.2.1 (by simp) (by simp) (by simp) (by simp)
        rw [HPJ.out.2.2] at hA3
        have HA3 := Lib.hid hA3
        have HY2 := Lib.hid (And.intro hj2 (And.intro hbt2 hbv3))
        have a0 := hpr2.a0
        have a1 := hpr2.a1
        have b0 := hpr2.b0
        have b1 := hpr2.b1
        have w0 := hs12.z0
        have w1 := hs12.z1
        have w2' := hs12.z2
        have w3' := hs12.z3
        have w4 := hs12.z4
        clear hA3 hj2 hby2 hbt2 hpr2 hs12 hbv3 hr3 hyb
        go_upto_region 17 with (go_at_call 15; refine HA3.out.mono ?_; rintro r u3 ⟨fa, fc, la, lc, na, nc, rfl, o1, o2, o3, hb⟩; obtain ⟨U3, hU3⟩ : ∃ m, u3.alloc (.cells #[.slice none 0 0, .int .i64 0, .int .i64 0, .slice none 0 0, .slice none 0 0] 30) = m := ⟨_, rfl⟩; have hkp := jst_keep (t := s3') hU3 o1 o2 o3; have hz : ObZ U3 u3.heap.size := (by rw [← hU3]; exact ObZ.made u3); have z0 := hz.z0; have z1 := hz.z1; have z2 := hz.z2; have z3 := hz.z3; have z4 := hz.z4; have f0 := hz.zf 0; have f1 := hz.zf 1; have f2 := hz.zf 2; have f3 := hz.zf 3; have f4 := hz.zf 4; have HK3 := Lib.hid (And.intro hkp.1 ((HY2.out.2.2).trans ((hb.mono (HY2.out.2.2).size).trans (hkp.2.mono ((HY2.out.2.2).trans (hb.mono (HY2.out.2.2).size)).size)))); clear o1 o2 o3 hb hkp hz)
        have hk3 := HK3.out
        obtain ⟨y3, hy3⟩ : ∃ y3, (((((U3.setCell ⟨u3.heap.size, 0, none⟩ (.slice fa s3'.fs.length fc)).setCell ⟨u3.heap.size, 1, none⟩ (.int .i64 s3'.next)).setCell ⟨u3.heap.size, 2, none⟩ (.int .i64 s3'.log)).setCell ⟨u3.heap.size, 3, none⟩ (.slice la s3'.fl.length lc)).setCell ⟨u3.heap.size, 4, none⟩ (.slice na s3'.ns.length nc)) = y3 := ⟨_, rfl⟩
        rw [hy3] at hk3 ⊢
        obtain ⟨hj3, hby3⟩ := hk3
        obtain ⟨zb, hzb⟩ : ∃ m, u3.heap.size = m := ⟨_, rfl⟩
        rw [hzb] at hj3 ⊢
        clear hy3 z0 z1 z2 z3 z4 f0 f1 f2 f3 f4 hU3 HK3 a0 a1 b0 b1 w0 w1 w2' w3' w4 hzb
        have hj2 := HY2.out.1.below hby3
        have hbt3 := HS.out.1.b.trans ((HY2.out.2.1.trans (hby3.mono HY2.out.2.1.size)).mono HS.out.1.b.size)
        have HZ := Lib.hid (And.intro hj2 (And.intro hj3 hbt3))
        clear hj2 hj3 hbt3 hby3
        rcases HPJ.out with ⟨⟨e1, e2⟩ | ⟨y, e1, e2⟩, e3, e4⟩
        · obtain ⟨rfl, rfl⟩ := Prod.mk.inj (e3.symm.trans e1)
          obtain ⟨rfl, rfl⟩ := Prod.mk.inj (e4.symm.trans e2)
          clear e1 e2 e3 e4
          go_wp2_with (go_at_call 8; refine (malive_any _).mono ?_; rintro r w5 ⟨rfl, hb5⟩; have H5 := Lib.hid (HZ.out.2.2.trans (hb5.mono HZ.out.2.2.size)); clear hb5)
          go_ret
          exact ⟨rfl, H5.out⟩
        · obtain ⟨rfl, rfl⟩ := Prod.mk.inj (e3.symm.trans e1)
          obtain ⟨rfl, rfl⟩ := Prod.mk.inj (e4.symm.trans e2)
          have hgy := (good_apply HGX.out e1).1
          have HGY := Lib.hid hgy
          clear e1 e2 e3 e4 hgy
          go_wp2_with (first
            | (go_at_call 12; refine (msame_any H6.out.1 H6.out.2 (by have := HGY.out.few; omega) (by have := HGY.out.fl; rcases this with h9 | h9 <;> first | (rw [h9]; simp) | (unfold vecB at h9; simp only [Bool.and_eq_true, decide_eq_true_eq] at h9; omega)) (by have := HGY.out.nfew; omega)).mono ?_; rintro r w6 ⟨rfl, hb6⟩; have H7 := Lib.hid (H5.out.trans (hb6.mono H5.out.size)); clear hb6)
            | (go_at_call 8; refine (malive_any _).mono ?_; rintro r w5 ⟨rfl, hb5⟩; have H5 := Lib.hid (HZ.out.2.2.trans (hb5.mono HZ.out.2.2.size)); obtain ⟨v6, ⟨ya, yc, yd, ye, yf, yg, rfl, k6⟩, s6⟩ := (HZ.out.1.below hb5).st; obtain ⟨v7, ⟨za, zc, zd, ze, zf, zg, rfl, k7⟩, s7⟩ := (HZ.out.2.1.below hb5).st; have m0 := k6.z0; have m1 := k6.z1; have m2 := k6.z2; have m3 := k6.z3; have m4 := k6.z4; have n0 := k7.z0; have n1 := k7.z1; have n2 := k7.z2; have n3 := k7.z3; have n4 := k7.z4; have H6 := Lib.hid (And.intro s6 s7); clear hb5 k6 k7 s6 s7))
          go_ret
          exact ⟨rfl, H7.out⟩
end Go.Proofs.YtjebpppjhkkebaaGreatDoor

