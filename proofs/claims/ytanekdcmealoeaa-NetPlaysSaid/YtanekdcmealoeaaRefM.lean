/-
  The law NetPlays's walk.
-/
import Derived.Test.YtanekdcmealoeaaRefN
import Derived.Deep.DeepCutAuto
namespace Go.Proofs.Ytanekdcmealoeaa
open Go.RowKit Go.Maps

set_option maxRecDepth 100000 in
set_option maxHeartbeats 20000000 in
theorem plays_any (n : Int) (a : Option Addr) (len cap : Nat) (l : List LOp) (_ : (Lit.int .i64 n).wf = true) {W : World} (hl : OpsAt W a len l) (hlen : len ≤ maxLen) (w : World) (hWw : W = w) :
    Calls Try.prog 6 #[.int .i64 n, .slice a len cap] w fun e w' => e = .returned (.bool true) ∧ Below w.heap.size w w' := by
  subst hWw
  unfold maxLen at hlen
  obtain ⟨hll, hcells, hwf⟩ := hl
  generalize hw : W = w at *
  clear hw
  by_cases h60 : 300 < len
  · clear hcells hwf hll
    go_enter Try.func6, Try.ntmps6
    go_wp2_with fail
    refine (alive_any w).mono ?_
    rintro e w1 ⟨rfl, b1⟩
    go_wp2
    go_ret
    exact ⟨rfl, b1⟩
  · have HC := Lib.hid hcells
    have HLL := Lib.hid hll
    have HW : Hid (∀ o ∈ l, o.wf) := hwf
    have h2 : len ≤ 300 := by omega
    clear hcells hll hwf h60 hlen
    by_cases hbad : n < 1 ∨ 8 < n
    · have HB := Lib.hid hbad
      by_cases hb1 : n < 1
      · have t1 : decide (n < 1) = true := by simpa using hb1
        clear hbad
        go_enter Try.func6, Try.ntmps6
        go_wp2_with (go_at_call 9; refine (new_none w n HB.out).mono ?_; rintro _ _ ⟨rfl, rfl⟩; simp only [])
        refine (alive_any w).mono ?_
        rintro e w1 ⟨rfl, b1⟩
        go_wp2
        go_ret
        exact ⟨rfl, b1⟩
      · have t1 : decide (n < 1) = false := by simpa using hb1
        have t2 : decide (8 < n) = true := by simp; omega
        have h8 : 8 < n := by omega
        clear hbad
        go_enter Try.func6, Try.ntmps6
        go_wp2_with (go_at_call 9; refine (new_none w n HB.out).mono ?_; rintro _ _ ⟨rfl, rfl⟩; simp only [])
        refine (alive_any w).mono ?_
        rintro e w1 ⟨rfl, b1⟩
        go_wp2
        go_ret
        exact ⟨rfl, b1⟩
    · have h1 : 1 ≤ n := by omega
      have h8 : n ≤ 8 := by omega
      have t1 : decide (n < 1) = false := by simp; omega
      have t2 : decide (8 < n) = false := by simp; omega
      clear hbad
      have hz : ∀ w, (zeroValue 44).run Try.prog w = .ok (.agg #[.int .i64 0, .slice none 0 0, .slice none 0 0, .int .i64 0]) w := fun _ => by kernel_rfl
      have hz2 : ∀ w, (zeroValue 37).run Try.prog w = .ok (.agg #[.int .i64 0, .int .i64 0, .int .i64 0, .string ⟨#[]⟩]) w := fun _ => by kernel_rfl
      go_enter Try.func6, Try.ntmps6
      go_wp2_with fail
      refine (new_at w n h1 h8).mono ?_
      rintro _ w0 ⟨nb, rfl, hn0, hb0⟩
      simp only []
      obtain ⟨W1, hW1⟩ : ∃ W1, w0.alloc (.cells #[.int .i64 n, .slice none 0 0, .slice none 0 0, .int .i64 0] 44) = W1 := ⟨_, rfl⟩
      obtain ⟨hp0, hbp⟩ := pair_new hn0 h1 h8 W1 hW1.symm
      obtain ⟨rb, hrb⟩ : ∃ rb, w0.heap.size = rb := ⟨_, rfl⟩
      rw [hrb] at hp0
      have HP0 := Lib.hid hp0
      have HB0 := Lib.hid (hb0.trans (hbp.mono hb0.size))
      clear hn0 hb0 hp0 hbp
      go_wp2
      go_loopw [7] (fun x wr => ∃ (i c q : Nat) (s : St), i ≤ len ∧ x = .int .i64 (i : Int) ∧ Pair w.heap.size wr nb rb c q s s ∧ c ≤ i ∧ q ≤ i ∧ s.lost ≤ 30 * i ∧ Below w.heap.size w wr) (fun x _ => len - (intOf x).toNat)
      case atStart => exact ⟨0, 0, 0, St.new n, by omega, rfl, HP0.out, by omega, by omega, by simp [St.new], HB0.out⟩
      case round =>
        obtain ⟨i, c, q, s, hi, rfl, hp, hc, hq, hlost, hbel⟩ := hrel
        have HP := Lib.hid hp
        clear hp HP0 HB0 hW1 hrb
        by_cases hlt : i < len
        · obtain ⟨b, off, rfl, hb, hcc⟩ : ∃ b off, a = some ⟨b, off, none⟩ ∧ b < w.heap.size ∧ ∀ i (hi : i < l.length), l[i].here w b (off + i * 4) := by
            rcases HC.out with h | h
            · omega
            · exact h
          have hil : i < l.length := by have := HLL.out; omega
          obtain ⟨q0, q1, q2, q3⟩ := hcc i hil
          obtain ⟨ok, hok⟩ : ∃ o, o = l[i] := ⟨_, rfl⟩
          have HO := Lib.hid (HW.out l[i] (List.getElem_mem hil))
          rw [← hok] at q0 q1 q2 q3 HO
          clear hok hcc
          have r0 := (hbel.cell (p := ⟨b, off + i * 4, none⟩) hb).trans q0
          have r1 := (hbel.cell (p := ⟨b, off + i * 4 + 1, none⟩) hb).trans q1
          have r2 := (hbel.cell (p := ⟨b, off + i * 4 + 2, none⟩) hb).trans q2
          have r3 := (hbel.cell (p := ⟨b, off + i * 4 + 3, none⟩) hb).trans q3
          clear q0 q1 q2 q3
          obtain ⟨ob, hob⟩ : ∃ ob, wr.heap.size = ob := ⟨_, rfl⟩
          obtain ⟨W2, hW2⟩ : ∃ W2, wr.alloc (.cells #[.int .i64 0, .int .i64 0, .int .i64 0, .string ⟨#[]⟩] 37) = W2 := ⟨_, rfl⟩
          have kc0 : W2.cell? ⟨ob, 0, none⟩ = some (.int .i64 0) := by rw [← hob, ← hW2]; simp [go_sem]
          have kc1 : W2.cell? ⟨ob, 1, none⟩ = some (.int .i64 0) := by rw [← hob, ← hW2]; simp [go_sem]
          have kc2 : W2.cell? ⟨ob, 2, none⟩ = some (.int .i64 0) := by rw [← hob, ← hW2]; simp [go_sem]
          have kc3 : W2.cell? ⟨ob, 3, none⟩ = some (.string ⟨#[]⟩) := by rw [← hob, ← hW2]; simp [go_sem]
          have kf : ∀ j, W2.frozen? ⟨ob, j, none⟩ = false := by intro j; rw [← hob, ← hW2]; simp [go_sem]
          have hb2 : Below ob wr W2 := by rw [← hob, ← hW2]; exact (Below.refl _ _).alloc (Nat.le_refl _) _
          have hsz2 : W2.heap.size = ob + 1 := by rw [← hob, ← hW2]; simp
          obtain ⟨W3, hW3⟩ : ∃ W3, (((W2.setCell ⟨ob, 0, none⟩ (.int .i64 ok.k)).setCell ⟨ob, 1, none⟩ (.int .i64 ok.a)).setCell ⟨ob, 2, none⟩ (.int .i64 ok.b)).setCell ⟨ob, 3, none⟩ (.string ok.d) = W3 := ⟨_, rfl⟩
          have hO : OAt W3 ob ok := by rw [← hW3]; exact op_set ⟨_, kc0⟩ ⟨_, kc1⟩ ⟨_, kc2⟩ ⟨_, kc3⟩ ok
          have hb3 : Below ob wr W3 := by rw [← hW3]; exact ((((hb2.setCell (p := ⟨ob, 0, none⟩) (Nat.le_refl _) _).setCell (p := ⟨ob, 1, none⟩) (Nat.le_refl _) _).setCell (p := ⟨ob, 2, none⟩) (Nat.le_refl _) _).setCell (p := ⟨ob, 3, none⟩) (Nat.le_refl _) _)
          have hsz3 : ob < W3.heap.size := by rw [← hW3]; simp [World.setCell]; omega
          have z0 := hO.c0
          have z1 := hO.c1
          have z2 := hO.c2
          have z3 := hO.c3
          have HP3 := Lib.hid (HP.out.withO (hob ▸ hb3) (Nat.le_of_eq hob) hsz3)
          have HO3 := Lib.hid hO
          have HB3 := Lib.hid (hbel.trans (hb3.mono (hob ▸ hbel.size)))
          clear hb2 hsz2 hO hb3 hsz3 hbel
          by_cases hbig : 70000 < ok.d.size
          · go_wp2
            go_ret
            exact ⟨rfl, HB3.out⟩
          · obtain ⟨P, hP⟩ : ∃ P, P = ok.d.size * len := ⟨_, rfl⟩
            have hd7 : ok.d.size ≤ 70000 := by omega
            have hPle : P ≤ 70000 * 300 := by rw [hP]; exact Nat.mul_le_mul hd7 h2
            have hmul : (ok.d.size : Int) * (len : Int) = (P : Int) := by rw [hP]; simp
            clear hP
            by_cases hprod : 400000 < P
            · go_wp2
              go_ret
              exact ⟨rfl, HB3.out⟩
            · obtain ⟨k, pa, pb, d⟩ := ok
              simp only [] at z0 z1 z2 z3 hW3 r0 r1 r2 r3 hbig hmul hd7 hprod
              go_upto_region 16 with fail
              clear hob hW3 hW2 kc0 kc1 kc2 kc3 kf r0 r1 r2 r3 hmul hPle hd7 hbig hprod HP
              by_cases hk1 : k = 1
              · subst hk1
                as_aux_lemma =>
                  go_wp2_with fail
                  have hp3 := Lib.hid (HP3.out.same (Below.refl _ _).drew)
                  have y1 : W3.drew.cell? ⟨ob, 1, none⟩ = some (.int .i64 pa) := z1
                  have y2 : W3.drew.cell? ⟨ob, 2, none⟩ = some (.int .i64 pb) := z2
                  have y3 : W3.drew.cell? ⟨ob, 3, none⟩ = some (.string d) := z3
                  go_region_held3 (fun w' => w'.cell? ⟨ob, 1, none⟩ = some (.int .i64 pa) ∧ w'.cell? ⟨ob, 2, none⟩ = some (.int .i64 pb) ∧ w'.cell? ⟨ob, 3, none⟩ = some (.string d)) (first | exact ⟨y1, y2, y3⟩ | exact ⟨v1, v2, v3⟩ | exact ⟨u1, u2, u3⟩)
                    (first | (go_at_call 10; refine (psendO hp3.out pa pb d).mono ?_; rintro _ w4 ⟨rfl, hp4, hb4, he4⟩; have v1 := (World.cell?_of_block (a := ⟨ob, 1, none⟩) he4).trans y1; have v2 := (World.cell?_of_block (a := ⟨ob, 2, none⟩) he4).trans y2; have v3 := (World.cell?_of_block (a := ⟨ob, 3, none⟩) he4).trans y3) | (go_at_call 18; refine (qsendO hp4 pa pb d (by omega)).mono ?_; rintro _ w5 ⟨rfl, hp5, hb5, he5⟩; have u1 := (World.cell?_of_block (a := ⟨ob, 1, none⟩) he5).trans v1; have u2 := (World.cell?_of_block (a := ⟨ob, 2, none⟩) he5).trans v2; have u3 := (World.cell?_of_block (a := ⟨ob, 3, none⟩) he5).trans v3))
                  have HOZ := Lib.hid ((HO3.out.next he4).next he5)
                  have HBZ : Hid (Below w.heap.size w w5) := (HB3.out.drew.trans hb4).trans hb5
                  have HPZ := Lib.hid (hp5)
                  have HLZ : Hid ((s.send pa pb d).lost ≤ 30 * ((i : Int) + 1)) := by
                    unfold Hid
                    have := send_lost s pa pb d; omega
                  clear HP3 HO3 HB3 z0 z1 z2 z3 hlost
                  obtain ⟨g1, n1, cap1, x1, hn1, hx1, hn4, hx0, hR1, hR3, HLen, HLost, HCut, HRCut⟩ := looks HPZ.out.pair
                  obtain ⟨hO1, hO2⟩ := HOZ.out.held HPZ.out.lt
                  have HN1 := Lib.hid (And.intro hn1 hx1)
                  clear hn1 hx1
                  go_wp2_with fail
                  refine wp_region_heldd (by kernel_rfl) (by kernel_rfl) ?_
                  repeat (go_big_quiet_step (first | (go_at_call 12; exact HLen.out _) | (go_at_call 13; exact HLost.out _) | (go_at_call 15; exact HCut.out _ _ _ HO.out.2.1 HO.out.2.2.1) | (go_at_call 25; exact HRCut.out _ _ _)))
                  refine wpQuiet_nil ?_
                  intro _ hw'
                  obtain ⟨hx, hw''⟩ := hw'
                  subst hw''
                  go_wp2
                  go_roundw
                  case rel => exact ⟨i + 1, c, q, (s.send pa pb d), by omega, by go_num, HPZ.out.pair.same hx.prop, by omega, by omega, HLZ.out, HBZ.out.trans (hx.prop.mono HBZ.out.size)⟩
                  case measure => simp [intOf]; omega
              · have e1 : (k == 1) = false := by simpa using hk1
                by_cases hk2 : k = 2
                · subst hk2
                  as_aux_lemma =>
                    go_wp2_with fail
                    refine (ppeekO HP3.out pa).mono ?_
                    rintro _ w4 ⟨rfl, hp4, hb4, he4⟩
                    have v1 := (World.cell?_of_block (a := ⟨ob, 1, none⟩) he4).trans z1
                    simp only []
                    go_wp2_with fail
                    refine (qpeekO hp4 pa).mono ?_
                    rintro _ w5 ⟨rfl, hp5, hb5, he5⟩
                    simp only []
                    have HOZ := Lib.hid ((HO3.out.next he4).next he5)
                    have HBZ : Hid (Below w.heap.size w w5) := (HB3.out.trans hb4).trans hb5
                    have HPZ := Lib.hid (hp5)
                    have HLZ : Hid (s.lost ≤ 30 * ((i : Int) + 1)) := by
                      unfold Hid
                      omega
                    clear HP3 HO3 HB3 z0 z1 z2 z3 hlost
                    obtain ⟨g1, n1, cap1, x1, hn1, hx1, hn4, hx0, hR1, hR3, HLen, HLost, HCut, HRCut⟩ := looks HPZ.out.pair
                    obtain ⟨hO1, hO2⟩ := HOZ.out.held HPZ.out.lt
                    have HN1 := Lib.hid (And.intro hn1 hx1)
                    clear hn1 hx1
                    go_wp2_with fail
                    refine wp_region_heldd (by kernel_rfl) (by kernel_rfl) ?_
                    repeat (go_big_quiet_step (first | (go_at_call 12; exact HLen.out _) | (go_at_call 13; exact HLost.out _) | (go_at_call 15; exact HCut.out _ _ _ HO.out.2.1 HO.out.2.2.1) | (go_at_call 25; exact HRCut.out _ _ _)))
                    refine wpQuiet_nil ?_
                    intro _ hw'
                    obtain ⟨hx, hw''⟩ := hw'
                    subst hw''
                    go_wp2
                    go_roundw
                    case rel => exact ⟨i + 1, c, q, s, by omega, by go_num, HPZ.out.pair.same hx.prop, by omega, by omega, HLZ.out, HBZ.out.trans (hx.prop.mono HBZ.out.size)⟩
                    case measure => simp [intOf]; omega
                · have e2 : (k == 2) = false := by simpa using hk2
                  by_cases hk3 : k = 3
                  · subst hk3
                    as_aux_lemma =>
                      go_wp2_with fail
                      refine (pdeliverO HP3.out pa).mono ?_
                      rintro _ w4 ⟨rfl, hp4, hb4, he4⟩
                      have v1 := (World.cell?_of_block (a := ⟨ob, 1, none⟩) he4).trans z1
                      simp only []
                      go_wp2_with fail
                      refine (qdeliverO hp4 pa).mono ?_
                      rintro _ w5 ⟨rfl, hp5, hb5, he5⟩
                      simp only []
                      have HOZ := Lib.hid ((HO3.out.next he4).next he5)
                      have HBZ : Hid (Below w.heap.size w w5) := (HB3.out.trans hb4).trans hb5
                      have HPZ := Lib.hid (hp5)
                      have HLZ : Hid ((s.deliver pa).lost ≤ 30 * ((i : Int) + 1)) := by
                        unfold Hid
                        have := deliver_lost s pa; omega
                      clear HP3 HO3 HB3 z0 z1 z2 z3 hlost
                      obtain ⟨g1, n1, cap1, x1, hn1, hx1, hn4, hx0, hR1, hR3, HLen, HLost, HCut, HRCut⟩ := looks HPZ.out.pair
                      obtain ⟨hO1, hO2⟩ := HOZ.out.held HPZ.out.lt
                      have HN1 := Lib.hid (And.intro hn1 hx1)
                      clear hn1 hx1
                      go_wp2_with fail
                      refine wp_region_heldd (by kernel_rfl) (by kernel_rfl) ?_
                      repeat (go_big_quiet_step (first | (go_at_call 12; exact HLen.out _) | (go_at_call 13; exact HLost.out _) | (go_at_call 15; exact HCut.out _ _ _ HO.out.2.1 HO.out.2.2.1) | (go_at_call 25; exact HRCut.out _ _ _)))
                      refine wpQuiet_nil ?_
                      intro _ hw'
                      obtain ⟨hx, hw''⟩ := hw'
                      subst hw''
                      go_wp2
                      go_roundw
                      case rel => exact ⟨i + 1, c, q, (s.deliver pa), by omega, by go_num, HPZ.out.pair.same hx.prop, by omega, by omega, HLZ.out, HBZ.out.trans (hx.prop.mono HBZ.out.size)⟩
                      case measure => simp [intOf]; omega
                  · have e3 : (k == 3) = false := by simpa using hk3
                    by_cases hk4 : k = 4
                    · subst hk4
                      as_aux_lemma =>
                        go_wp2_with fail
                        have hp3 := Lib.hid (HP3.out.same (Below.refl _ _).drew)
                        have y1 : W3.drew.cell? ⟨ob, 1, none⟩ = some (.int .i64 pa) := z1
                        go_region_held3 (fun w' => w'.cell? ⟨ob, 1, none⟩ = some (.int .i64 pa)) (first | exact y1 | exact v1 | exact u1)
                          (first | (go_at_call 16; refine (pdropO hp3.out pa).mono ?_; rintro _ w4 ⟨rfl, hp4, hb4, he4⟩; have v1 := (World.cell?_of_block (a := ⟨ob, 1, none⟩) he4).trans y1) | (go_at_call 22; refine (qdropO hp4 pa (by omega)).mono ?_; rintro _ w5 ⟨rfl, hp5, hb5, he5⟩; have u1 := (World.cell?_of_block (a := ⟨ob, 1, none⟩) he5).trans v1))
                        have HOZ := Lib.hid ((HO3.out.next he4).next he5)
                        have HBZ : Hid (Below w.heap.size w w5) := (HB3.out.drew.trans hb4).trans hb5
                        have HPZ := Lib.hid (hp5)
                        have HLZ : Hid ((s.drop pa).lost ≤ 30 * ((i : Int) + 1)) := by
                          unfold Hid
                          have := drop_lost s pa; omega
                        clear HP3 HO3 HB3 z0 z1 z2 z3 hlost
                        obtain ⟨g1, n1, cap1, x1, hn1, hx1, hn4, hx0, hR1, hR3, HLen, HLost, HCut, HRCut⟩ := looks HPZ.out.pair
                        obtain ⟨hO1, hO2⟩ := HOZ.out.held HPZ.out.lt
                        have HN1 := Lib.hid (And.intro hn1 hx1)
                        clear hn1 hx1
                        go_wp2_with fail
                        refine wp_region_heldd (by kernel_rfl) (by kernel_rfl) ?_
                        repeat (go_big_quiet_step (first | (go_at_call 12; exact HLen.out _) | (go_at_call 13; exact HLost.out _) | (go_at_call 15; exact HCut.out _ _ _ HO.out.2.1 HO.out.2.2.1) | (go_at_call 25; exact HRCut.out _ _ _)))
                        refine wpQuiet_nil ?_
                        intro _ hw'
                        obtain ⟨hx, hw''⟩ := hw'
                        subst hw''
                        go_wp2
                        go_roundw
                        case rel => exact ⟨i + 1, c, q, (s.drop pa), by omega, by go_num, HPZ.out.pair.same hx.prop, by omega, by omega, HLZ.out, HBZ.out.trans (hx.prop.mono HBZ.out.size)⟩
                        case measure => simp [intOf]; omega
                    · have e4 : (k == 4) = false := by simpa using hk4
                      by_cases hk5 : k = 5
                      · subst hk5
                        as_aux_lemma =>
                          go_wp2_with fail
                          have hp3 := Lib.hid (HP3.out.same (Below.refl _ _).drew)
                          have y1 : W3.drew.cell? ⟨ob, 1, none⟩ = some (.int .i64 pa) := z1
                          go_region_held3 (fun w' => w'.cell? ⟨ob, 1, none⟩ = some (.int .i64 pa)) (first | exact y1 | exact v1 | exact u1)
                            (first | (go_at_call 17; refine (ptwiceO hp3.out pa).mono ?_; rintro _ w4 ⟨rfl, hp4, hb4, he4⟩; have v1 := (World.cell?_of_block (a := ⟨ob, 1, none⟩) he4).trans y1) | (go_at_call 23; refine (qtwiceO hp4 pa).mono ?_; rintro _ w5 ⟨rfl, hp5, hb5, he5⟩; have u1 := (World.cell?_of_block (a := ⟨ob, 1, none⟩) he5).trans v1))
                          have HOZ := Lib.hid ((HO3.out.next he4).next he5)
                          have HBZ : Hid (Below w.heap.size w w5) := (HB3.out.drew.trans hb4).trans hb5
                          have HPZ := Lib.hid (hp5)
                          have HLZ : Hid ((s.twice pa).lost ≤ 30 * ((i : Int) + 1)) := by
                            unfold Hid
                            have := twice_lost s pa; omega
                          clear HP3 HO3 HB3 z0 z1 z2 z3 hlost
                          obtain ⟨g1, n1, cap1, x1, hn1, hx1, hn4, hx0, hR1, hR3, HLen, HLost, HCut, HRCut⟩ := looks HPZ.out.pair
                          obtain ⟨hO1, hO2⟩ := HOZ.out.held HPZ.out.lt
                          have HN1 := Lib.hid (And.intro hn1 hx1)
                          clear hn1 hx1
                          go_wp2_with fail
                          refine wp_region_heldd (by kernel_rfl) (by kernel_rfl) ?_
                          repeat (go_big_quiet_step (first | (go_at_call 12; exact HLen.out _) | (go_at_call 13; exact HLost.out _) | (go_at_call 15; exact HCut.out _ _ _ HO.out.2.1 HO.out.2.2.1) | (go_at_call 25; exact HRCut.out _ _ _)))
                          refine wpQuiet_nil ?_
                          intro _ hw'
                          obtain ⟨hx, hw''⟩ := hw'
                          subst hw''
                          go_wp2
                          go_roundw
                          case rel => exact ⟨i + 1, c, q, (s.twice pa), by omega, by go_num, HPZ.out.pair.same hx.prop, by omega, by omega, HLZ.out, HBZ.out.trans (hx.prop.mono HBZ.out.size)⟩
                          case measure => simp [intOf]; omega
                      · have e5 : (k == 5) = false := by simpa using hk5
                        by_cases hk8 : k = 8
                        · subst hk8
                          as_aux_lemma =>
                            go_wp2
                            go_loopw [25] (fun x wk => ∃ (j : Nat) (s2 : St), j ≤ 30 ∧ x = .int .i64 (j : Int) ∧ PairO ob w.heap.size wk nb rb c q s2 s2 ∧ s2.lost ≤ s.lost + j ∧ Below w.heap.size w wk ∧ wk.heap[ob]? = W3.heap[ob]?) (fun x _ => 30 - (intOf x).toNat)
                            case atStart => exact ⟨0, s, by omega, rfl, HP3.out, by omega, HB3.out, rfl⟩
                            case round =>
                              obtain ⟨j, s2, hj, rfl, hpj, hlj, hbj, hej⟩ := hrel
                              by_cases hj30 : j < 30
                              · go_wp2_with fail
                                refine (psendO hpj 0 1 ⟨#[120]⟩).mono ?_
                                rintro _ w4 ⟨rfl, hp4, hb4, he4⟩
                                simp only []
                                go_wp2_with fail
                                refine (qsendO hp4 0 1 ⟨#[120]⟩ (by omega)).mono ?_
                                rintro _ w5 ⟨rfl, hp5, hb5, he5⟩
                                simp only []
                                have hls := send_lost s2 0 1 ⟨#[120]⟩
                                go_wp2
                                go_roundw
                                case rel => exact ⟨j + 1, _, by omega, by go_num, hp5, by omega, (hbj.trans hb4).trans hb5, (he5.trans he4).trans hej⟩
                                case measure => simp [intOf]; omega
                              · obtain rfl : j = 30 := by omega
                                have z1j := (World.cell?_of_block (a := ⟨ob, 1, none⟩) hej).trans z1
                                have HOZ := Lib.hid (HO3.out.next hej)
                                have HBZ := Lib.hid hbj
                                have HPZ := Lib.hid (hpj)
                                have HLZ : Hid (s2.lost ≤ 30 * ((i : Int) + 1)) := by
                                  unfold Hid
                                  omega
                                clear HP3 HO3 HB3 z0 z1 z2 z3 hlost
                                obtain ⟨g1, n1, cap1, x1, hn1, hx1, hn4, hx0, hR1, hR3, HLen, HLost, HCut, HRCut⟩ := looks HPZ.out.pair
                                obtain ⟨hO1, hO2⟩ := HOZ.out.held HPZ.out.lt
                                have HN1 := Lib.hid (And.intro hn1 hx1)
                                clear hn1 hx1
                                go_wp2_with fail
                                refine wp_region_heldd (by kernel_rfl) (by kernel_rfl) ?_
                                repeat (go_big_quiet_step (first | (go_at_call 12; exact HLen.out _) | (go_at_call 13; exact HLost.out _) | (go_at_call 15; exact HCut.out _ _ _ HO.out.2.1 HO.out.2.2.1) | (go_at_call 25; exact HRCut.out _ _ _)))
                                refine wpQuiet_nil ?_
                                intro _ hw'
                                obtain ⟨hx, hw''⟩ := hw'
                                subst hw''
                                go_wp2
                                go_roundw
                                case rel => exact ⟨i + 1, c, q, s2, by omega, by go_num, HPZ.out.pair.same hx.prop, by omega, by omega, HLZ.out, HBZ.out.trans (hx.prop.mono HBZ.out.size)⟩
                                case measure => simp [intOf]; omega
                        · have e8 : (k == 8) = false := by simpa using hk8
                          by_cases hk67 : k = 6 ∨ k = 7
                          · rcases hk67 with rfl | rfl
                            · have e67 : ((6 : Int) == 6) = true := by decide
                              as_aux_lemma =>
                                go_wp2_with fail
                                have hp3 := Lib.hid (HP3.out.same (Below.refl _ _).drew)
                                have y1 : W3.drew.cell? ⟨ob, 1, none⟩ = some (.int .i64 pa) := z1
                                have y2 : W3.drew.cell? ⟨ob, 2, none⟩ = some (.int .i64 pb) := z2
                                have y0 : W3.drew.cell? ⟨ob, 0, none⟩ = some (.int .i64 6) := z0
                                go_region_held3 (fun w' => w'.cell? ⟨ob, 1, none⟩ = some (.int .i64 pa) ∧ w'.cell? ⟨ob, 2, none⟩ = some (.int .i64 pb) ∧ w'.cell? ⟨ob, 0, none⟩ = some (.int .i64 6)) (first | exact ⟨y1, y2, y0⟩ | exact ⟨v1, v2, v0⟩ | exact ⟨u1, u2, u0⟩)
                                  (first | (go_at_call 14; refine (pcutO hp3.out pa pb true (by omega)).mono ?_; rintro _ w4 ⟨rfl, hp4, hb4, he4⟩; have v1 := (World.cell?_of_block (a := ⟨ob, 1, none⟩) he4).trans y1; have v2 := (World.cell?_of_block (a := ⟨ob, 2, none⟩) he4).trans y2; have v0 := (World.cell?_of_block (a := ⟨ob, 0, none⟩) he4).trans y0) | (go_at_call 24; refine (qcutO hp4 pa pb true (by omega)).mono ?_; rintro _ w5 ⟨rfl, hp5, hb5, he5⟩; have u1 := (World.cell?_of_block (a := ⟨ob, 1, none⟩) he5).trans v1; have u2 := (World.cell?_of_block (a := ⟨ob, 2, none⟩) he5).trans v2; have u0 := (World.cell?_of_block (a := ⟨ob, 0, none⟩) he5).trans v0))
                                have HOZ := Lib.hid ((HO3.out.next he4).next he5)
                                have HBZ : Hid (Below w.heap.size w w5) := (HB3.out.drew.trans hb4).trans hb5
                                have HPZ := Lib.hid (hp5)
                                have HLZ : Hid ((s.cuts pa pb true).lost ≤ 30 * ((i : Int) + 1)) := by
                                  unfold Hid
                                  have := cuts_lost s pa pb true; omega
                                clear HP3 HO3 HB3 z0 z1 z2 z3 hlost
                                obtain ⟨g1, n1, cap1, x1, hn1, hx1, hn4, hx0, hR1, hR3, HLen, HLost, HCut, HRCut⟩ := looks HPZ.out.pair
                                obtain ⟨hO1, hO2⟩ := HOZ.out.held HPZ.out.lt
                                have HN1 := Lib.hid (And.intro hn1 hx1)
                                clear hn1 hx1
                                go_wp2_with fail
                                refine wp_region_heldd (by kernel_rfl) (by kernel_rfl) ?_
                                repeat (go_big_quiet_step (first | (go_at_call 12; exact HLen.out _) | (go_at_call 13; exact HLost.out _) | (go_at_call 15; exact HCut.out _ _ _ HO.out.2.1 HO.out.2.2.1) | (go_at_call 25; exact HRCut.out _ _ _)))
                                refine wpQuiet_nil ?_
                                intro _ hw'
                                obtain ⟨hx, hw''⟩ := hw'
                                subst hw''
                                go_wp2
                                go_roundw
                                case rel => exact ⟨i + 1, (c + 1), (q + 1), (s.cuts pa pb true), by omega, by go_num, HPZ.out.pair.same hx.prop, by omega, by omega, HLZ.out, HBZ.out.trans (hx.prop.mono HBZ.out.size)⟩
                                case measure => simp [intOf]; omega
                            · have e67 : ((7 : Int) == 6) = false := by decide
                              as_aux_lemma =>
                                go_wp2_with fail
                                have hp3 := Lib.hid (HP3.out.same (Below.refl _ _).drew)
                                have y1 : W3.drew.cell? ⟨ob, 1, none⟩ = some (.int .i64 pa) := z1
                                have y2 : W3.drew.cell? ⟨ob, 2, none⟩ = some (.int .i64 pb) := z2
                                have y0 : W3.drew.cell? ⟨ob, 0, none⟩ = some (.int .i64 7) := z0
                                go_region_held3 (fun w' => w'.cell? ⟨ob, 1, none⟩ = some (.int .i64 pa) ∧ w'.cell? ⟨ob, 2, none⟩ = some (.int .i64 pb) ∧ w'.cell? ⟨ob, 0, none⟩ = some (.int .i64 7)) (first | exact ⟨y1, y2, y0⟩ | exact ⟨v1, v2, v0⟩ | exact ⟨u1, u2, u0⟩)
                                  (first | (go_at_call 14; refine (pcutO hp3.out pa pb false (by omega)).mono ?_; rintro _ w4 ⟨rfl, hp4, hb4, he4⟩; have v1 := (World.cell?_of_block (a := ⟨ob, 1, none⟩) he4).trans y1; have v2 := (World.cell?_of_block (a := ⟨ob, 2, none⟩) he4).trans y2; have v0 := (World.cell?_of_block (a := ⟨ob, 0, none⟩) he4).trans y0) | (go_at_call 24; refine (qcutO hp4 pa pb false (by omega)).mono ?_; rintro _ w5 ⟨rfl, hp5, hb5, he5⟩; have u1 := (World.cell?_of_block (a := ⟨ob, 1, none⟩) he5).trans v1; have u2 := (World.cell?_of_block (a := ⟨ob, 2, none⟩) he5).trans v2; have u0 := (World.cell?_of_block (a := ⟨ob, 0, none⟩) he5).trans v0))
                                have HOZ := Lib.hid ((HO3.out.next he4).next he5)
                                have HBZ : Hid (Below w.heap.size w w5) := (HB3.out.drew.trans hb4).trans hb5
                                have HPZ := Lib.hid (hp5)
                                have HLZ : Hid ((s.cuts pa pb false).lost ≤ 30 * ((i : Int) + 1)) := by
                                  unfold Hid
                                  have := cuts_lost s pa pb false; omega
                                clear HP3 HO3 HB3 z0 z1 z2 z3 hlost
                                obtain ⟨g1, n1, cap1, x1, hn1, hx1, hn4, hx0, hR1, hR3, HLen, HLost, HCut, HRCut⟩ := looks HPZ.out.pair
                                obtain ⟨hO1, hO2⟩ := HOZ.out.held HPZ.out.lt
                                have HN1 := Lib.hid (And.intro hn1 hx1)
                                clear hn1 hx1
                                go_wp2_with fail
                                refine wp_region_heldd (by kernel_rfl) (by kernel_rfl) ?_
                                repeat (go_big_quiet_step (first | (go_at_call 12; exact HLen.out _) | (go_at_call 13; exact HLost.out _) | (go_at_call 15; exact HCut.out _ _ _ HO.out.2.1 HO.out.2.2.1) | (go_at_call 25; exact HRCut.out _ _ _)))
                                refine wpQuiet_nil ?_
                                intro _ hw'
                                obtain ⟨hx, hw''⟩ := hw'
                                subst hw''
                                go_wp2
                                go_roundw
                                case rel => exact ⟨i + 1, (c + 1), (q + 1), (s.cuts pa pb false), by omega, by go_num, HPZ.out.pair.same hx.prop, by omega, by omega, HLZ.out, HBZ.out.trans (hx.prop.mono HBZ.out.size)⟩
                                case measure => simp [intOf]; omega
                          · have e6 : (k == 6) = false := by simp; omega
                            have e7 : (k == 7) = false := by simp; omega
                            clear hk67
                            as_aux_lemma =>
                              have HOZ := Lib.hid (HO3.out)
                              have HBZ : Hid (Below w.heap.size w W3) := HB3.out
                              have HPZ := Lib.hid (HP3.out)
                              have HLZ : Hid (s.lost ≤ 30 * ((i : Int) + 1)) := by
                                unfold Hid
                                omega
                              clear HP3 HO3 HB3 z0 z1 z2 z3 hlost
                              obtain ⟨g1, n1, cap1, x1, hn1, hx1, hn4, hx0, hR1, hR3, HLen, HLost, HCut, HRCut⟩ := looks HPZ.out.pair
                              obtain ⟨hO1, hO2⟩ := HOZ.out.held HPZ.out.lt
                              have HN1 := Lib.hid (And.intro hn1 hx1)
                              clear hn1 hx1
                              go_wp2_with fail
                              refine wp_region_heldd (by kernel_rfl) (by kernel_rfl) ?_
                              repeat (go_big_quiet_step (first | (go_at_call 12; exact HLen.out _) | (go_at_call 13; exact HLost.out _) | (go_at_call 15; exact HCut.out _ _ _ HO.out.2.1 HO.out.2.2.1) | (go_at_call 25; exact HRCut.out _ _ _)))
                              refine wpQuiet_nil ?_
                              intro _ hw'
                              obtain ⟨hx, hw''⟩ := hw'
                              subst hw''
                              go_wp2
                              go_roundw
                              case rel => exact ⟨i + 1, c, q, s, by omega, by go_num, HPZ.out.pair.same hx.prop, by omega, by omega, HLZ.out, HBZ.out.trans (hx.prop.mono HBZ.out.size)⟩
                              case measure => simp [intOf]; omega
        · obtain rfl : i = len := by omega
          obtain ⟨lr, cr, cl, hr, _, _⟩ := HP.out.ref
          obtain ⟨g1, cap1, hlr⟩ := hr.form
          obtain ⟨n1, hn1⟩ : ∃ n1, n1 = s.l.length := ⟨_, rfl⟩
          have hR1 : wr.cell? ⟨rb, 1, none⟩ = some (.slice g1 n1 cap1) := by rw [hn1, ← hlr]; exact hr.c1
          have hn4 : n1 ≤ 400 := by rw [hn1]; exact hr.len
          have HR := Lib.hid hr
          have HN1 := Lib.hid hn1
          have HLR := Lib.hid hlr
          clear hr hn1 hlr
          go_wp2
          go_loopw [26] (fun x wk => ∃ (j : Nat), j ≤ n1 ∧ x = .int .i64 (j : Int) ∧ Below wr.heap.size wr wk) (fun x _ => n1 - (intOf x).toNat)
          case atStart => exact ⟨0, by omega, rfl, Below.refl _ _⟩
          case round =>
            obtain ⟨j, hj, rfl, hbj⟩ := hrel
            have HRj := Lib.hid (HR.out.below hbj)
            have HPj := Lib.hid (HP.out.same hbj)
            have hR1j : _ := HRj.out.c1
            rw [HLR.out, ← HN1.out] at hR1j
            by_cases hjn : j < n1
            · obtain ⟨gg, cap2, hlr2, hcap2, hcm2, q0, q1, q2⟩ := HRj.out.cells j (by have := HN1.out; omega)
              obtain ⟨m, hm⟩ : ∃ m, m = s.l[j]'(by have := HN1.out; omega) := ⟨_, rfl⟩
              rw [← hm] at q0 q1 q2
              have hmsg : s.msg (j : Int) = m := by rw [hm]; exact (St.msg_nat _).2
              have hask : s.askE (j : Int) = 0 := by rw [St.askE, if_pos (St.msg_nat (by have := HN1.out; omega)).1]
              have HG : Hid (g1 = some ⟨gg, 0, none⟩ ∧ cap1 = cap2) := by
                have := HLR.out.symm.trans hlr2
                injection this with u1 u2 u3
                exact ⟨u1, u3⟩
              obtain ⟨rfl, rfl⟩ := HG.out
              rw [← HN1.out] at hcap2
              clear hlr2 hm
              go_wp2_with fail
              have HPk := Lib.hid (peekB HPj.out (j : Int))
              refine HPk.out.mono ?_
              rintro _ w4 ⟨rfl, hb4⟩
              rw [hmsg, hask]
              have hR1k := (hb4.cell (World.block_lt_of_cell? _ _ hR1j)).trans hR1j
              have s0 := (hb4.cell (World.block_lt_of_cell? _ _ q0)).trans q0
              have s1 := (hb4.cell (World.block_lt_of_cell? _ _ q1)).trans q1
              have s2 := (hb4.cell (World.block_lt_of_cell? _ _ q2)).trans q2
              clear hmsg hask q0 q1 q2 hR1j
              simp only []
              go_wp2
              go_roundw
              case rel => exact ⟨j + 1, by omega, by go_num, hbj.trans (hb4.mono hbj.size)⟩
              case measure => simp [intOf]; omega
            · go_wp2_with fail
              refine (alive_any _).mono ?_
              rintro e w1 ⟨rfl, b1⟩
              go_wp2
              go_ret
              exact ⟨rfl, (hbel.trans (hbj.mono hbel.size)).trans (b1.mono (hbel.trans (hbj.mono hbel.size)).size)⟩
end Go.Proofs.Ytanekdcmealoeaa
