/-
  The law SkipHeights's walk.
-/
import Derived.Test.YtnhieingcmnfaaaSame
import Derived.Test.YtnhieingcmnfaaaLawFound
namespace Go.Proofs.Ytnhieingcmnfaaa
open Go.RowKit Go.Maps

theorem Two.turn2 {B : Nat} {w w' : World} {sa sb : Nat} {Ea Eb : List Nd} (h : Two B w sa Ea sb Eb) (ht : Tn (fun _ => False) w w') : Two B w' sa Ea sb Eb := by
  obtain ⟨Fa, Fb, h1, h2, h3⟩ := h
  exact ⟨Fa, Fb, h1.turn ht (fun _ _ e => e), h2.turn ht (fun _ _ e => e), h3⟩

theorem rot_fwd {n k j : Nat} (hk : k < n) (hj : j < n) : ∃ j', j' < n ∧ (j' + k) % n = j := by
  rcases Nat.lt_or_ge j k with h | h
  · refine ⟨j + n - k, by omega, ?_⟩
    rw [show j + n - k + k = j + n by omega, Nat.add_mod_right, Nat.mod_eq_of_lt hj]
  · exact ⟨j - k, by omega, by rw [show j - k + k = j by omega, Nat.mod_eq_of_lt hj]⟩

set_option maxRecDepth 100000 in
set_option maxHeartbeats 4000000 in
theorem heights_law (a : Option Addr) (len cap : Nat) (l : List ByteArray) (a2 : Option Addr) (len2 cap2 : Nat) (l2 : List Int) (by_ : Int) {W : World} (hl : StrsAt W a len l) (hlen : len ≤ maxLen) (hl2 : IntsAt W a2 len2 l2) (hlen2 : len2 ≤ maxLen) (hby : (Lit.int .i64 by_).wf = true) (w : World) (hWw : W = w) :
    Calls Try.prog 4 #[.slice a len cap, .slice a2 len2 cap2, .int .i64 by_] w fun e w' => e = .returned (.bool true) ∧ Below w.heap.size w w' := by
  subst hWw
  unfold maxLen at hlen hlen2
  obtain ⟨hby1, hby2⟩ := int_wf hby
  obtain ⟨hll, hcells, hwf⟩ := hl
  obtain ⟨hll2, hcells2, hwf2⟩ := hl2
  generalize hw : W = w at *
  clear hw hby
  by_cases hbig : 120 < len ∨ len = 0 ∨ len2 = 0
  · clear hcells hwf hll hcells2 hwf2 hll2
    have t : decide ((120 : Int) < (len : Int)) = true ∨ (decide ((120 : Int) < (len : Int)) = false ∧ ((len : Int) == 0) = true) ∨ (decide ((120 : Int) < (len : Int)) = false ∧ ((len : Int) == 0) = false ∧ ((len2 : Int) == 0) = true) := by
      simp only [decide_eq_true_eq, decide_eq_false_iff_not, beq_iff_eq, beq_eq_false_iff_ne]; omega
    clear hbig
    rcases t with t1 | ⟨t1, t2⟩ | ⟨t1, t2, t3⟩
    all_goals
      go_enter Try.func4, Try.ntmps4
      go_wp2_with fail
      refine (alive_any w).mono ?_
      rintro e w1 ⟨rfl, b1⟩
      go_wp2
      go_ret
      exact ⟨rfl, b1⟩
  · have HC := Lib.hid hcells
    have HLL := Lib.hid hll
    have HC2 := Lib.hid hcells2
    have HLL2 := Lib.hid hll2
    have HWF2 : Hid (∀ n ∈ l2, (Lit.int .i64 n).wf = true) := hwf2
    have HSZ : Hid (∀ s ∈ l, s.size ≤ maxLen) := hwf
    have h2 : len ≤ 120 := by omega
    have h20 : 0 < len2 := by omega
    have h10 : 0 < len := by omega
    have h10n : ¬ len = 0 := by omega
    have h20n : ¬ len2 = 0 := by omega
    have t1 : ((len : Int) == 0) = false := by simp; omega
    have t2 : ((len2 : Int) == 0) = false := by simp; omega
    have hrem0 : -(len : Int) < by_.tmod len ∧ by_.tmod len < len := by
      exact ⟨Int.lt_tmod_of_pos by_ (by omega), Int.tmod_lt_of_pos by_ (by omega)⟩
    obtain ⟨r, hr⟩ : ∃ r, by_.tmod len = r := ⟨_, rfl⟩
    rw [hr] at hrem0
    obtain ⟨hr1, hr2⟩ := hrem0
    clear hcells hll hwf hbig hlen hcells2 hll2 hwf2
    go_enter Try.func4, Try.ntmps4
    go_wp2_with fail
    refine (new_n w).mono ?_
    rintro _ w00 ⟨sa, rfl, hn00, hb00⟩
    simp only []
    go_wp2_with fail
    refine (two_new w00 w.heap.size hb00.size hn00).mono ?_
    rintro _ w0 ⟨sb, rfl, hn0, hb0⟩
    have HN0 := Lib.hid hn0
    have HBB := Lib.hid (hb00.trans (hb0.mono hb00.size))
    simp only []
    clear hb00 hb0 hn00 hn0
    go_upto_if 36 with fail
    go_cut [9] (fun k wc => ∃ kk : Nat, kk < len ∧ k = .int .i64 (kk : Int) ∧ wc = w0)
    case first =>
      by_cases hr0 : r < 0
      · go_wp2
        go_meet
        case rel => exact ⟨(r + len).toNat, by omega, by first | rfl | (congr 1; omega), rfl⟩
      · go_wp2
        go_meet
        case rel => exact ⟨r.toNat, by omega, by first | rfl | (congr 1; omega), rfl⟩
    case rest =>
      obtain ⟨kk, hkk, rfl, rfl⟩ := hcut
      clear hr hr1 hr2
      go_wp2
      go_loopw [10] (fun x wr => ∃ (i : Nat) (Ea Eb : List Nd), i ≤ len ∧ x = .int .i64 (i : Int) ∧ Two w.heap.size wr sa Ea sb Eb ∧ KsI (gk l) i Ea ∧ KsI (fun j => gk l ((j + kk) % len)) i Eb ∧ (∀ n ∈ Ea, n.h = 1) ∧ (∀ j, j < i → (gk l j).size ≤ 500) ∧ Below w.heap.size w wr) (fun x _ => len - (intOf x).toNat)
      case atStart => exact ⟨0, [], [], by omega, rfl, HN0.out, KsI.zero _, KsI.zero _, by simp, by omega, HBB.out⟩
      case round =>
        obtain ⟨i, Ea, Eb, hi, rfl, hn, hka, hkb, hfl, hsm, hbel⟩ := hrel
        have HN := Lib.hid hn
        have HK2 := Lib.hid (And.intro hka (And.intro hkb (And.intro hfl hsm)))
        have hEa : Ea.length ≤ i := hka.1
        have hEb : Eb.length ≤ i := hkb.1
        have HB := Lib.hid hbel
        have hz := hbel.size
        clear hn hka hkb hfl hsm hbel
        by_cases hlt : i < len
        · have hkey : ∀ (w1 : World) (j : Nat), Below w.heap.size w w1 → j < len → ∃ b off, a = some ⟨b, off, none⟩ ∧ b < w.heap.size ∧ w1.cell? ⟨b, off + j, none⟩ = some (.string (gk l j)) := by
            intro w1 j hw1 hj
            rcases HC.out with h | ⟨b, off, h1, hb, h3⟩
            · omega
            · have hjl : j < l.length := by have := HLL.out; omega
              refine ⟨b, off, h1, hb, (hw1.cell (p := ⟨b, off + j, none⟩) hb).trans ?_⟩
              rw [h3 j hjl]
              unfold gk
              rw [List.getD_eq_getElem?_getD, List.getElem?_eq_getElem hjl]
              rfl
          obtain ⟨b, off, rfl, hb, hci⟩ := hkey wr i HB.out hlt
          obtain ⟨m, hm⟩ : ∃ m, m = (i + kk) % len := ⟨_, rfl⟩
          have hml : m < len := by rw [hm]; exact Nat.mod_lt _ h10
          obtain ⟨b', off', hbo, _, hcm⟩ := hkey wr m HB.out hml
          obtain ⟨rfl, rfl⟩ : b = b' ∧ off = off' := by cases hbo; exact ⟨rfl, rfl⟩
          obtain ⟨b2, off2, rfl, hb2, hc2⟩ : ∃ b off, a2 = some ⟨b, off, none⟩ ∧ b < w.heap.size ∧ ∀ i (hi : i < l2.length), w.cell? ⟨b, off + i, none⟩ = some (.int .i64 l2[i]) := by
            rcases HC2.out with h | h
            · omega
            · exact h
          obtain ⟨m2, hm2⟩ : ∃ m, m = i % len2 := ⟨_, rfl⟩
          have hm2l : m2 < len2 := by rw [hm2]; exact Nat.mod_lt _ h20
          have hci2 := (HB.out.cell (p := ⟨b2, off2 + m2, none⟩) hb2).trans (hc2 m2 (by have := HLL2.out; omega))
          obtain ⟨hh, hhh⟩ : ∃ hh, l2[m2]'(by have := HLL2.out; omega) = hh := ⟨_, rfl⟩
          rw [hhh] at hci2
          obtain ⟨T, hT⟩ : ∃ T, gk l i = T := ⟨_, rfl⟩
          obtain ⟨T2, hT2⟩ : ∃ T, gk l m = T := ⟨_, rfl⟩
          rw [hT] at hci
          rw [hT2] at hcm
          have hTs : T.size ≤ 9223372036854775807 := by
            have hjl : i < l.length := by have := HLL.out; omega
            have := HSZ.out (gk l i) (by unfold gk; rw [List.getD_eq_getElem?_getD, List.getElem?_eq_getElem hjl]; exact List.getElem_mem hjl)
            rw [hT] at this
            unfold maxLen at this
            omega
          have e1 : (i : Int).tmod (len2 : Int) = (m2 : Int) := by
            rw [Int.tmod_eq_emod_of_nonneg (by omega), hm2]; simp
          have e2 : ((i : Int) + (kk : Int)).tmod (len : Int) = (m : Int) := by
            rw [Int.tmod_eq_emod_of_nonneg (by omega), hm]; simp
          obtain ⟨s, hs⟩ : ∃ s : Nat, s = i + kk := ⟨_, rfl⟩
          have e3 : ((i : Int) + (kk : Int)) = (s : Int) := by omega
          have e4 : (s : Int).tmod (len : Int) = (m : Int) := by rw [← e3]; exact e2
          have e5 : IntKind.i64.wrap (s : Int) = (s : Int) := IntWalk.i64_in _ (by omega)
          have q1 : (i : Int) < (len : Int) := by omega
          have q2 : (m : Int) < (len : Int) := by omega
          have q3 : (m2 : Int) < (len2 : Int) := by omega
          have HT := Lib.hid (And.intro hT (And.intro hT2 hm))
          clear hT hT2 hm hm2 hhh hc2 hkey hbo hs e2
          by_cases hbig : 500 < T.size
          · go_wp2_with fail
            refine (alive_any wr).mono ?_
            rintro e w1 ⟨rfl, b1⟩
            go_wp2
            go_ret
            exact ⟨rfl, HB.out.trans (b1.mono hz)⟩
          · have ht3 : T.size ≤ 500 := by omega
            have HND := Lib.hid (HN.out.below (Below.refl _ _).drew)
            have kd1 : wr.drew.cell? ⟨b, off + i, none⟩ = some (.string T) := hci
            go_wp2_with fail
            refine wp_region_K (fun w' => w'.cell? ⟨b, off + i, none⟩ = some (.string T)) 9 10 (by kernel_rfl) (by kernel_rfl) kd1 (fun hH => ?_)
            refine wpAnyK_take (i := 0) [9] (v := ?v1) rfl (by kernel_rfl) (by kernel_rfl) (by kernel_rfl) (by kernel_rfl) (fun _ _ _ h => h) (Or.inl ⟨by rfl, ?hy1⟩) hH ?rest1
            case hy1 => (intro w hSw; (try dsimp only at hSw); go_simp; with_reducible rfl)
            try simp only [Act.put, List.setIfInBounds_toArray, List.set_cons_zero, List.set_cons_succ]
            refine wpAnyK_take (i := 1) [3, 4, 9] (v := ?v2) rfl (by kernel_rfl) (by kernel_rfl) (by kernel_rfl) (by kernel_rfl) (fun _ _ _ h => h) (Or.inl ⟨by rfl, ?hy2⟩) hH ?rest2
            case hy2 => (intro w hSw; (try dsimp only at hSw); go_simp; with_reducible rfl)
            try simp only [Act.put, List.setIfInBounds_toArray, List.set_cons_zero, List.set_cons_succ]
            refine wpAnyK_take (i := 2) [3, 4, 9] (v := ?v3) rfl (by kernel_rfl) (by kernel_rfl) (by kernel_rfl) (by kernel_rfl) (fun _ _ _ h => h) (Or.inl ⟨by rfl, ?hy3⟩) hH ?rest3
            case hy3 => (intro w hSw; (try dsimp only at hSw); go_simp; with_reducible rfl)
            try simp only [Act.put, List.setIfInBounds_toArray, List.set_cons_zero, List.set_cons_succ]
            refine wpAnyK_take (i := 3) [4, 9] (v := ?v4) rfl (by kernel_rfl) (by kernel_rfl) (by kernel_rfl) (by kernel_rfl) (fun _ _ _ h => h) (Or.inl ⟨by rfl, ?hy4⟩) hH ?rest4
            case hy4 => (intro w hSw; (try dsimp only at hSw); go_simp; with_reducible rfl)
            try simp only [Act.put, List.setIfInBounds_toArray, List.set_cons_zero, List.set_cons_succ]
            refine wpAnyK_take (i := 4) [9] (v := ?v5) rfl (by kernel_rfl) (by kernel_rfl) (by kernel_rfl) (by kernel_rfl) (fun _ _ _ h => h) (Or.inl ⟨by rfl, ?hy5⟩) hH ?rest5
            case hy5 => (intro w hSw; (try dsimp only at hSw); go_simp; with_reducible rfl)
            try simp only [Act.put, List.setIfInBounds_toArray, List.set_cons_zero, List.set_cons_succ]
            refine wpAnyK_take (i := 5) [7, 8, 9] (v := ?v6) rfl (by kernel_rfl) (by kernel_rfl) (by kernel_rfl) (by kernel_rfl) (fun _ _ _ h => h) (Or.inl ⟨by rfl, ?hy6⟩) hH ?rest6
            case hy6 => (intro w hSw; (try dsimp only at hSw); go_simp; with_reducible rfl)
            try simp only [Act.put, List.setIfInBounds_toArray, List.set_cons_zero, List.set_cons_succ]
            refine wpAnyK_take (i := 6) [7, 8, 9] (v := ?v7) rfl (by kernel_rfl) (by kernel_rfl) (by kernel_rfl) (by kernel_rfl) (fun _ _ _ h => h) (Or.inl ⟨by rfl, ?hy7⟩) hH ?rest7
            case hy7 => (intro w hSw; (try dsimp only at hSw); go_simp; with_reducible rfl)
            try simp only [Act.put, List.setIfInBounds_toArray, List.set_cons_zero, List.set_cons_succ]
            refine wpAnyK_take (i := 7) [8, 9] (v := ?v8) rfl (by kernel_rfl) (by kernel_rfl) (by kernel_rfl) (by kernel_rfl) (fun _ _ _ h => h) (Or.inl ⟨by rfl, ?hy8⟩) hH ?rest8
            case hy8 => (intro w hSw; (try dsimp only at hSw); go_simp; with_reducible rfl)
            try simp only [Act.put, List.setIfInBounds_toArray, List.set_cons_zero, List.set_cons_succ]
            refine wpAnyK_take (i := 8) [9] (v := ?v9) rfl (by kernel_rfl) (by kernel_rfl) (by kernel_rfl) (by kernel_rfl) (fun _ _ _ h => h) (Or.inl ⟨by rfl, ?hy9⟩) hH ?rest9
            case hy9 => (intro w hSw; (try dsimp only at hSw); go_simp; with_reducible rfl)
            try simp only [Act.put, List.setIfInBounds_toArray, List.set_cons_zero, List.set_cons_succ]
            refine wpAnyK_last (by kernel_rfl) rfl (fun K hK => ?_) (by kernel_rfl)
            go_simp
            go_at_call 10
            refine (two_put HND.out (by have e : wr.drew.heap.size = wr.heap.size := rfl; omega) _ _ _ (by omega)).mono ?_
            rintro _ w1 ⟨rfl, hn1, hb1⟩
            refine hK.out _ _ (wpAnyK_done (by kernel_rfl) ?_ _)
            clear hK K hH
            have hB1 := (HB.out.trans (Below.refl _ _).drew).trans hb1
            have HN1 := Lib.hid hn1.swap
            have HB1 := Lib.hid hB1
            have hz1 := hB1.size
            have hcm1 := (hb1.cell (p := ⟨b, off + m, none⟩) hb).trans hcm
            have hci3 := (hb1.cell (p := ⟨b2, off2 + m2, none⟩) hb2).trans hci2
            clear hn1 hb1 hB1 kd1 hci hci2 hcm
            go_wp2_with fail
            have kd1 : w1.drew.cell? ⟨b, off + m, none⟩ = some (.string T2) := hcm1
            have kd2 : w1.drew.cell? ⟨b2, off2 + m2, none⟩ = some (.int .i64 hh) := hci3
            have HND1 := Lib.hid (HN1.out.below (Below.refl _ _).drew)
            refine wp_region_K (fun w' => w'.cell? ⟨b, off + m, none⟩ = some (.string T2) ∧ w'.cell? ⟨b2, off2 + m2, none⟩ = some (.int .i64 hh)) 26 27 (by kernel_rfl) (by kernel_rfl) ⟨kd1, kd2⟩ (fun hH => ?_)
            refine wpAnyK_take (i := 0) [26] (v := ?v10) rfl (by kernel_rfl) (by kernel_rfl) (by kernel_rfl) (by kernel_rfl) (fun _ _ _ h => h) (Or.inl ⟨by rfl, ?hy10⟩) hH ?rest10
            case hy10 => (intro w hSw; (try dsimp only at hSw); go_simp; with_reducible rfl)
            try simp only [Act.put, List.setIfInBounds_toArray, List.set_cons_zero, List.set_cons_succ]
            refine wpAnyK_take (i := 1) [8, 9, 26] (v := ?v11) rfl (by kernel_rfl) (by kernel_rfl) (by kernel_rfl) (by kernel_rfl) (fun _ _ _ h => h) (Or.inl ⟨by rfl, ?hy11⟩) hH ?rest11
            case hy11 => (intro w hSw; (try dsimp only at hSw); go_simp; with_reducible rfl)
            try simp only [Act.put, List.setIfInBounds_toArray, List.set_cons_zero, List.set_cons_succ]
            refine wpAnyK_take (i := 2) [4, 7, 8, 9, 26] (v := ?v12) rfl (by kernel_rfl) (by kernel_rfl) (by kernel_rfl) (by kernel_rfl) (fun _ _ _ h => h) (Or.inl ⟨by rfl, ?hy12⟩) hH ?rest12
            case hy12 => (intro w hSw; (try dsimp only at hSw); go_simp; with_reducible rfl)
            try simp only [Act.put, List.setIfInBounds_toArray, List.set_cons_zero, List.set_cons_succ]
            refine wpAnyK_take (i := 3) [4, 7, 8, 9, 26] (v := ?v13) rfl (by kernel_rfl) (by kernel_rfl) (by kernel_rfl) (by kernel_rfl) (fun _ _ _ h => h) (Or.inl ⟨by rfl, ?hy13⟩) hH ?rest13
            case hy13 => (intro w hSw; (try dsimp only at hSw); go_simp; with_reducible rfl)
            try simp only [Act.put, List.setIfInBounds_toArray, List.set_cons_zero, List.set_cons_succ]
            refine wpAnyK_take (i := 4) [7, 8, 9, 26] (v := ?v14) rfl (by kernel_rfl) (by kernel_rfl) (by kernel_rfl) (by kernel_rfl) (fun _ _ _ h => h) (Or.inl ⟨by rfl, ?hy14⟩) hH ?rest14
            case hy14 => (intro w hSw; (try dsimp only at hSw); go_simp; with_reducible rfl)
            try simp only [Act.put, List.setIfInBounds_toArray, List.set_cons_zero, List.set_cons_succ]
            refine wpAnyK_take (i := 5) [6, 7, 8, 9, 26] (v := ?v15) rfl (by kernel_rfl) (by kernel_rfl) (by kernel_rfl) (by kernel_rfl) (fun _ _ _ h => h) (Or.inl ⟨by rfl, ?hy15⟩) hH ?rest15
            case hy15 => (intro w hSw; (try dsimp only at hSw); go_simp; with_reducible rfl)
            try simp only [Act.put, List.setIfInBounds_toArray, List.set_cons_zero, List.set_cons_succ]
            refine wpAnyK_take (i := 6) [7, 8, 9, 26] (v := ?v16) rfl (by kernel_rfl) (by kernel_rfl) (by kernel_rfl) (by kernel_rfl) (fun _ _ _ h => h) (Or.inl ⟨by rfl, ?hy16⟩) hH ?rest16
            case hy16 => (intro w hSw; (try dsimp only at hSw); go_simp; with_reducible rfl)
            try simp only [Act.put, List.setIfInBounds_toArray, List.set_cons_zero, List.set_cons_succ]
            refine wpAnyK_take (i := 7) [8, 9, 26] (v := ?v17) rfl (by kernel_rfl) (by kernel_rfl) (by kernel_rfl) (by kernel_rfl) (fun _ _ _ h => h) (Or.inl ⟨by rfl, ?hy17⟩) hH ?rest17
            case hy17 => (intro w hSw; (try dsimp only at hSw); go_simp; with_reducible rfl)
            try simp only [Act.put, List.setIfInBounds_toArray, List.set_cons_zero, List.set_cons_succ]
            refine wpAnyK_take (i := 8) [9, 26] (v := ?v18) rfl (by kernel_rfl) (by kernel_rfl) (by kernel_rfl) (by kernel_rfl) (fun _ _ _ h => h) (Or.inl ⟨by rfl, ?hy18⟩) hH ?rest18
            case hy18 => (intro w hSw; (try dsimp only at hSw); go_simp; with_reducible rfl)
            try simp only [Act.put, List.setIfInBounds_toArray, List.set_cons_zero, List.set_cons_succ]
            refine wpAnyK_take (i := 9) [26] (v := ?v19) rfl (by kernel_rfl) (by kernel_rfl) (by kernel_rfl) (by kernel_rfl) (fun _ _ _ h => h) (Or.inl ⟨by rfl, ?hy19⟩) hH ?rest19
            case hy19 => (intro w hSw; (try dsimp only at hSw); go_simp; with_reducible rfl)
            try simp only [Act.put, List.setIfInBounds_toArray, List.set_cons_zero, List.set_cons_succ]
            refine wpAnyK_take (i := 10) [17, 18, 26] (v := ?v20) rfl (by kernel_rfl) (by kernel_rfl) (by kernel_rfl) (by kernel_rfl) (fun _ _ _ h => h) (Or.inl ⟨by rfl, ?hy20⟩) hH ?rest20
            case hy20 => (intro w hSw; (try dsimp only at hSw); go_simp; with_reducible rfl)
            try simp only [Act.put, List.setIfInBounds_toArray, List.set_cons_zero, List.set_cons_succ]
            refine wpAnyK_take (i := 11) [13, 16, 17, 18, 26] (v := ?v21) rfl (by kernel_rfl) (by kernel_rfl) (by kernel_rfl) (by kernel_rfl) (fun _ _ _ h => h) (Or.inl ⟨by rfl, ?hy21⟩) hH ?rest21
            case hy21 => (intro w hSw; (try dsimp only at hSw); go_simp; with_reducible rfl)
            try simp only [Act.put, List.setIfInBounds_toArray, List.set_cons_zero, List.set_cons_succ]
            refine wpAnyK_take (i := 12) [13, 16, 17, 18, 26] (v := ?v22) rfl (by kernel_rfl) (by kernel_rfl) (by kernel_rfl) (by kernel_rfl) (fun _ _ _ h => h) (Or.inl ⟨by rfl, ?hy22⟩) hH ?rest22
            case hy22 => (intro w hSw; (try dsimp only at hSw); go_simp; with_reducible rfl)
            try simp only [Act.put, List.setIfInBounds_toArray, List.set_cons_zero, List.set_cons_succ]
            refine wpAnyK_take (i := 13) [16, 17, 18, 26] (v := ?v23) rfl (by kernel_rfl) (by kernel_rfl) (by kernel_rfl) (by kernel_rfl) (fun _ _ _ h => h) (Or.inl ⟨by rfl, ?hy23⟩) hH ?rest23
            case hy23 => (intro w hSw; (try dsimp only at hSw); go_simp; with_reducible rfl)
            try simp only [Act.put, List.setIfInBounds_toArray, List.set_cons_zero, List.set_cons_succ]
            refine wpAnyK_take (i := 14) [15, 16, 17, 18, 26] (v := ?v24) rfl (by kernel_rfl) (by kernel_rfl) (by kernel_rfl) (by kernel_rfl) (fun _ _ _ h => h) (Or.inl ⟨by rfl, ?hy24⟩) hH ?rest24
            case hy24 => (intro w hSw; (try dsimp only at hSw); go_simp; with_reducible rfl)
            try simp only [Act.put, List.setIfInBounds_toArray, List.set_cons_zero, List.set_cons_succ]
            refine wpAnyK_take (i := 15) [16, 17, 18, 26] (v := ?v25) rfl (by kernel_rfl) (by kernel_rfl) (by kernel_rfl) (by kernel_rfl) (fun _ _ _ h => h) (Or.inl ⟨by rfl, ?hy25⟩) hH ?rest25
            case hy25 => (intro w hSw; (try dsimp only at hSw); go_simp; with_reducible rfl)
            try simp only [Act.put, List.setIfInBounds_toArray, List.set_cons_zero, List.set_cons_succ]
            refine wpAnyK_take (i := 16) [17, 18, 26] (v := ?v26) rfl (by kernel_rfl) (by kernel_rfl) (by kernel_rfl) (by kernel_rfl) (fun _ _ _ h => h) (Or.inl ⟨by rfl, ?hy26⟩) hH ?rest26
            case hy26 => (intro w hSw; (try dsimp only at hSw); go_simp; with_reducible rfl)
            try simp only [Act.put, List.setIfInBounds_toArray, List.set_cons_zero, List.set_cons_succ]
            refine wpAnyK_take (i := 17) [18, 26] (v := ?v27) rfl (by kernel_rfl) (by kernel_rfl) (by kernel_rfl) (by kernel_rfl) (fun _ _ _ h => h) (Or.inl ⟨by rfl, ?hy27⟩) hH ?rest27
            case hy27 => (intro w hSw; (try dsimp only at hSw); go_simp; with_reducible rfl)
            try simp only [Act.put, List.setIfInBounds_toArray, List.set_cons_zero, List.set_cons_succ]
            refine wpAnyK_take (i := 18) [26] (v := ?v28) rfl (by kernel_rfl) (by kernel_rfl) (by kernel_rfl) (by kernel_rfl) (fun _ _ _ h => h) (Or.inl ⟨by rfl, ?hy28⟩) hH ?rest28
            case hy28 => (intro w hSw; (try dsimp only at hSw); go_simp; with_reducible rfl)
            try simp only [Act.put, List.setIfInBounds_toArray, List.set_cons_zero, List.set_cons_succ]
            refine wpAnyK_take (i := 19) [24, 25, 26] (v := ?v29) rfl (by kernel_rfl) (by kernel_rfl) (by kernel_rfl) (by kernel_rfl) (fun _ _ _ h => h) (Or.inl ⟨by rfl, ?hy29⟩) hH ?rest29
            case hy29 => (intro w hSw; (try dsimp only at hSw); go_simp; with_reducible rfl)
            try simp only [Act.put, List.setIfInBounds_toArray, List.set_cons_zero, List.set_cons_succ]
            refine wpAnyK_take (i := 20) [23, 24, 25, 26] (v := ?v30) rfl (by kernel_rfl) (by kernel_rfl) (by kernel_rfl) (by kernel_rfl) (fun _ _ _ h => h) (Or.inl ⟨by rfl, ?hy30⟩) hH ?rest30
            case hy30 => (intro w hSw; (try dsimp only at hSw); go_simp; with_reducible rfl)
            try simp only [Act.put, List.setIfInBounds_toArray, List.set_cons_zero, List.set_cons_succ]
            refine wpAnyK_take (i := 21) [22, 23, 24, 25, 26] (v := ?v31) rfl (by kernel_rfl) (by kernel_rfl) (by kernel_rfl) (by kernel_rfl) (fun _ _ _ h => h) (Or.inl ⟨by rfl, ?hy31⟩) hH ?rest31
            case hy31 => (intro w hSw; (try dsimp only at hSw); go_simp; with_reducible rfl)
            try simp only [Act.put, List.setIfInBounds_toArray, List.set_cons_zero, List.set_cons_succ]
            refine wpAnyK_take (i := 22) [23, 24, 25, 26] (v := ?v32) rfl (by kernel_rfl) (by kernel_rfl) (by kernel_rfl) (by kernel_rfl) (fun _ _ _ h => h) (Or.inl ⟨by rfl, ?hy32⟩) hH ?rest32
            case hy32 => (intro w hSw; (try dsimp only at hSw); go_simp; with_reducible rfl)
            try simp only [Act.put, List.setIfInBounds_toArray, List.set_cons_zero, List.set_cons_succ]
            refine wpAnyK_take (i := 23) [24, 25, 26] (v := ?v33) rfl (by kernel_rfl) (by kernel_rfl) (by kernel_rfl) (by kernel_rfl) (fun _ _ _ h => h) (Or.inl ⟨by rfl, ?hy33⟩) hH ?rest33
            case hy33 => (intro w hSw; (try dsimp only at hSw); go_simp; with_reducible rfl)
            try simp only [Act.put, List.setIfInBounds_toArray, List.set_cons_zero, List.set_cons_succ]
            refine wpAnyK_take (i := 24) [25, 26] (v := ?v34) rfl (by kernel_rfl) (by kernel_rfl) (by kernel_rfl) (by kernel_rfl) (fun _ _ _ h => h) (Or.inl ⟨by rfl, ?hy34⟩) hH ?rest34
            case hy34 => (intro w hSw; (try dsimp only at hSw); go_simp; with_reducible rfl)
            try simp only [Act.put, List.setIfInBounds_toArray, List.set_cons_zero, List.set_cons_succ]
            refine wpAnyK_take (i := 25) [26] (v := ?v35) rfl (by kernel_rfl) (by kernel_rfl) (by kernel_rfl) (by kernel_rfl) (fun _ _ _ h => h) (Or.inl ⟨by rfl, ?hy35⟩) hH ?rest35
            case hy35 => (intro w hSw; (try dsimp only at hSw); go_simp; with_reducible rfl)
            try simp only [Act.put, List.setIfInBounds_toArray, List.set_cons_zero, List.set_cons_succ]
            refine wpAnyK_last (by kernel_rfl) rfl (fun K hK => ?_) (by kernel_rfl)
            go_simp
            go_at_call 10
            refine (two_put HND1.out (by have e : w1.drew.heap.size = w1.heap.size := rfl; omega) _ _ _ (by omega)).mono ?_
            rintro _ w2 ⟨rfl, hn2, hb2⟩
            refine hK.out _ _ (wpAnyK_done (by kernel_rfl) ?_ _)
            clear hK K hH
            have HB2 := Lib.hid ((HB1.out.trans (Below.refl _ _).drew).trans hb2)
            have HX : Hid (∃ Ea' Eb', Two w.heap.size w2 sa Ea' sb Eb' ∧ KsI (gk l) (i + 1) Ea' ∧ KsI (fun j => gk l ((j + kk) % len)) (i + 1) Eb' ∧ (∀ n ∈ Ea', n.h = 1) ∧ (∀ j, j < i + 1 → (gk l j).size ≤ 500)) := by
              refine ⟨_, _, hn2.swap, HK2.out.1.step HT.out.1 _, HK2.out.2.1.step (by rw [← HT.out.2.2]; exact HT.out.2.1) _, flat_put HK2.out.2.2.1 _ _ _, fun j hj => ?_⟩
              by_cases e : j = i
              · subst e; rw [HT.out.1]; exact ht3
              · exact HK2.out.2.2.2 j (by omega)
            clear hn2 hb2 kd1 kd2 hcm1 hci3
            go_wp2
            go_roundw
            case rel =>
              obtain ⟨Ea', Eb', x1, x2, x3, x4, x5⟩ := HX.out
              exact ⟨i + 1, Ea', Eb', by omega, by go_num, x1, x2, x3, x4, x5, HB2.out⟩
            case measure => simp [intOf]; omega
        · obtain rfl : i = len := by omega
          have hsame : Ea.map kvOf = Eb.map kvOf := by
            refine ks_same HK2.out.1 HK2.out.2.1 HN.out.a.sorted HN.out.b.sorted (fun j hj => by have := HK2.out.2.2.2 j hj; omega) (fun j hj => ?_) (fun j hj => ⟨_, Nat.mod_lt _ h10, rfl⟩)
            obtain ⟨j', h1, h2⟩ := rot_fwd hkk hj
            exact ⟨j', h1, by rw [h2]⟩
          have HSAME := Lib.hid hsame
          clear hsame
          go_wp2_with fail
          refine (from_n HN.out.a ⟨#[]⟩ (-1) (by omega) (by omega)).mono ?_
          rintro _ w1 ⟨v1, rfl, hr1, hb1⟩
          rw [from_all] at hr1
          obtain ⟨x1, cx1, rfl, hk1⟩ := row_kvAt hr1
          have HN1 := Lib.hid (HN.out.below hb1)
          have HB1 := Lib.hid (HB.out.trans (hb1.mono hz))
          have hz1 := hb1.size
          simp only []
          go_wp2_with fail
          refine (from_n HN1.out.b ⟨#[]⟩ (-1) (by omega) (by omega)).mono ?_
          rintro _ w2 ⟨v2, rfl, hr2, hb2⟩
          rw [from_all, ← HSAME.out] at hr2
          obtain ⟨x2, cx2, rfl, hk2⟩ := row_kvAt hr2
          have hk1' := hk1.below hb2
          have HN2 := Lib.hid (HN1.out.below hb2)
          have HB2 := Lib.hid (HB1.out.trans (hb2.mono (by omega)))
          have hz2 := (HB2.out).size
          have HKV := Lib.hid (And.intro hk1' hk2)
          obtain ⟨p, hp⟩ : ∃ p, p = (Ea.map kvOf).length := ⟨_, rfl⟩
          have hpE : p = Ea.length := by rw [hp, List.length_map]
          have hpEb : p = Eb.length := by rw [hp, HSAME.out, List.length_map]
          have HP := Lib.hid (And.intro hp (And.intro hpE hpEb))
          have hp100 : p ≤ 120 := by omega
          rw [← hp]
          simp only []
          clear hb1 hb2 hr1 hr2 hk1 hk1' hk2 hp hpE hpEb
          go_wp2
          go_loopw [13] (fun x wr => ∃ j : Nat, j ≤ p ∧ x = .int .i64 (j : Int) ∧ Below w2.heap.size w2 wr) (fun x _ => p - (intOf x).toNat)
          case atStart => exact ⟨0, by omega, rfl, Below.refl _ _⟩
          case round =>
            obtain ⟨j, hj, rfl, hbd⟩ := hrel
            have HN3 := Lib.hid (HN2.out.below hbd)
            have HBD := Lib.hid hbd
            by_cases hlt : j < p
            · have hjl : j < (Ea.map kvOf).length := by have := HP.out.1; omega
              have hja : j < Ea.length := by have := HP.out.2.1; omega
              have hjb : j < Eb.length := by have := HP.out.2.2; omega
              obtain ⟨g, rfl, hg, hcells⟩ : ∃ g, x2 = some ⟨g, 0, none⟩ ∧ g < w2.heap.size ∧ ∀ j (hj : j < (Ea.map kvOf).length), w2.cell? ⟨g, j * 2, none⟩ = some (.string (Ea.map kvOf)[j].1) ∧ w2.cell? ⟨g, j * 2 + 1, none⟩ = some (.string (Ea.map kvOf)[j].2) := HKV.out.2.resolve_left (by omega)
              have c1 := (hbd.cell (p := ⟨g, j * 2, none⟩) hg).trans (hcells j hjl).1
              obtain ⟨K0, hK0⟩ : ∃ K0, Ea[j].k = K0 := ⟨_, rfl⟩
              have ek : (Ea.map kvOf)[j].1 = K0 := by simp [kvOf, hK0]
              have ekb : Eb[j].k = K0 := by
                have h1 : (Ea.map kvOf)[j]? = (Eb.map kvOf)[j]? := by rw [HSAME.out]
                rw [List.getElem?_eq_getElem hjl, List.getElem?_map, List.getElem?_eq_getElem hjb] at h1
                simp only [Option.map_some, Option.some.injEq] at h1
                rw [← ek, h1]
                rfl
              rw [ek] at c1
              have hsa : stepsOf Ea K0 = (j : Int) := by
                rw [steps_flat HK2.out.2.2.1, ← hK0, below_mem HN.out.a.sorted (List.getElem?_eq_getElem hja)]
              have hsb : stepsOf Eb K0 ≤ (j : Int) := by
                have := steps_le Eb K0
                rw [← ekb, below_mem HN.out.b.sorted (List.getElem?_eq_getElem hjb)] at this
                rw [← ekb]
                exact this
              obtain ⟨N, hN⟩ : ∃ N, stepsOf Eb K0 = N := ⟨_, rfl⟩
              rw [hN] at hsb
              have HS := Lib.hid (And.intro hsa hN)
              have t3 : decide ((j : Int) < N) = false := by simp; omega
              have q1 : (j : Int) < (p : Int) := by omega
              have q2 : (0 : Int) ≤ (j : Int) := by omega
              have hca : ∀ W : World, Below w2.heap.size w2 W → Calls Try.prog 14 #[.pointer (some ⟨sa, 0, none⟩), .string K0] W fun e w' => e = .returned (.int .i64 (j : Int)) ∧ W = w' := fun W hW => by
                rw [← HS.out.1]
                exact steps_n (HN2.out.below hW).a K0
              have HCA := Lib.hid hca
              clear hsa hN hca ekb ek
              by_cases hj0 : 0 < j
              · obtain ⟨m, hm⟩ : ∃ m, m = j - 1 := ⟨_, rfl⟩
                have hml : m < (Ea.map kvOf).length := by omega
                have c2 := (hbd.cell (p := ⟨g, m * 2, none⟩) hg).trans (hcells m hml).1
                obtain ⟨K1, hK1⟩ : ∃ K1, (Ea.map kvOf)[m].1 = K1 := ⟨_, rfl⟩
                rw [hK1] at c2
                have hlt2 : kcmp K1 K0 < 0 := by
                  have h1 := (List.pairwise_iff_getElem.1 HN.out.a.sorted) m j (by omega) hja (by omega)
                  rw [hK0] at h1
                  rw [← hK1]
                  simpa [kvOf] using h1
                have s1 : Op.bytesLess K1.toList K0.toList = true := by rw [less_k]; simpa using hlt2
                have e1 : IntKind.i64.wrap ((j : Int) - 1) = (m : Int) := by rw [IntWalk.i64_in _ (by omega)]; omega
                have e2 : (j : Int) - 1 = (m : Int) := by omega
                have e3 : (m : Int) < (p : Int) := by omega
                have e4 : (0 : Int) ≤ (m : Int) := by omega
                have e5 : decide (0 < j) = true := by simpa using hj0
                have e6 : decide ((0 : Int) < (j : Int)) = true := by simpa using hj0
                have hx1 : ∀ x : HW wr, x.val.cell? ⟨g, j * 2, none⟩ = some (.string K0) := fun x => (x.ok.cell (p := ⟨g, j * 2, none⟩) (World.block_lt_of_cell? _ _ c1)).trans c1
                have hx2 : ∀ x : HW wr, x.val.cell? ⟨g, m * 2, none⟩ = some (.string K1) := fun x => (x.ok.cell (p := ⟨g, m * 2, none⟩) (World.block_lt_of_cell? _ _ c2)).trans c2
                have HCH : Hid (∀ x : HW wr, Calls Try.prog 14 #[.pointer (some ⟨sa, 0, none⟩), .string K0] x.val fun e w' => e = .returned (.int .i64 (j : Int)) ∧ x.val = w') := fun x => HCA.out x.val (HBD.out.trans (x.ok.mono HBD.out.size))
                clear hm hK1 hlt2 hcells hK0 hbd hg
                go_wp2_with fail
                refine (steps_n HN3.out.b K0).mono ?_
                rintro _ _ ⟨rfl, rfl⟩
                rw [HS.out.2]
                simp only []
                go_wp2_with fail
                refine wp_region_held_lit (by kernel_rfl) (by kernel_rfl) ?_
                repeat (go_big_quiet_step ((go_at_call 14; exact calls_held_same (HCH.out _))))
                refine wpQuiet_nil ?_
                intro _ hw'
                obtain ⟨hx, hw''⟩ := hw'
                subst hw''
                have hxo := hx.ok
                go_wp2
                go_roundw
                case rel => exact ⟨j + 1, by omega, by go_num, HBD.out.trans (hxo.mono HBD.out.size)⟩
                case measure => simp [intOf]; omega
              · have e5 : decide (0 < j) = false := by simpa using hj0
                have e6 : decide ((0 : Int) < (j : Int)) = false := by simp; omega
                have hx1 : ∀ x : HW wr, x.val.cell? ⟨g, j * 2, none⟩ = some (.string K0) := fun x => (x.ok.cell (p := ⟨g, j * 2, none⟩) (World.block_lt_of_cell? _ _ c1)).trans c1
                have HCH : Hid (∀ x : HW wr, Calls Try.prog 14 #[.pointer (some ⟨sa, 0, none⟩), .string K0] x.val fun e w' => e = .returned (.int .i64 (j : Int)) ∧ x.val = w') := fun x => HCA.out x.val (HBD.out.trans (x.ok.mono HBD.out.size))
                clear hcells hK0 hbd hg
                go_wp2_with fail
                refine (steps_n HN3.out.b K0).mono ?_
                rintro _ _ ⟨rfl, rfl⟩
                rw [HS.out.2]
                simp only []
                go_wp2_with fail
                refine wp_region_held_lit (by kernel_rfl) (by kernel_rfl) ?_
                repeat (go_big_quiet_step ((go_at_call 14; exact calls_held_same (HCH.out _))))
                refine wpQuiet_nil ?_
                intro _ hw'
                obtain ⟨hx, hw''⟩ := hw'
                subst hw''
                have hxo := hx.ok
                go_wp2
                go_roundw
                case rel => exact ⟨j + 1, by omega, by go_num, HBD.out.trans (hxo.mono HBD.out.size)⟩
                case measure => simp [intOf]; omega
            · obtain rfl : j = p := by omega
              have HBF := Lib.hid (HB2.out.trans (hbd.mono HB2.out.size))
              have hka := HKV.out.1.below hbd
              have hkb := HKV.out.2.below hbd
              obtain ⟨ct, hct⟩ : ∃ ct, Ea.length = ct := ⟨_, rfl⟩
              obtain ⟨bt, hbt⟩ : ∃ bt, bytesOf Ea = bt := ⟨_, rfl⟩
              have hct2 : Eb.length = ct := by have := HP.out.2; omega
              have hbt2 : bytesOf Eb = bt := by rw [← hbt, bytes_kv, bytes_kv, HSAME.out]
              have HCS : Hid (∀ x : HW wr, Calls Try.prog 15 #[.slice x1 j cx1, .slice x2 j cx2] x.val fun e w' => e = .returned (.bool true) ∧ Below x.val.heap.size x.val w') := by
                intro x
                have h0 := samekeys_any (hka.below x.ok) (hkb.below x.ok) cx1 cx2 (by have := HP.out.1; omega) (by have := HP.out.1; omega)
                rw [← HP.out.1] at h0
                simpa using h0
              have HCC : Hid (∀ x : HW wr, Calls Try.prog 12 #[.pointer (some ⟨sa, 0, none⟩)] x.val fun e w' => e = .returned (.int .i64 (ct : Int)) ∧ x.val = w') := fun x => by rw [← hct]; exact count_n (HN3.out.a.held x)
              have HCC2 : Hid (∀ x : HW wr, Calls Try.prog 12 #[.pointer (some ⟨sb, 0, none⟩)] x.val fun e w' => e = .returned (.int .i64 (ct : Int)) ∧ x.val = w') := fun x => by rw [← hct2]; exact count_n (HN3.out.b.held x)
              have HCB : Hid (∀ x : HW wr, Calls Try.prog 16 #[.pointer (some ⟨sa, 0, none⟩)] x.val fun e w' => e = .returned (.int .i64 (bt : Int)) ∧ x.val = w') := fun x => by rw [← hbt]; exact bytes_n (HN3.out.a.held x)
              have HCB2 : Hid (∀ x : HW wr, Calls Try.prog 16 #[.pointer (some ⟨sb, 0, none⟩)] x.val fun e w' => e = .returned (.int .i64 (bt : Int)) ∧ x.val = w') := fun x => by rw [← hbt2]; exact bytes_n (HN3.out.b.held x)
              clear hct hbt hct2 hbt2 hka hkb hbd
              go_wp2_with fail
              refine (alive_any wr).mono ?_
              rintro _ w3 ⟨rfl, hb3⟩
              obtain ⟨X3, hX3⟩ : ∃ X : HW wr, X.val = w3 := ⟨⟨w3, hb3⟩, rfl⟩
              clear hb3
              subst hX3
              simp only []
              go_wp2_with fail
              refine (HCS.out X3).mono ?_
              rintro _ w4 ⟨rfl, hb4⟩
              obtain ⟨X4, hX4⟩ : ∃ X : HW wr, X.val = w4 := ⟨⟨w4, X3.ok.trans (hb4.mono X3.ok.size)⟩, rfl⟩
              clear hb4
              subst hX4
              simp only []
              go_wp2_with fail
              refine (HCC.out X4).mono ?_
              rintro _ _ ⟨rfl, rfl⟩
              simp only []
              go_wp2_with fail
              refine (HCC2.out X4).mono ?_
              rintro _ _ ⟨rfl, rfl⟩
              simp only []
              go_wp2_with fail
              refine (HCB.out X4).mono ?_
              rintro _ _ ⟨rfl, rfl⟩
              simp only []
              go_wp2_with fail
              refine (HCB2.out X4).mono ?_
              rintro _ _ ⟨rfl, rfl⟩
              simp only []
              have hxo := X4.ok
              go_wp2
              go_ret
              exact ⟨rfl, HBF.out.trans (hxo.mono HBF.out.size)⟩
end Go.Proofs.Ytnhieingcmnfaaa
