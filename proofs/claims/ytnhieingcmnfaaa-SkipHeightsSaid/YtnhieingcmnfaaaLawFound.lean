/-
  The law SkipFound's walk.
-/
import Derived.Test.YtnhieingcmnfaaaFoundP
import Derived.Test.YtnhieingcmnfaaaLawLanes
import Derived.Deep.CutBlock
import Derived.Deep.CutRange
namespace Go.Proofs.Ytnhieingcmnfaaa
open Go.RowKit Go.Maps

theorem NAt.turn2 {B : Nat} {w w' : World} {sb : Nat} {E : List Nd} {fr : Bool} (h : NAt B w sb E fr) (ht : Tn (fun _ => False) w w') : NAt B w' sb E fr := by
  obtain ⟨F, hs, hF⟩ := h
  exact ⟨F, hs.turn ht (fun _ _ e => e), hF⟩
theorem byte_str {W : World} {B : Nat} {c : UInt8} (h : W.cell? ⟨B, 0, none⟩ = some (.int .u8 (c.toNat : Int))) :
    (convert 38 9 (.slice (some ⟨B, 0, none⟩) 1 1)).run Try.prog W = .ok (.string ⟨#[c]⟩) W := by
  refine run_convert_bytes_back W 38 9 5 ⟨B, 0, none⟩ 1 [c] Try.underlying38 Try.underlying5 Try.underlying9 fun j hj => ?_
  obtain rfl : j = 0 := by simpa using hj
  rw [add_none]
  exact h

set_option maxRecDepth 100000 in
set_option maxHeartbeats 4000000 in
theorem found_law (a : Option Addr) (len cap : Nat) (l : List ByteArray) (a2 : Option Addr) (len2 cap2 : Nat) (l2 : List Int) {W : World} (hl : StrsAt W a len l) (hlen : len ≤ maxLen) (hl2 : IntsAt W a2 len2 l2) (hlen2 : len2 ≤ maxLen) (w : World) (hWw : W = w) :
    Calls Try.prog 5 #[.slice a len cap, .slice a2 len2 cap2] w fun e w' => e = .returned (.bool true) ∧ Below w.heap.size w w' := by
  subst hWw
  unfold maxLen at hlen hlen2
  obtain ⟨hll, hcells, hwf⟩ := hl
  obtain ⟨hll2, hcells2, hwf2⟩ := hl2
  generalize hw : W = w at *
  clear hw
  by_cases hbig : 120 < len ∨ len2 = 0
  · clear hcells hwf hll hcells2 hwf2 hll2
    have t : decide ((120 : Int) < (len : Int)) = true ∨ decide ((120 : Int) < (len : Int)) = false ∧ ((len2 : Int) == 0) = true := by
      simp only [decide_eq_true_eq, decide_eq_false_iff_not, beq_iff_eq]; omega
    clear hbig
    rcases t with t1 | ⟨t1, t2⟩
    all_goals
      go_enter Try.func5, Try.ntmps5
      go_wp2_with fail
      refine (alive_any w).mono ?_
      rintro e w1 ⟨rfl, b1⟩
      go_wp2
      go_ret
      exact ⟨rfl, b1⟩
  · have HC := Lib.hid hcells
    have HLL := Lib.hid hll
    have HC2 := Lib.hid hcells2
    have HLL2 := Lib.hid hll2
    have HWF2 : Hid (∀ n ∈ l2, (Lit.int .i64 n).wf = true) := hwf2
    have HSZ : Hid (∀ s ∈ l, s.size ≤ maxLen) := hwf
    have h2 : len ≤ 120 := by omega
    have h20 : 0 < len2 := by omega
    have t2 : ((len2 : Int) == 0) = false := by simp; omega
    clear hcells hll hwf hbig hlen hcells2 hll2 hwf2
    go_enter Try.func5, Try.ntmps5
    go_wp2_with fail
    refine (new_n w).mono ?_
    rintro _ w0 ⟨sb, rfl, hn0, hb0⟩
    simp only []
    go_wp2
    go_loopw [6] (fun x wr => ∃ (i : Nat) (E : List Nd), i ≤ len ∧ x = .int .i64 (i : Int) ∧ NAt w.heap.size wr sb E false ∧ PfI l i E ∧ Below w.heap.size w wr) (fun x _ => len - (intOf x).toNat)
    case atStart => exact ⟨0, [], by omega, rfl, hn0, PfI.zero l, hb0⟩
    case round =>
      obtain ⟨i, E, hi, rfl, hn, hpf, hbel⟩ := hrel
      have HN := Lib.hid hn
      have HPF := Lib.hid hpf
      have hEl : E.length ≤ i := hpf.1
      clear hn hn0 hb0 hpf
      by_cases hlt : i < len
      · obtain ⟨b, off, rfl, hb, hc⟩ : ∃ b off, a = some ⟨b, off, none⟩ ∧ b < w.heap.size ∧ ∀ i (hi : i < l.length), w.cell? ⟨b, off + i, none⟩ = some (.string l[i]) := by
          rcases HC.out with h | h
          · omega
          · exact h
        obtain ⟨b2, off2, rfl, hb2, hc2⟩ : ∃ b off, a2 = some ⟨b, off, none⟩ ∧ b < w.heap.size ∧ ∀ i (hi : i < l2.length), w.cell? ⟨b, off + i, none⟩ = some (.int .i64 l2[i]) := by
          rcases HC2.out with h | h
          · omega
          · exact h
        have hil : i < l.length := by have := HLL.out; omega
        have hml : i % len2 < l2.length := by have := HLL2.out; have := Nat.mod_lt i h20; omega
        have hci0 := hc i hil
        have hci2 := (hbel.cell (p := ⟨b2, off2 + i % len2, none⟩) hb2).trans (hc2 _ hml)
        obtain ⟨T, hT⟩ : ∃ T, l[i] = T := ⟨_, rfl⟩
        obtain ⟨hh, hhh⟩ : ∃ hh, l2[i % len2] = hh := ⟨_, rfl⟩
        have hTm := HSZ.out T (by rw [← hT]; exact List.getElem_mem hil)
        unfold maxLen at hTm
        rw [hT] at hci0
        rw [hhh] at hci2
        have HT : Hid (gk l i = T) := by unfold Hid gk; rw [List.getD_eq_getElem?_getD, List.getElem?_eq_getElem hil, hT]; rfl
        have hci := (hbel.cell (p := ⟨b, off + i, none⟩) hb).trans hci0
        have hrem : (i : Int).tmod (len2 : Int) = ((i % len2 : Nat) : Int) := by
          rw [Int.tmod_eq_emod_of_nonneg (by omega)]; simp
        have HREM := Lib.hid hrem
        obtain ⟨m, hm⟩ : ∃ m, m = i % len2 := ⟨_, rfl⟩
        have hmlt : m < len2 := by rw [hm]; exact Nat.mod_lt i h20
        rw [← hm] at hci2 HREM
        clear hc hT hc2 hhh hrem hm hil hml hci0
        by_cases hbig : 500 < T.size
        · go_wp2_with fail
          refine (alive_any wr).mono ?_
          rintro e w1 ⟨rfl, b1⟩
          go_wp2
          go_ret
          exact ⟨rfl, hbel.trans (b1.mono hbel.size)⟩
        · have ht3 : T.size ≤ 500 := by omega
          have HB := Lib.hid hbel
          have hz := hbel.size
          clear hbel
          have hrem := HREM.out
          obtain ⟨cb, hcb⟩ : ∃ c : UInt8, c = UInt8.ofNat i := ⟨_, rfl⟩
          have hcbn : (i : Int) = (cb.toNat : Int) := by rw [hcb]; simp; omega
          obtain ⟨W2, hW2⟩ : ∃ W2, W2 = (wr.alloc (.cells #[.int .u8 (i : Int)] 5)).drew := ⟨_, rfl⟩
          have ht2 : Tn (fun _ => False) wr.drew W2 := by rw [hW2]; exact Tn.alloc wr.drew _
          have hcell2 : W2.cell? ⟨wr.heap.size, 0, none⟩ = some (.int .u8 (cb.toNat : Int)) := by
            rw [hW2, ← hcbn]
            exact (cellB_new wr.drew _ _).1
          have hconv := byte_str hcell2
          have hvb : (⟨#[cb]⟩ : ByteArray) = vb i := by rw [hcb]; rfl
          have HVB := Lib.hid hvb
          have HWW := Lib.hid (And.intro hW2 ht2)
          have HND := Lib.hid (HN.out.below (Below.refl _ _).drew)
          have kd1 : wr.drew.cell? ⟨b, off + i, none⟩ = some (.string T) := hci
          have kd2 : wr.drew.cell? ⟨b2, off2 + m, none⟩ = some (.int .i64 hh) := hci2
          have hu8 : IntKind.u8.wrap (i : Int) = (i : Int) := by unfold IntKind.wrap; simp [IntKind.bits, IntKind.signed]; omega
          have q1 : (i : Int) < (len : Int) := by omega
          have q3 : ¬ len2 = 0 := by omega
          have q2 : (m : Int) < (len2 : Int) := by omega
          clear hW2 ht2 hcell2 hvb hcb hcbn
          go_wp2_with fail
          refine wp_region_K (fun w' => w'.cell? ⟨b, off + i, none⟩ = some (.string T) ∧ w'.cell? ⟨b2, off2 + m, none⟩ = some (.int .i64 hh)) 16 17 (by kernel_rfl) (by kernel_rfl) ⟨kd1, kd2⟩ (fun hH => ?_)
          refine wpAnyK_take (i := 0) [16] (v := ?v1) rfl (by kernel_rfl) (by kernel_rfl) (by kernel_rfl) (by kernel_rfl) (fun _ _ _ h => h) (Or.inl ⟨by rfl, ?hy1⟩) hH ?rest1
          case hy1 => (intro w hSw; (try dsimp only at hSw); go_simp; with_reducible rfl)
          try simp only [Act.put, List.setIfInBounds_toArray, List.set_cons_zero, List.set_cons_succ]
          refine wpAnyK_take (i := 1) [3, 4, 16] (v := ?v2) rfl (by kernel_rfl) (by kernel_rfl) (by kernel_rfl) (by kernel_rfl) (fun _ _ _ h => h) (Or.inl ⟨by rfl, ?hy2⟩) hH ?rest2
          case hy2 => (intro w hSw; (try dsimp only at hSw); go_simp; with_reducible rfl)
          try simp only [Act.put, List.setIfInBounds_toArray, List.set_cons_zero, List.set_cons_succ]
          refine wpAnyK_take (i := 2) [3, 4, 16] (v := ?v3) rfl (by kernel_rfl) (by kernel_rfl) (by kernel_rfl) (by kernel_rfl) (fun _ _ _ h => h) (Or.inl ⟨by rfl, ?hy3⟩) hH ?rest3
          case hy3 => (intro w hSw; (try dsimp only at hSw); go_simp; with_reducible rfl)
          try simp only [Act.put, List.setIfInBounds_toArray, List.set_cons_zero, List.set_cons_succ]
          refine wpAnyK_take (i := 3) [4, 16] (v := ?v4) rfl (by kernel_rfl) (by kernel_rfl) (by kernel_rfl) (by kernel_rfl) (fun _ _ _ h => h) (Or.inl ⟨by rfl, ?hy4⟩) hH ?rest4
          case hy4 => (intro w hSw; (try dsimp only at hSw); go_simp; with_reducible rfl)
          try simp only [Act.put, List.setIfInBounds_toArray, List.set_cons_zero, List.set_cons_succ]
          refine wpAnyK_take (i := 4) [16] (v := ?v5) rfl (by kernel_rfl) (by kernel_rfl) (by kernel_rfl) (by kernel_rfl) (fun _ _ _ h => h) (Or.inl ⟨by rfl, ?hy5⟩) hH ?rest5
          case hy5 => (intro w hSw; (try dsimp only at hSw); go_simp; with_reducible rfl)
          try simp only [Act.put, List.setIfInBounds_toArray, List.set_cons_zero, List.set_cons_succ]
          refine wpAnyK_take (i := 5) [6, 7, 8, 16] (v := ?v6) rfl (by kernel_rfl) (by kernel_rfl) (by kernel_rfl) (by kernel_rfl) (fun _ _ _ h => h) (Or.inl ⟨by rfl, ?hy6⟩) hH ?rest6
          case hy6 => (intro w hSw; (try dsimp only at hSw); go_simp; with_reducible rfl)
          try simp only [Act.put, List.setIfInBounds_toArray, List.set_cons_zero, List.set_cons_succ]
          refine wpAnyK_take (i := 6) [7, 8, 16] (v := ?v7) rfl (by kernel_rfl) (by kernel_rfl) (by kernel_rfl) (by kernel_rfl) (fun _ _ _ h => h) (Or.inl ⟨by rfl, ?hy7⟩) hH ?rest7
          case hy7 => (intro w hSw; (try dsimp only at hSw); go_simp; with_reducible rfl)
          try simp only [Act.put, List.setIfInBounds_toArray, List.set_cons_zero, List.set_cons_succ]
          refine wpAnyK_take (i := 9) [14, 15, 16] (v := ?v8) rfl (by kernel_rfl) (by kernel_rfl) (by kernel_rfl) (by kernel_rfl) (fun _ _ _ h => h) (Or.inl ⟨by rfl, ?hy8⟩) hH ?rest8
          case hy8 => (intro w hSw; (try dsimp only at hSw); go_simp; with_reducible rfl)
          try simp only [Act.put, List.setIfInBounds_toArray, List.set_cons_zero, List.set_cons_succ]
          refine wpAnyK_take (i := 10) [13, 14, 15, 16] (v := ?v9) rfl (by kernel_rfl) (by kernel_rfl) (by kernel_rfl) (by kernel_rfl) (fun _ _ _ h => h) (Or.inl ⟨by rfl, ?hy9⟩) hH ?rest9
          case hy9 => (intro w hSw; (try dsimp only at hSw); go_simp; with_reducible rfl)
          try simp only [Act.put, List.setIfInBounds_toArray, List.set_cons_zero, List.set_cons_succ]
          refine wpAnyK_take (i := 11) [12, 13, 14, 15, 16] (v := ?v10) rfl (by kernel_rfl) (by kernel_rfl) (by kernel_rfl) (by kernel_rfl) (fun _ _ _ h => h) (Or.inl ⟨by rfl, ?hy10⟩) hH ?rest10
          case hy10 => (intro w hSw; (try dsimp only at hSw); go_simp; with_reducible rfl)
          try simp only [Act.put, List.setIfInBounds_toArray, List.set_cons_zero, List.set_cons_succ]
          refine wpAnyK_take (i := 12) [13, 14, 15, 16] (v := ?v11) rfl (by kernel_rfl) (by kernel_rfl) (by kernel_rfl) (by kernel_rfl) (fun _ _ _ h => h) (Or.inl ⟨by rfl, ?hy11⟩) hH ?rest11
          case hy11 => (intro w hSw; (try dsimp only at hSw); go_simp; with_reducible rfl)
          try simp only [Act.put, List.setIfInBounds_toArray, List.set_cons_zero, List.set_cons_succ]
          refine wpAnyK_take (i := 13) [14, 15, 16] (v := ?v12) rfl (by kernel_rfl) (by kernel_rfl) (by kernel_rfl) (by kernel_rfl) (fun _ _ _ h => h) (Or.inl ⟨by rfl, ?hy12⟩) hH ?rest12
          case hy12 => (intro w hSw; (try dsimp only at hSw); go_simp; with_reducible rfl)
          try simp only [Act.put, List.setIfInBounds_toArray, List.set_cons_zero, List.set_cons_succ]
          refine wpAnyK_take (i := 14) [15, 16] (v := ?v13) rfl (by kernel_rfl) (by kernel_rfl) (by kernel_rfl) (by kernel_rfl) (fun _ _ _ h => h) (Or.inl ⟨by rfl, ?hy13⟩) hH ?rest13
          case hy13 => (intro w hSw; (try dsimp only at hSw); go_simp; with_reducible rfl)
          try simp only [Act.put, List.setIfInBounds_toArray, List.set_cons_zero, List.set_cons_succ]
          refine wpAnyK_take (i := 15) [16] (v := ?v14) rfl (by kernel_rfl) (by kernel_rfl) (by kernel_rfl) (by kernel_rfl) (fun _ _ _ h => h) (Or.inl ⟨by rfl, ?hy14⟩) hH ?rest14
          case hy14 => (intro w hSw; (try dsimp only at hSw); go_simp; with_reducible rfl)
          try simp only [Act.put, List.setIfInBounds_toArray, List.set_cons_zero, List.set_cons_succ]
          refine wpAnyK_one (i := 7) (by kernel_rfl) rfl (fun K hK => ?_) (by kernel_rfl)
          go_simp
          rw [← HWW.out.1]
          have e1 := HWW.out.2.cell kd1 (fun e => e)
          have e2 := HWW.out.2.cell kd2 (fun e => e)
          refine hK.out _ _ ⟨e1, e2⟩ (fun hH => ?_)
          clear hK K
          try simp only [Act.put, List.setIfInBounds_toArray, List.set_cons_zero, List.set_cons_succ]
          refine wpAnyK_one (i := 8) (by kernel_rfl) rfl (fun K hK => ?_) (by kernel_rfl)
          go_simp
          refine hK.out _ _ hH (fun _ => ?_)
          clear hK K
          try simp only [Act.put, List.setIfInBounds_toArray, List.set_cons_zero, List.set_cons_succ]
          have HN2 := Lib.hid (HND.out.turn2 HWW.out.2)
          have hsz2 := HWW.out.2.size
          have hdz : wr.drew.heap.size = wr.heap.size := rfl
          rw [HVB.out]
          refine wpAnyK_last (by kernel_rfl) rfl (fun K hK => ?_) (by kernel_rfl)
          go_simp
          go_at_call 10
          refine (put_n HN2.out (by omega) _ _ _ (by omega)).mono ?_
          rintro _ w1 ⟨rfl, hn1, hb1⟩
          refine hK.out _ _ (wpAnyK_done (by kernel_rfl) ?_ _)
          clear hK K hH
          have hb2 : Below w.heap.size w w1 := ((HB.out.trans (Below.refl _ _).drew).trans (HWW.out.2.below hz (fun _ e => e.elim))).trans hb1
          have HN3 : Hid (∃ h, NAt w.heap.size w1 sb (putL E false T (vb i) h) false ∧ PfI l (i + 1) (putL E false T (vb i) h)) := ⟨_, hn1, HPF.out.step HN.out.sorted HT.out ht3 _⟩
          clear hn1 hb1 hconv e1 e2 kd1 kd2 hci hci2
          go_wp2
          go_roundw
          case rel =>
            obtain ⟨h, q1, q2⟩ := HN3.out
            exact ⟨i + 1, _, by omega, by go_num, q1, q2, hb2⟩
          case measure => simp [intOf]; omega
      · obtain rfl : i = len := by omega
        have HB := Lib.hid hbel
        clear hbel
        have hkey : ∀ (w1 : World) (j : Nat), Below w.heap.size w w1 → j < i → ∃ b off, a = some ⟨b, off, none⟩ ∧ w1.cell? ⟨b, off + j, none⟩ = some (.string (gk l j)) := by
          intro w1 j hw1 hj
          rcases HC.out with h | ⟨b, off, h1, hb, h3⟩
          · omega
          · have hjl : j < l.length := by have := HLL.out; omega
            refine ⟨b, off, h1, (hw1.cell (p := ⟨b, off + j, none⟩) hb).trans ?_⟩
            rw [h3 j hjl]
            unfold gk
            rw [List.getD_eq_getElem?_getD, List.getElem?_eq_getElem hjl]
            rfl
        have HKEY := Lib.hid hkey
        clear hkey
        go_wp2
        go_loopw [7] (fun x wr => ∃ j : Nat, j ≤ i ∧ x = .int .i64 (j : Int) ∧ NAt w.heap.size wr sb E false ∧ Below w.heap.size w wr) (fun x _ => i - (intOf x).toNat)
        case atStart => exact ⟨0, by omega, rfl, HN.out, HB.out⟩
        case round =>
          obtain ⟨j, hj, rfl, hn, hbel⟩ := hrel
          obtain ⟨wo, rfl⟩ : ∃ wo : World, wo = wr := ⟨_, rfl⟩
          have HN4 := Lib.hid hn
          have HB4 := Lib.hid hbel
          have hz4 := hbel.size
          clear hn hbel
          by_cases hlt : j < i
          · obtain ⟨b, off, rfl, hcj⟩ := HKEY.out wo j HB4.out hlt
            obtain ⟨T, hT⟩ : ∃ T, gk l j = T := ⟨_, rfl⟩
            rw [hT] at hcj
            have HT := Lib.hid hT
            have HCJ := Lib.hid hcj
            clear hT hcj
            go_upto_block 4 with fail
            go_cut [8] from 57 to 180 (fun f wc => ∃ first : Nat, first ≤ j ∧ f = .int .i64 (first : Int) ∧ gk l first = T ∧ (∀ j', j' < first → gk l j' ≠ T) ∧ Below wo.heap.size wo wc)
            case first =>
              go_wp2_with fail
              go_loopw [8] (fun f wc => ∃ first : Nat, first ≤ j ∧ f = .int .i64 (first : Int) ∧ gk l first = T ∧ Below wo.heap.size wo wc) (fun f _ => (intOf f).toNat)
              case atStart => exact ⟨j, Nat.le_refl _, rfl, HT.out, Below.refl _ _⟩
              case round =>
                obtain ⟨first, hfj, rfl, hfT, hbf⟩ := hrel
                have HFT := Lib.hid hfT
                have HBF := Lib.hid hbf
                clear hfT hbf
                by_cases h0 : first = 0
                · subst h0
                  go_wp2
                  go_meet
                  case rel => exact ⟨0, by omega, rfl, HFT.out, by omega, HBF.out⟩
                · go_wp2
                  go_loopw [9] (fun k wd => ∃ m : Nat, m ≤ first ∧ k = .int .i64 ((m : Int) - 1) ∧ (∀ j', m ≤ j' → j' < first → gk l j' ≠ T) ∧ Below wo.heap.size wo wd) (fun k _ => (intOf k + 1).toNat)
                  case atStart => exact ⟨first, Nat.le_refl _, rfl, by omega, HBF.out⟩
                  case round =>
                    obtain ⟨m, hmf, rfl, hno, hbd⟩ := hrel
                    have HNO := Lib.hid hno
                    have HBD := Lib.hid hbd
                    clear hno hbd
                    cases m with
                    | zero =>
                      obtain ⟨kk, hkk⟩ : ∃ kk : Int, ((0 : Nat) : Int) - 1 = kk := ⟨_, rfl⟩
                      rw [hkk]
                      have t1 : decide ((0 : Int) ≤ kk) = false := by simp; omega
                      have t2' : decide (kk < 0) = true := by simp; omega
                      clear hkk
                      go_wp2_with fail
                      go_quiet (fail)
                      go_wp2
                      go_meet
                      case rel => exact ⟨first, hfj, rfl, HFT.out, fun j' hj' => HNO.out j' (by omega) hj', by first | exact HBD.out | exact below_drewN HBD.out _⟩
                    | succ m =>
                      have hks : ((m + 1 : Nat) : Int) - 1 = (m : Int) := by omega
                      rw [hks]
                      obtain ⟨b', off', hbo, hcm⟩ := HKEY.out wr m (HB4.out.trans (HBD.out.mono hz4)) (by omega)
                      obtain ⟨rfl, rfl⟩ : b = b' ∧ off = off' := by cases hbo; exact ⟨rfl, rfl⟩
                      obtain ⟨T2, hT2⟩ : ∃ T2, gk l m = T2 := ⟨_, rfl⟩
                      have hcj := (HBD.out.cell (p := ⟨b, off + j, none⟩) (World.block_lt_of_cell? _ _ HCJ.out)).trans HCJ.out
                      rw [hT2] at hcm
                      have t1 : decide ((0 : Int) ≤ (m : Int)) = true := by simp
                      have t2' : decide ((m : Int) < 0) = false := by simp
                      have t3 : (m : Int) < (i : Int) := by omega
                      have t4 : (j : Int) < (i : Int) := by omega
                      have t5 : (0 : Int) ≤ (j : Int) := by omega
                      by_cases heq : T2 = T
                      · subst heq
                        have s1 := str_beq T2
                        have s2 := str_eq T2
                        have HT2 := Lib.hid hT2
                        clear hT2 hbo hks
                        go_wp2_with fail
                        go_quiet (fail)
                        go_wp2
                        go_roundw
                        case rel => exact ⟨m, by omega, by first | rfl | go_num, HT2.out, by first | exact HBD.out | exact below_drewN HBD.out _⟩
                        case measure => simp [intOf]; try omega
                      · have s1 := str_bne heq
                        have s2 := str_ne heq
                        have HT2 := Lib.hid (And.intro hT2 heq)
                        clear hT2 heq hbo hks
                        go_wp2_with fail
                        go_quiet (fail)
                        go_wp2
                        go_roundw
                        case rel =>
                          refine ⟨m, by omega, by first | rfl | go_num, fun j' h1 h2 => ?_, by first | exact HBD.out | exact below_drewN HBD.out _⟩
                          by_cases e : j' = m
                          · subst e; rw [HT2.out.1]; exact HT2.out.2
                          · exact HNO.out j' (by omega) h2
                        case measure => simp [intOf]; try omega
            case rest =>
              obtain ⟨first, hfj, rfl, hfT, hno, hbc⟩ := hcut
              have HN5 := Lib.hid (HN4.out.below hbc)
              have HB5 := Lib.hid (HB4.out.trans (hbc.mono hz4))
              have hcj := (hbc.cell (p := ⟨b, off + j, none⟩) (World.block_lt_of_cell? _ _ HCJ.out)).trans HCJ.out
              have hgf : first < i := by omega
              have hg1 := HPF.out.get HN4.out.sorted hgf hfT hno
              have hg2 := HPF.out.from1 HN4.out.sorted hgf hfT hno
              have HG := Lib.hid (And.intro hg1 hg2)
              have HCJ2 := Lib.hid hcj
              have hz5 := (HB5.out).size
              clear hg1 hg2 hfT hno hbc
              go_wp2_with fail
              refine (get_n HN5.out T).mono ?_
              rintro _ w1 ⟨rfl, hb1⟩
              simp only [HG.out.1]
              have hcj1 := (hb1.cell (p := ⟨b, off + j, none⟩) (World.block_lt_of_cell? _ _ hcj)).trans hcj
              have HN6 := Lib.hid (HN5.out.below hb1)
              have HB6 := Lib.hid (HB5.out.trans (hb1.mono hz5))
              clear hb1 hcj
              go_wp2_with fail
              refine (from_n HN6.out T 1 (by omega) (by omega)).mono ?_
              rintro _ w2 ⟨v, rfl, hr, hb2⟩
              rw [HG.out.2] at hr
              obtain ⟨g, cap9, rfl, hg⟩ : ∃ g cap9, v = .slice (some ⟨g, 0, none⟩) 1 cap9 ∧ w2.cell? ⟨g, 0, none⟩ = some (.string T) ∧ w2.cell? ⟨g, 1, none⟩ = some (.string (vb first)) := by
                obtain ⟨a9, cap9, rfl, h9⟩ := row_kv hr
                rcases h9 with h9 | ⟨g, rfl, _, _, h9⟩
                · simp at h9
                · exact ⟨g, cap9, rfl, (h9 0 (by simp)).1, (h9 0 (by simp)).2⟩
              obtain ⟨hg0, hg1⟩ := hg
              have hcj2 := (hb2.cell (p := ⟨b, off + j, none⟩) (World.block_lt_of_cell? _ _ hcj1)).trans hcj1
              have HN7 := Lib.hid (HN6.out.below hb2)
              have HB7 := Lib.hid (HB6.out.trans (hb2.mono HB6.out.size))
              simp only []
              clear hb2 hr hcj1
              obtain ⟨cb, hcb⟩ : ∃ c : UInt8, c = UInt8.ofNat first := ⟨_, rfl⟩
              have hcbn : (first : Int) = (cb.toNat : Int) := by rw [hcb]; simp; omega
              obtain ⟨W2, hW2⟩ : ∃ W2, W2 = (w2.alloc (.cells #[.int .u8 (first : Int)] 5)).drew := ⟨_, rfl⟩
              have ht2 : Tn (fun _ => False) w2.drew W2 := by rw [hW2]; exact Tn.alloc w2.drew _
              have hcell2 : W2.cell? ⟨w2.heap.size, 0, none⟩ = some (.int .u8 (cb.toNat : Int)) := by
                rw [hW2, ← hcbn]
                exact (cellB_new w2.drew _ _).1
              have hconv := byte_str hcell2
              have hvb : (⟨#[cb]⟩ : ByteArray) = vb first := by rw [hcb]; rfl
              rw [hvb] at hconv
              have HWW := Lib.hid (And.intro hW2 ht2)
              have kd0 : w2.drew.cell? ⟨b, off + j, none⟩ = some (.string T) := hcj2
              have kd1 : w2.drew.cell? ⟨g, 0, none⟩ = some (.string T) := hg0
              have kd2 : w2.drew.cell? ⟨g, 1, none⟩ = some (.string (vb first)) := hg1
              have hu8 : IntKind.u8.wrap (first : Int) = (first : Int) := by unfold IntKind.wrap; simp [IntKind.bits, IntKind.signed]; omega
              have q1 : (j : Int) < (i : Int) := by omega
              obtain ⟨vv, hvv⟩ : ∃ vv, vb first = vv := ⟨_, rfl⟩
              rw [hvv] at hconv kd2 hg1 ⊢
              have s1 := str_beq T
              have s2 := str_beq vv
              have HN8 := Lib.hid (HN7.out.turn2 ((Tn.drew (F := fun _ => False) w2).trans ht2))
              have HB8 := Lib.hid (HB7.out.trans (((Tn.drew (F := fun _ => False) w2).trans ht2).below HB7.out.size (fun _ e => e.elim)))
              clear hW2 ht2 hcell2 hvb hcb hcbn hvv
              go_wp2_with fail
              refine wp_region_K (fun w' => w'.cell? ⟨b, off + j, none⟩ = some (.string T) ∧ w'.cell? ⟨g, 0, none⟩ = some (.string T) ∧ w'.cell? ⟨g, 1, none⟩ = some (.string vv)) 33 34 (by kernel_rfl) (by kernel_rfl) ⟨kd0, kd1, kd2⟩ (fun hH => ?_)
              refine wpAnyK_take (i := 0) [1, 2, 10, 15, 26, 33] (v := ?v15) rfl (by kernel_rfl) (by kernel_rfl) (by kernel_rfl) (by kernel_rfl) (fun _ _ _ h => h) (Or.inl ⟨by rfl, ?hy15⟩) hH ?rest15
              case hy15 => (intro w hSw; (try dsimp only at hSw); go_simp; with_reducible rfl)
              try simp only [Act.put, List.setIfInBounds_toArray, List.set_cons_zero, List.set_cons_succ]
              refine wpAnyK_take (i := 1) [2, 10, 15, 26, 33] (v := ?v16) rfl (by kernel_rfl) (by kernel_rfl) (by kernel_rfl) (by kernel_rfl) (fun _ _ _ h => h) (Or.inl ⟨by rfl, ?hy16⟩) hH ?rest16
              case hy16 => (intro w hSw; (try dsimp only at hSw); go_simp; with_reducible rfl)
              try simp only [Act.put, List.setIfInBounds_toArray, List.set_cons_zero, List.set_cons_succ]
              refine wpAnyK_take (i := 2) [10, 15, 26, 33] (v := ?v17) rfl (by kernel_rfl) (by kernel_rfl) (by kernel_rfl) (by kernel_rfl) (fun _ _ _ h => h) (Or.inl ⟨by rfl, ?hy17⟩) hH ?rest17
              case hy17 => (intro w hSw; (try dsimp only at hSw); go_simp; with_reducible rfl)
              try simp only [Act.put, List.setIfInBounds_toArray, List.set_cons_zero, List.set_cons_succ]
              refine wpAnyK_take (i := 3) [8, 9, 10, 15, 26, 33] (v := ?v18) rfl (by kernel_rfl) (by kernel_rfl) (by kernel_rfl) (by kernel_rfl) (fun _ _ _ h => h) (Or.inl ⟨by rfl, ?hy18⟩) hH ?rest18
              case hy18 => (intro w hSw; (try dsimp only at hSw); go_simp; with_reducible rfl)
              try simp only [Act.put, List.setIfInBounds_toArray, List.set_cons_zero, List.set_cons_succ]
              refine wpAnyK_take (i := 4) [5, 6, 7, 8, 9, 10, 15, 26, 33] (v := ?v19) rfl (by kernel_rfl) (by kernel_rfl) (by kernel_rfl) (by kernel_rfl) (fun _ _ _ h => h) (Or.inl ⟨by rfl, ?hy19⟩) hH ?rest19
              case hy19 => (intro w hSw; (try dsimp only at hSw); go_simp; with_reducible rfl)
              try simp only [Act.put, List.setIfInBounds_toArray, List.set_cons_zero, List.set_cons_succ]
              refine wpAnyK_take (i := 5) [6, 7, 8, 9, 10, 15, 26, 33] (v := ?v20) rfl (by kernel_rfl) (by kernel_rfl) (by kernel_rfl) (by kernel_rfl) (fun _ _ _ h => h) (Or.inl ⟨by rfl, ?hy20⟩) hH ?rest20
              case hy20 => (intro w hSw; (try dsimp only at hSw); go_simp; with_reducible rfl)
              try simp only [Act.put, List.setIfInBounds_toArray, List.set_cons_zero, List.set_cons_succ]
              refine wpAnyK_one (i := 6) (by kernel_rfl) rfl (fun K hK => ?_) (by kernel_rfl)
              go_simp
              rw [← HWW.out.1]
              have e0 := HWW.out.2.cell kd0 (fun e => e)
              have e1 := HWW.out.2.cell kd1 (fun e => e)
              have e2 := HWW.out.2.cell kd2 (fun e => e)
              refine hK.out _ _ ⟨e0, e1, e2⟩ (fun hH => ?_)
              clear hK K
              try simp only [Act.put, List.setIfInBounds_toArray, List.set_cons_zero, List.set_cons_succ]
              refine wpAnyK_one (i := 7) (by kernel_rfl) rfl (fun K hK => ?_) (by kernel_rfl)
              go_simp
              refine hK.out _ _ hH (fun _ => ?_)
              clear hK K
              try simp only [Act.put, List.setIfInBounds_toArray, List.set_cons_zero, List.set_cons_succ]
              refine wpAnyK_take (i := 8) [9, 10, 15, 26, 33] (v := ?v21) rfl (by kernel_rfl) (by kernel_rfl) (by kernel_rfl) (by kernel_rfl) (fun _ _ _ h => h) (Or.inl ⟨by rfl, ?hy21⟩) hH ?rest21
              case hy21 => (intro w hSw; (try dsimp only at hSw); go_simp; with_reducible rfl)
              try simp only [Act.put, List.setIfInBounds_toArray, List.set_cons_zero, List.set_cons_succ]
              refine wpAnyK_take (i := 9) [10, 15, 26, 33] (v := ?v22) rfl (by kernel_rfl) (by kernel_rfl) (by kernel_rfl) (by kernel_rfl) (fun _ _ _ h => h) (Or.inl ⟨by rfl, ?hy22⟩) hH ?rest22
              case hy22 => (intro w hSw; (try dsimp only at hSw); go_simp; with_reducible rfl)
              try simp only [Act.put, List.setIfInBounds_toArray, List.set_cons_zero, List.set_cons_succ]
              refine wpAnyK_take (i := 10) [15, 26, 33] (v := ?v23) rfl (by kernel_rfl) (by kernel_rfl) (by kernel_rfl) (by kernel_rfl) (fun _ _ _ h => h) (Or.inl ⟨by rfl, ?hy23⟩) hH ?rest23
              case hy23 => (intro w hSw; (try dsimp only at hSw); go_simp; with_reducible rfl)
              try simp only [Act.put, List.setIfInBounds_toArray, List.set_cons_zero, List.set_cons_succ]
              refine wpAnyK_take (i := 11) [12, 13, 14, 15, 26, 33] (v := ?v24) rfl (by kernel_rfl) (by kernel_rfl) (by kernel_rfl) (by kernel_rfl) (fun _ _ _ h => h) (Or.inl ⟨by rfl, ?hy24⟩) hH ?rest24
              case hy24 => (intro w hSw; (try dsimp only at hSw); go_simp; with_reducible rfl)
              try simp only [Act.put, List.setIfInBounds_toArray, List.set_cons_zero, List.set_cons_succ]
              refine wpAnyK_take (i := 12) [13, 14, 15, 26, 33] (v := ?v25) rfl (by kernel_rfl) (by kernel_rfl) (by kernel_rfl) (by kernel_rfl) (fun _ _ _ h => h) (Or.inl ⟨by rfl, ?hy25⟩) hH ?rest25
              case hy25 => (intro w hSw; (try dsimp only at hSw); go_simp; with_reducible rfl)
              try simp only [Act.put, List.setIfInBounds_toArray, List.set_cons_zero, List.set_cons_succ]
              refine wpAnyK_take (i := 13) [14, 15, 26, 33] (v := ?v26) rfl (by kernel_rfl) (by kernel_rfl) (by kernel_rfl) (by kernel_rfl) (fun _ _ _ h => h) (Or.inl ⟨by rfl, ?hy26⟩) hH ?rest26
              case hy26 => (intro w hSw; (try dsimp only at hSw); go_simp; with_reducible rfl)
              try simp only [Act.put, List.setIfInBounds_toArray, List.set_cons_zero, List.set_cons_succ]
              refine wpAnyK_take (i := 14) [15, 26, 33] (v := ?v27) rfl (by kernel_rfl) (by kernel_rfl) (by kernel_rfl) (by kernel_rfl) (fun _ _ _ h => h) (Or.inl ⟨by rfl, ?hy27⟩) hH ?rest27
              case hy27 => (intro w hSw; (try dsimp only at hSw); go_simp; with_reducible rfl)
              try simp only [Act.put, List.setIfInBounds_toArray, List.set_cons_zero, List.set_cons_succ]
              refine wpAnyK_take (i := 15) [26, 33] (v := ?v28) rfl (by kernel_rfl) (by kernel_rfl) (by kernel_rfl) (by kernel_rfl) (fun _ _ _ h => h) (Or.inl ⟨by rfl, ?hy28⟩) hH ?rest28
              case hy28 => (intro w hSw; (try dsimp only at hSw); go_simp; with_reducible rfl)
              try simp only [Act.put, List.setIfInBounds_toArray, List.set_cons_zero, List.set_cons_succ]
              refine wpAnyK_take (i := 16) [17, 18, 19, 24, 25, 26, 33] (v := ?v29) rfl (by kernel_rfl) (by kernel_rfl) (by kernel_rfl) (by kernel_rfl) (fun _ _ _ h => h) (Or.inl ⟨by rfl, ?hy29⟩) hH ?rest29
              case hy29 => (intro w hSw; (try dsimp only at hSw); go_simp; with_reducible rfl)
              try simp only [Act.put, List.setIfInBounds_toArray, List.set_cons_zero, List.set_cons_succ]
              refine wpAnyK_take (i := 17) [18, 19, 24, 25, 26, 33] (v := ?v30) rfl (by kernel_rfl) (by kernel_rfl) (by kernel_rfl) (by kernel_rfl) (fun _ _ _ h => h) (Or.inl ⟨by rfl, ?hy30⟩) hH ?rest30
              case hy30 => (intro w hSw; (try dsimp only at hSw); go_simp; with_reducible rfl)
              try simp only [Act.put, List.setIfInBounds_toArray, List.set_cons_zero, List.set_cons_succ]
              refine wpAnyK_take (i := 18) [19, 24, 25, 26, 33] (v := ?v31) rfl (by kernel_rfl) (by kernel_rfl) (by kernel_rfl) (by kernel_rfl) (fun _ _ _ h => h) (Or.inl ⟨by rfl, ?hy31⟩) hH ?rest31
              case hy31 => (intro w hSw; (try dsimp only at hSw); go_simp; with_reducible rfl)
              try simp only [Act.put, List.setIfInBounds_toArray, List.set_cons_zero, List.set_cons_succ]
              refine wpAnyK_take (i := 19) [24, 25, 26, 33] (v := ?v32) rfl (by kernel_rfl) (by kernel_rfl) (by kernel_rfl) (by kernel_rfl) (fun _ _ _ h => h) (Or.inl ⟨by rfl, ?hy32⟩) hH ?rest32
              case hy32 => (intro w hSw; (try dsimp only at hSw); go_simp; with_reducible rfl)
              try simp only [Act.put, List.setIfInBounds_toArray, List.set_cons_zero, List.set_cons_succ]
              refine wpAnyK_take (i := 20) [22, 23, 24, 25, 26, 33] (v := ?v33) rfl (by kernel_rfl) (by kernel_rfl) (by kernel_rfl) (by kernel_rfl) (fun _ _ _ h => h) (Or.inl ⟨by rfl, ?hy33⟩) hH ?rest33
              case hy33 => (intro w hSw; (try dsimp only at hSw); go_simp; with_reducible rfl)
              try simp only [Act.put, List.setIfInBounds_toArray, List.set_cons_zero, List.set_cons_succ]
              refine wpAnyK_take (i := 21) [22, 23, 24, 25, 26, 33] (v := ?v34) rfl (by kernel_rfl) (by kernel_rfl) (by kernel_rfl) (by kernel_rfl) (fun _ _ _ h => h) (Or.inl ⟨by rfl, ?hy34⟩) hH ?rest34
              case hy34 => (intro w hSw; (try dsimp only at hSw); go_simp; with_reducible rfl)
              try simp only [Act.put, List.setIfInBounds_toArray, List.set_cons_zero, List.set_cons_succ]
              refine wpAnyK_take (i := 22) [23, 24, 25, 26, 33] (v := ?v35) rfl (by kernel_rfl) (by kernel_rfl) (by kernel_rfl) (by kernel_rfl) (fun _ _ _ h => h) (Or.inl ⟨by rfl, ?hy35⟩) hH ?rest35
              case hy35 => (intro w hSw; (try dsimp only at hSw); go_simp; with_reducible rfl)
              try simp only [Act.put, List.setIfInBounds_toArray, List.set_cons_zero, List.set_cons_succ]
              refine wpAnyK_take (i := 23) [24, 25, 26, 33] (v := ?v36) rfl (by kernel_rfl) (by kernel_rfl) (by kernel_rfl) (by kernel_rfl) (fun _ _ _ h => h) (Or.inl ⟨by rfl, ?hy36⟩) hH ?rest36
              case hy36 => (intro w hSw; (try dsimp only at hSw); go_simp; with_reducible rfl)
              try simp only [Act.put, List.setIfInBounds_toArray, List.set_cons_zero, List.set_cons_succ]
              refine wpAnyK_take (i := 24) [25, 26, 33] (v := ?v37) rfl (by kernel_rfl) (by kernel_rfl) (by kernel_rfl) (by kernel_rfl) (fun _ _ _ h => h) (Or.inl ⟨by rfl, ?hy37⟩) hH ?rest37
              case hy37 => (intro w hSw; (try dsimp only at hSw); go_simp; with_reducible rfl)
              try simp only [Act.put, List.setIfInBounds_toArray, List.set_cons_zero, List.set_cons_succ]
              refine wpAnyK_take (i := 25) [26, 33] (v := ?v38) rfl (by kernel_rfl) (by kernel_rfl) (by kernel_rfl) (by kernel_rfl) (fun _ _ _ h => h) (Or.inl ⟨by rfl, ?hy38⟩) hH ?rest38
              case hy38 => (intro w hSw; (try dsimp only at hSw); go_simp; with_reducible rfl)
              try simp only [Act.put, List.setIfInBounds_toArray, List.set_cons_zero, List.set_cons_succ]
              refine wpAnyK_take (i := 26) [33] (v := ?v39) rfl (by kernel_rfl) (by kernel_rfl) (by kernel_rfl) (by kernel_rfl) (fun _ _ _ h => h) (Or.inl ⟨by rfl, ?hy39⟩) hH ?rest39
              case hy39 => (intro w hSw; (try dsimp only at hSw); go_simp; with_reducible rfl)
              try simp only [Act.put, List.setIfInBounds_toArray, List.set_cons_zero, List.set_cons_succ]
              refine wpAnyK_take (i := 27) [28, 29, 30, 32, 33] (v := ?v40) rfl (by kernel_rfl) (by kernel_rfl) (by kernel_rfl) (by kernel_rfl) (fun _ _ _ h => h) (Or.inl ⟨by rfl, ?hy40⟩) hH ?rest40
              case hy40 => (intro w hSw; (try dsimp only at hSw); go_simp; with_reducible rfl)
              try simp only [Act.put, List.setIfInBounds_toArray, List.set_cons_zero, List.set_cons_succ]
              refine wpAnyK_take (i := 28) [29, 30, 32, 33] (v := ?v41) rfl (by kernel_rfl) (by kernel_rfl) (by kernel_rfl) (by kernel_rfl) (fun _ _ _ h => h) (Or.inl ⟨by rfl, ?hy41⟩) hH ?rest41
              case hy41 => (intro w hSw; (try dsimp only at hSw); go_simp; with_reducible rfl)
              try simp only [Act.put, List.setIfInBounds_toArray, List.set_cons_zero, List.set_cons_succ]
              refine wpAnyK_take (i := 29) [30, 32, 33] (v := ?v42) rfl (by kernel_rfl) (by kernel_rfl) (by kernel_rfl) (by kernel_rfl) (fun _ _ _ h => h) (Or.inl ⟨by rfl, ?hy42⟩) hH ?rest42
              case hy42 => (intro w hSw; (try dsimp only at hSw); go_simp; with_reducible rfl)
              try simp only [Act.put, List.setIfInBounds_toArray, List.set_cons_zero, List.set_cons_succ]
              refine wpAnyK_take (i := 30) [32, 33] (v := ?v43) rfl (by kernel_rfl) (by kernel_rfl) (by kernel_rfl) (by kernel_rfl) (fun _ _ _ h => h) (Or.inl ⟨by rfl, ?hy43⟩) hH ?rest43
              case hy43 => (intro w hSw; (try dsimp only at hSw); go_simp; with_reducible rfl)
              try simp only [Act.put, List.setIfInBounds_toArray, List.set_cons_zero, List.set_cons_succ]
              refine wpAnyK_take (i := 31) [32, 33] (v := ?v44) rfl (by kernel_rfl) (by kernel_rfl) (by kernel_rfl) (by kernel_rfl) (fun _ _ _ h => h) (Or.inl ⟨by rfl, ?hy44⟩) hH ?rest44
              case hy44 => (intro w hSw; (try dsimp only at hSw); go_simp; with_reducible rfl)
              try simp only [Act.put, List.setIfInBounds_toArray, List.set_cons_zero, List.set_cons_succ]
              refine wpAnyK_take (i := 32) [33] (v := ?v45) rfl (by kernel_rfl) (by kernel_rfl) (by kernel_rfl) (by kernel_rfl) (fun _ _ _ h => h) (Or.inl ⟨by rfl, ?hy45⟩) hH ?rest45
              case hy45 => (intro w hSw; (try dsimp only at hSw); go_simp; with_reducible rfl)
              try simp only [Act.put, List.setIfInBounds_toArray, List.set_cons_zero, List.set_cons_succ]
              refine wpAnyK_last (by kernel_rfl) rfl (fun K hK => ?_) (by kernel_rfl)
              go_simp
              refine hK.out _ _ (wpAnyK_done (by kernel_rfl) ?_ _)
              clear hK K hH
              have hcj8 := e0
              clear e0 e1 e2 kd0 kd1 kd2 hcj2 hg0 hg1 hconv
              go_wp2_with fail
              refine (last_n HN8.out T).mono ?_
              rintro _ w3 ⟨rfl, hb3⟩
              have hcj9 := (hb3.cell (p := ⟨b, off + j, none⟩) (World.block_lt_of_cell? _ _ hcj8)).trans hcj8
              have HN9 := Lib.hid (HN8.out.below hb3)
              have HB9 := Lib.hid (HB8.out.trans (hb3.mono HB8.out.size))
              have hlast := HPF.out.last HN4.out.sorted T
              obtain ⟨la, hla⟩ : ∃ la, (lastOf E T).1 = la := ⟨_, rfl⟩
              obtain ⟨lv, hlv⟩ : ∃ la, (lastOf E T).2.1 = la := ⟨_, rfl⟩
              obtain ⟨lo, hlo⟩ : ∃ la, (lastOf E T).2.2 = la := ⟨_, rfl⟩
              rw [hla, hlo] at hlast
              rw [hla, hlv, hlo]
              have HLAST := Lib.hid hlast
              have HCJ9 := Lib.hid hcj9
              simp only []
              clear hb3 hlast hla hlv hlo hcj9 hcj8
              go_wp2
              go_loopw [16] (fun x wd => ∃ k : Nat, k ≤ i ∧ x = .int .i64 (k : Int) ∧ Below w3.heap.size w3 wd) (fun x _ => i - (intOf x).toNat)
              case atStart => exact ⟨0, by omega, rfl, Below.refl _ _⟩
              case round =>
                obtain ⟨k, hk, rfl, hbd⟩ := hrel
                have HBD := Lib.hid hbd
                have hcj := (hbd.cell (p := ⟨b, off + j, none⟩) (World.block_lt_of_cell? _ _ HCJ9.out)).trans HCJ9.out
                clear hbd
                by_cases hlt : k < i
                · obtain ⟨b', off', hbo, hcm⟩ := HKEY.out wr k (HB9.out.trans (HBD.out.mono HB9.out.size)) (by omega)
                  obtain ⟨rfl, rfl⟩ : b = b' ∧ off = off' := by cases hbo; exact ⟨rfl, rfl⟩
                  obtain ⟨T2, hT2⟩ : ∃ T2, gk l k = T2 := ⟨_, rfl⟩
                  rw [hT2] at hcm
                  have hl2 := HLAST.out.2 k hlt
                  rw [hT2] at hl2
                  have t3 : (k : Int) < (i : Int) := by omega
                  have t4 : (j : Int) < (i : Int) := by omega
                  have t5 : (0 : Int) ≤ (j : Int) := by omega
                  have t6 : (0 : Int) ≤ (k : Int) := by omega
                  by_cases hc : kcmp T2 T < 0
                  · obtain ⟨rfl, h4⟩ := hl2 hc
                    have s1 : Op.bytesLess T2.toList T.toList = true := by rw [less_k]; simpa using hc
                    have s2 : Op.bytesLess la.toList T2.toList = false := by rw [less_k]; simpa using h4
                    clear hc h4 hl2 hT2 hbo
                    go_wp2_with fail
                    go_quiet (fail)
                    go_wp2
                    go_roundw
                    case rel => exact ⟨k + 1, by omega, by go_num, by first | exact HBD.out | exact below_drewN HBD.out _⟩
                    case measure => simp [intOf]; omega
                  · have s1 : Op.bytesLess T2.toList T.toList = false := by rw [less_k]; simpa using hc
                    clear hc hl2 hT2 hbo
                    go_wp2_with fail
                    go_quiet (fail)
                    go_wp2
                    go_roundw
                    case rel => exact ⟨k + 1, by omega, by go_num, by first | exact HBD.out | exact below_drewN HBD.out _⟩
                    case measure => simp [intOf]; omega
                · obtain rfl : k = i := by omega
                  have hl1 := HLAST.out.1
                  cases lo with
                  | true =>
                    have h4 := hl1 rfl
                    have s1 : Op.bytesLess la.toList T.toList = true := by rw [less_k]; simpa using h4
                    clear hl1 h4
                    go_wp2
                    go_roundw
                    case rel => exact ⟨j + 1, by omega, by go_num, HN9.out.below HBD.out, HB9.out.trans (HBD.out.mono HB9.out.size)⟩
                    case measure => simp [intOf]; omega
                  | false =>
                    clear hl1
                    go_wp2
                    go_roundw
                    case rel => exact ⟨j + 1, by omega, by go_num, HN9.out.below HBD.out, HB9.out.trans (HBD.out.mono HB9.out.size)⟩
                    case measure => simp [intOf]; omega
          · obtain rfl : j = i := by omega
            go_wp2_with fail
            refine (alive_any wo).mono ?_
            rintro e w1 ⟨rfl, b1⟩
            go_wp2
            go_ret
            exact ⟨rfl, HB4.out.trans (b1.mono hz4)⟩
end Go.Proofs.Ytnhieingcmnfaaa
