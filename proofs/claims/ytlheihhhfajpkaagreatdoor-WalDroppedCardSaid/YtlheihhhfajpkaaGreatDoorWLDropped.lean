/-
  WalDropped: its walk.
-/
import Derived.Test.YtlheihhhfajpkaaGreatDoorWlMM
set_option linter.unusedSimpArgs false
set_option linter.unusedVariables false
namespace Go.Proofs.YtlheihhhfajpkaaGreatDoor
open Go.RowKit

set_option maxRecDepth 100000 in
set_option maxHeartbeats 4000000 in
theorem dropped_walk (a : Option Addr) (len cap : Nat) (l : List ByteArray) (size below : Int) {W : World} (hl : StrsAt W a len l) (hlen : len ≤ maxLen) (_ : (Lit.int IntKind.i64 size).wf = true) (_ : (Lit.int IntKind.i64 below).wf = true) (w : World) (hW : W = w) :
    Calls Tryz.prog 9 #[.slice a len cap, .int .i64 size, .int .i64 below] w fun e w' => e = .returned (.bool true) ∧ Below w.heap.size w w' := by
  subst hW
  unfold maxLen at hlen
  by_cases hout : 30 < len ∨ size < 1 ∨ 524288 < size
  · rcases (by omega : (30 < len) ∨ (¬ 30 < len ∧ size < 1) ∨ (¬ 30 < len ∧ ¬ size < 1 ∧ 524288 < size)) with h0 | ⟨h0, h1⟩ | ⟨h0, h1, h2⟩
    · have t0 : (30 : Int) < (len : Int) := by omega
      clear hout h0
      go_enter Tryz.func9, Tryz.ntmps9
      go_wp2_with (go_at_call 10; refine (alive_any _).mono ?_; rintro e v1 ⟨rfl, b2⟩)
      go_ret
      exact ⟨rfl, b2⟩
    · have t0 : ¬ (30 : Int) < (len : Int) := by omega
      have t1 : size < 1 := by omega
      clear hout h0 h1
      go_enter Tryz.func9, Tryz.ntmps9
      go_wp2_with (go_at_call 10; refine (alive_any _).mono ?_; rintro e v1 ⟨rfl, b2⟩)
      go_ret
      exact ⟨rfl, b2⟩
    · have t0 : ¬ (30 : Int) < (len : Int) := by omega
      have t1 : ¬ size < 1 := by omega
      have t2 : 524288 < size := by omega
      clear hout h0 h1 h2
      go_enter Tryz.func9, Tryz.ntmps9
      go_wp2_with (go_at_call 10; refine (alive_any _).mono ?_; rintro e v1 ⟨rfl, b2⟩)
      go_ret
      exact ⟨rfl, b2⟩
  · have t0 : ¬ (30 : Int) < (len : Int) := by omega
    have t1 : ¬ size < 1 := by omega
    have t2 : ¬ 524288 < size := by omega
    have h20 : len ≤ 30 := by omega
    have hsz1 : 1 ≤ size := by omega
    have hsz2 : size ≤ 524288 := by omega
    clear hout
    have hln := hl.1
    have HL := Lib.hid hl
    have HLN := Lib.hid hln
    clear hl hln
    go_enter Tryz.func9, Tryz.ntmps9
    go_wp2_with (go_at_call 11; refine (c_newd (w0 := W) (Below.refl _ _)).mono ?_; rintro e w1 ⟨rfl, h1, _⟩; have H1 := Lib.hid h1; clear h1)
    refine (c_openw (size := size) H1.out hsz1 hsz2).mono ?_
    rintro e w2 ⟨F2, lb, mp, G2, rfl, h2⟩
    have H2 := Lib.hid h2
    clear h2
    obtain ⟨db, hdb⟩ : ∃ db, W.heap.size + 1 = db := ⟨_, rfl⟩
    obtain ⟨mb, hmb⟩ : ∃ mb, W.heap.size = mb := ⟨_, rfl⟩
    rw [hdb] at H2 ⊢
    have H3 : Hid (Lp mb W w2 F2 G2 db mb lb mp size [] 0 (opened dW size []) []) := by unfold Hid; rw [← hmb]; have := H2.out; rw [hmb] at this ⊢; exact this
    clear H2 H1
    go_wp2
    go_loopw [10] (fun y wr => ∃ i : Nat, i ≤ len ∧ y = .int .i64 (i : Int) ∧ ∃ F G S k L, Lp mb W wr F G db mb lb mp size S k L (l.take i) ∧ (∀ r ∈ l.take i, r.size ≤ 500) ∧ Cons S) (fun y _ => len - (intOf y).toNat)
    case atStart => exact ⟨0, by omega, rfl, F2, G2, [], 0, opened dW size [], H3.out, fun r hr => by simp at hr, Cons.nil⟩
    case round =>
      obtain ⟨i, hi, rfl, F, G, S, k, L, hp, hsm, hx⟩ := hrel
      have HP := Lib.hid (And.intro hp (And.intro hsm hx))
      clear hp hsm hx
      by_cases hlt : i < len
      · have hil : i < l.length := by rw [HLN.out]; exact hlt
        obtain ⟨b, off, rfl, hbl, hcs⟩ := HL.out.2.1.resolve_left (by omega)
        have d0 := hcs i hil
        have d1 := (HP.out.1.ws.d.b.cell (p := ⟨b, off + i, none⟩) (by rw [← hmb]; exact hbl)).trans d0
        have htk : l.take (i + 1) = l.take i ++ [l[i]] := List.take_succ_eq_append_getElem hil
        obtain ⟨s, hs⟩ : ∃ s, l[i] = s := ⟨_, rfl⟩
        rw [hs] at d1 htk
        have HT := Lib.hid htk
        have r1 : (i : Int) < (len : Int) := by omega
        clear hcs d0 htk hs hbl
        by_cases hbig : 500 < s.size
        · have r2 : (500 : Int) < (s.size : Int) := by omega
          clear hbig
          go_wp2_with (go_at_call 10; refine (alive_any _).mono ?_; rintro e v1 ⟨rfl, b2⟩)
          go_ret
          exact ⟨rfl, by rw [hmb]; exact HP.out.1.ws.d.b.trans (b2.mono HP.out.1.ws.d.hz)⟩
        · have r2 : ¬ (500 : Int) < (s.size : Int) := by omega
          have hs300 : s.size ≤ 500 := by omega
          clear hbig
          go_wp2_with fail
          have hlt2 : (l.take i).length ≤ 30 := by rw [List.length_take]; omega
          have htt := total_le HP.out.2.1
          refine (c_app HP.out.1 hsz2 s (by omega) (by omega) (by omega)).mono ?_
          rintro e w4 ⟨rfl, F', G', S', k', L', hp', happ, _⟩
          have H4 := Lib.hid (And.intro hp' happ)
          clear hp' happ htt hlt2
          go_wp2
          go_roundw
          case rel => exact ⟨i + 1, by omega, by go_num, F', G', S', k', L', by rw [HT.out]; exact H4.out.1, fun r hr => by
            rw [HT.out] at hr
            rcases List.mem_append.1 hr with hr | hr
            · exact HP.out.2.1 r hr
            · rw [List.mem_singleton] at hr; rw [hr]; exact hs300, HP.out.2.2.step H4.out.2⟩
          case measure => simp [intOf]; omega
      · obtain rfl : len = i := by omega
        have HP2 : Hid (Lp mb W wr F G db mb lb mp size S k L l ∧ l.length ≤ 30 ∧ Cons S) := by
          unfold Hid
          have h9 := HP.out.1
          rw [← HLN.out, List.take_length] at h9
          exact ⟨h9, by rw [HLN.out]; exact h20, HP.out.2.2⟩
        have HSM : Hid (∀ r ∈ l, r.size ≤ 500) := by
          unfold Hid
          have h9 := HP.out.2.1
          rw [← HLN.out, List.take_length] at h9
          exact h9
        clear HP
        obtain ⟨last, hlast⟩ : ∃ last : Int, L.last = last := ⟨_, rfl⟩
        have hl0 : last = (lastN S : Int) := by rw [← hlast]; exact HP2.out.1.run.last
        have hl1 := HP2.out.1.last
        have hl2 := HP2.out.2.1
        have hl3 := HP2.out.1.acts
        have hl4 := HP2.out.1.len
        have b1 : 0 ≤ last := by omega
        have b2 : last ≤ 30 := by omega
        obtain ⟨t, ht⟩ : ∃ t : Int, min below last = t := ⟨_, rfl⟩
        obtain ⟨T, hT⟩ : ∃ T, S.filter (fun p => decide (t ≤ (p.1 : Int))) = T := ⟨_, rfl⟩
        have hkeep : keepS below L.op S = T := by
          by_cases h0 : S = []
          · rw [h0] at hT ⊢; rw [← hT]; rfl
          · have hne : l ≠ [] := by
              intro e
              rw [e] at hl4
              exact h0 (List.eq_nil_of_length_eq_zero (by simpa using hl4))
            have hop : L.op = (lastN S : Int) := by
              rcases HP2.out.1.run.op with ⟨e, _⟩ | ⟨A, n, f, e, ho, _⟩
              · exact absurd e (HP2.out.1.op hne)
              · rw [e, lastN_snoc]; exact ho
            rw [hop, keep_eq (fun p hp => by have := lastN_lt HP2.out.1.run.rise p hp; omega), ← hT, ← ht, hl0]
        have hrT : Rise T := by rw [← hT]; exact HP2.out.1.run.rise.filter _
        have hgT : ∀ p ∈ T, Good p.2.data := by rw [← hT]; exact fun p hp => HP2.out.1.run.good p (List.mem_filter.1 hp).1
        have hlT : T.length ≤ 30 := by rw [← hT]; exact Nat.le_trans (List.length_filter_le _ _) (by omega)
        have hrec : L.records t = allR T := by rw [← hT]; exact records_of HP2.out.1.run.m t
        have haT : (allR T).length ≤ 30 := by
          have h1 : (allR T).length ≤ (allR S).length := by rw [← hT]; exact flatMap_sub List.filter_sublist
          rw [HP2.out.1.all] at h1
          omega
        have hlastT : (lastN T : Int) = last := by
          by_cases h0 : S = []
          · rw [h0] at hT hl0; rw [← hT, hl0]; rfl
          · rw [← hT, last_keep h0 (by omega), hl0]
        have hfirst : ∀ L' : Lg, L'.m = mOf T → len ≠ 0 → L'.first = max t 1 := by
          intro L' hm hne
          have h0 : S ≠ [] := by
            intro e
            have h9 := HP2.out.1.all
            rw [e] at h9
            have h8 := HLN.out
            rw [← h9] at h8
            simp [allR] at h8
            omega
          have hcl := HP2.out.2.2.last
          exact first_keep HP2.out.2.2 h0 (by omega) (by rw [hm, ← hT])
        obtain ⟨nT, hnT⟩ : ∃ nT, (allR T).length = nT := ⟨_, rfl⟩
        obtain ⟨lT, hlTe⟩ : ∃ lT, allR T = lT := ⟨_, rfl⟩
        rw [hlTe] at hrec hnT haT
        have HK := Lib.hid hkeep
        have HRT := Lib.hid (And.intro hrT (And.intro hgT hlT))
        have HRE := Lib.hid (And.intro hrec (And.intro haT hlTe))
        have HLA := Lib.hid (And.intro hlastT hfirst)
        have HNT := Lib.hid hnT
        have HTT := Lib.hid ht
        have HLL := Lib.hid hlast
        have HAC := Lib.hid (And.intro hl3 (And.intro hl2 hl4))
        clear hlast hl0 hl1 hl2 hl3 hl4 ht hT hkeep hrT hgT hlT hrec haT hlastT hfirst hnT hlTe
        go_wp2_with fail
        refine (cl_last HP2.out.1.ws HLL.out).mono ?_
        rintro e w6 ⟨rfl, hb6⟩
        have H6 := Lib.hid (HP2.out.1.stay hb6)
        clear hb6
        go_wp2_with fail
        refine (c_records H6.out.ws (by rw [H6.out.flat]; have := HP2.out.2.1; omega) (min below last) (l := lT) (by rw [HTT.out]; exact HRE.out.1) (n := nT) HNT.out).mono ?_
        rintro e w7 ⟨a7, c7, rfl, hrd7, hb7⟩
        have H7 := Lib.hid (And.intro (H6.out.stay hb7) hrd7)
        clear hrd7 hb7
        go_wp2_with fail
        refine (c_drop H7.out.1.ws nm_dW (by decide) H7.out.1.run (by have := HAC.out; omega) below HK.out).mono ?_
        rintro e w8 ⟨rfl, F8, G8, k8, h8, s8, hk8⟩
        have H8 := Lib.hid (And.intro h8 (And.intro (H7.out.2.go s8) hk8))
        clear h8 s8 hk8
        go_wp2_with fail
        refine (c_records H8.out.1 (by rw [flat_m (S := T) rfl, HRE.out.2.2]; have := HRE.out.2.1; omega) 0 (l := lT) (by rw [records_all HRT.out.1 (S := T) rfl, HRE.out.2.2]) (n := nT) HNT.out).mono ?_
        rintro e w9 ⟨a9, c9, rfl, hrd9, hb9⟩
        have H9 := Lib.hid (And.intro (H8.out.1.stay hb9) (And.intro (H8.out.2.1.go (Step.below hb9)) hrd9))
        clear hrd9 hb9
        go_wp2_with fail
        refine (c_open_good (dir := dW) (S := T) (M := none) (size := size) H9.out.1.d nm_dW (by decide) HRT.out.1 HRT.out.2.1 (by have := HRT.out.2.2; omega) hsz1 hsz2 (by have := H8.out.2.2; have := HAC.out; omega)).mono ?_
        rintro e w10 ⟨F10, lb10, mp10, G10, rfl, h10, s10, t10⟩
        have H10 := Lib.hid (And.intro h10 (And.intro (H9.out.1.beside h10.d s10 t10) (And.intro (H9.out.2.1.go s10) (H9.out.2.2.go s10))))
        clear h10 s10 t10
        go_wp2_with fail
        refine (alive_any _).mono ?_
        rintro e w11 ⟨rfl, hb11⟩
        have H11 := Lib.hid (And.intro (H10.out.1.stay hb11) (And.intro (H10.out.2.1.stay hb11) (And.intro (H10.out.2.2.1.go (Step.below hb11)) (H10.out.2.2.2.go (Step.below hb11)))))
        clear hb11
        go_wp2_with fail
        refine (same_Texts H11.out.2.2.2.rd H11.out.2.2.1.rd (by have := HRE.out; omega)).mono ?_
        rintro e w12 ⟨rfl, x12, rfl⟩
        have hb12 : Below w11.heap.size w11 (w11.drewN x12) := below_drewN (Below.refl _ _) x12
        have H12 := Lib.hid (And.intro (H11.out.1.stay hb12) (And.intro (H11.out.2.1.stay hb12) (H11.out.2.2.2.go (Step.below hb12))))
        clear hb12
        go_wp2_with fail
        refine (c_records H12.out.1 (by rw [flat_m (S := T) rfl, HRE.out.2.2]; have := HRE.out.2.1; omega) 0 (l := lT) (by rw [records_all HRT.out.1 (S := T) rfl, HRE.out.2.2]) (n := nT) HNT.out).mono ?_
        rintro e w13 ⟨a13, c13, rfl, hrd13, hb13⟩
        have H13 := Lib.hid (And.intro hrd13 (And.intro (H12.out.2.1.stay hb13) (H12.out.2.2.go (Step.below hb13))))
        clear hrd13 hb13
        go_wp2_with fail
        refine (same_Texts H13.out.1.rd H13.out.2.2.rd (by have := HRE.out; omega)).mono ?_
        rintro e w14 ⟨rfl, x14, rfl⟩
        have H14 := Lib.hid (H13.out.2.1.stay (below_drewN (Below.refl _ _) x14))
        go_wp2_with fail
        refine (cl_last H14.out (v := last) (by rw [last_m (S := T) rfl]; exact HLA.out.1)).mono ?_
        rintro e w15 ⟨rfl, hb15⟩
        have H15 := Lib.hid (H14.out.stay hb15)
        clear hb15
        have t8 : (last == last) = true := by simp
        by_cases h00 : len = 0
        · subst h00
          go_wp2
          go_ret
          exact ⟨rfl, by rw [hmb]; exact H15.out.d.b⟩
        · have t9 : ((len : Int) == 0) = false := beq_eq_false_iff_ne.2 (by omega)
          have t10 : ((max (min below last) 1 : Int) == max (min below last) 1) = true := by simp
          go_wp2_with fail
          refine (cl_first H15.out (v := max (min below last) 1) (by rw [HTT.out]; exact HLA.out.2 _ rfl h00)).mono ?_
          rintro e w16 ⟨rfl, hb16⟩
          have H16 := Lib.hid (H15.out.stay hb16)
          clear hb16
          go_wp2
          go_ret
          exact ⟨rfl, by rw [hmb]; exact H16.out.d.b⟩
end Go.Proofs.YtlheihhhfajpkaaGreatDoor
