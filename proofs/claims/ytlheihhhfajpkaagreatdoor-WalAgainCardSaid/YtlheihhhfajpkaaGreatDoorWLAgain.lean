/-
  WalAgain: its walk.
-/
import Derived.Test.YtlheihhhfajpkaaGreatDoorWlMM
set_option linter.unusedSimpArgs false
set_option linter.unusedVariables false
namespace Go.Proofs.YtlheihhhfajpkaaGreatDoor
open Go.RowKit

abbrev tX1 : ByteArray := ⟨#[120]⟩

set_option maxRecDepth 100000 in
set_option maxHeartbeats 4000000 in
theorem again_walk (a : Option Addr) (len cap : Nat) (l : List ByteArray) (n : Int) {W : World} (hl : StrsAt W a len l) (hlen : len ≤ maxLen) (_ : (Lit.int IntKind.i64 n).wf = true) (w : World) (hW : W = w) :
    Calls Tryz.prog 5 #[.slice a len cap, .int .i64 n] w fun e w' => e = .returned (.bool true) ∧ Below w.heap.size w w' := by
  subst hW
  unfold maxLen at hlen
  by_cases hout : 20 < len ∨ n < 1 ∨ 6 < n
  · rcases (by omega : (20 < len) ∨ (¬ 20 < len ∧ n < 1) ∨ (¬ 20 < len ∧ ¬ n < 1 ∧ 6 < n)) with h0 | ⟨h0, h1⟩ | ⟨h0, h1, h2⟩
    · have t0 : (20 : Int) < (len : Int) := by omega
      clear hout h0
      go_enter Tryz.func5, Tryz.ntmps5
      go_wp2_with (go_at_call 10; refine (alive_any _).mono ?_; rintro e v1 ⟨rfl, b2⟩)
      go_ret
      exact ⟨rfl, b2⟩
    · have t0 : ¬ (20 : Int) < (len : Int) := by omega
      have t1 : n < 1 := by omega
      clear hout h0 h1
      go_enter Tryz.func5, Tryz.ntmps5
      go_wp2_with (go_at_call 10; refine (alive_any _).mono ?_; rintro e v1 ⟨rfl, b2⟩)
      go_ret
      exact ⟨rfl, b2⟩
    · have t0 : ¬ (20 : Int) < (len : Int) := by omega
      have t1 : ¬ n < 1 := by omega
      have t2 : 6 < n := by omega
      clear hout h0 h1 h2
      go_enter Tryz.func5, Tryz.ntmps5
      go_wp2_with (go_at_call 10; refine (alive_any _).mono ?_; rintro e v1 ⟨rfl, b2⟩)
      go_ret
      exact ⟨rfl, b2⟩
  · have t0 : ¬ (20 : Int) < (len : Int) := by omega
    have t1 : ¬ n < 1 := by omega
    have t2 : ¬ 6 < n := by omega
    have h20 : len ≤ 20 := by omega
    clear hout
    have hln := hl.1
    have HL := Lib.hid hl
    have HLN := Lib.hid hln
    clear hl hln
    go_enter Tryz.func5, Tryz.ntmps5
    go_wp2_with (go_at_call 11; refine (c_newd (w0 := W) (Below.refl _ _)).mono ?_; rintro e w1 ⟨rfl, h1, _⟩; have H1 := Lib.hid h1; clear h1)
    refine (c_openw (size := 100) H1.out (by decide) (by decide)).mono ?_
    rintro e w2 ⟨F2, lb, mp, G2, rfl, h2⟩
    have H2 := Lib.hid h2
    clear h2
    obtain ⟨db, hdb⟩ : ∃ db, W.heap.size + 1 = db := ⟨_, rfl⟩
    obtain ⟨mb, hmb⟩ : ∃ mb, W.heap.size = mb := ⟨_, rfl⟩
    rw [hdb] at H2 ⊢
    have H3 : Hid (Lp mb W w2 F2 G2 db mb lb mp 100 [] 0 (opened dW 100 []) []) := by unfold Hid; rw [← hmb]; have := H2.out; rw [hmb] at this ⊢; exact this
    clear H2 H1
    go_wp2
    go_loopw [8] (fun y wr => ∃ i : Nat, i ≤ len ∧ y = .int .i64 (i : Int) ∧ ∃ F G S k L, Lp mb W wr F G db mb lb mp 100 S k L (l.take i) ∧ (∀ r ∈ l.take i, r.size ≤ 300)) (fun y _ => len - (intOf y).toNat)
    case atStart => exact ⟨0, by omega, rfl, F2, G2, [], 0, opened dW 100 [], H3.out, fun r hr => by simp at hr⟩
    case round =>
      obtain ⟨i, hi, rfl, F, G, S, k, L, hp, hsm⟩ := hrel
      have HP := Lib.hid (And.intro hp hsm)
      clear hp hsm
      by_cases hlt : i < len
      · have hil : i < l.length := by rw [HLN.out]; exact hlt
        obtain ⟨b, off, rfl, hbl, hcs⟩ := HL.out.2.1.resolve_left (by omega)
        have d0 := hcs i hil
        have d1 := (HP.out.1.ws.d.b.cell (p := ⟨b, off + i, none⟩) (by rw [← hmb]; exact hbl)).trans d0
        have htk : l.take (i + 1) = l.take i ++ [l[i]] := List.take_succ_eq_append_getElem hil
        obtain ⟨s, hs⟩ : ∃ s, l[i] = s := ⟨_, rfl⟩
        rw [hs] at d1 htk
        have HT := Lib.hid htk
        have r1 : (i : Int) < (len : Int) := by omega
        clear hcs d0 htk hs hbl
        by_cases hbig : 300 < s.size
        · have r2 : (300 : Int) < (s.size : Int) := by omega
          clear hbig
          go_wp2_with (go_at_call 10; refine (alive_any _).mono ?_; rintro e v1 ⟨rfl, b2⟩)
          go_ret
          exact ⟨rfl, by rw [hmb]; exact HP.out.1.ws.d.b.trans (b2.mono HP.out.1.ws.d.hz)⟩
        · have r2 : ¬ (300 : Int) < (s.size : Int) := by omega
          have hs300 : s.size ≤ 300 := by omega
          clear hbig
          go_wp2_with fail
          have hlt2 : (l.take i).length ≤ 20 := by rw [List.length_take]; omega
          have htt := total_le HP.out.2
          refine (c_app HP.out.1 (by decide) s (by omega) (by omega) (by omega)).mono ?_
          rintro e w4 ⟨rfl, F', G', S', k', L', hp', happ, _⟩
          have H4 := Lib.hid (And.intro hp' happ)
          clear hp' happ htt hlt2
          go_wp2
          go_roundw
          case rel => exact ⟨i + 1, by omega, by go_num, F', G', S', k', L', by rw [HT.out]; exact H4.out.1, fun r hr => by
            rw [HT.out] at hr
            rcases List.mem_append.1 hr with hr | hr
            · exact HP.out.2 r hr
            · rw [List.mem_singleton] at hr; rw [hr]; exact hs300⟩
          case measure => simp [intOf]; omega
      · obtain rfl : len = i := by omega
        have HP2 : Hid (Lp mb W wr F G db mb lb mp 100 S k L l ∧ l.length ≤ 20) := by
          unfold Hid
          have h9 := HP.out.1
          rw [← HLN.out, List.take_length] at h9
          exact ⟨h9, by rw [HLN.out]; exact h20⟩
        have HSM : Hid (∀ r ∈ l, r.size ≤ 300) := by
          unfold Hid
          have h9 := HP.out.2
          rw [← HLN.out, List.take_length] at h9
          exact h9
        clear HP
        obtain ⟨last, hlast⟩ : ∃ last : Int, L.last = last := ⟨_, rfl⟩
        go_wp2_with fail
        refine (cl_acts HP2.out.1.ws.d.d (n := (k : Int)) rfl).mono ?_
        rintro e v ⟨rfl, rfl⟩
        go_wp2_with fail
        refine (cl_last HP2.out.1.ws hlast).mono ?_
        rintro e w6 ⟨rfl, hb6⟩
        have H6 := Lib.hid (HP2.out.1.stay hb6)
        have HS := Lib.hid (And.intro HP2.out.2 hlast)
        clear hb6 hlast
        have hk3 := H6.out.acts
        go_wp2
        go_loopw [6, 11, 12, 13] (fun v6 y _ _ wr => ∃ j : Nat, y = .int .i64 (j : Int) ∧ (j : Int) ≤ n ∧ ∃ F G lb mp Lj, v6 = .pointer (some ⟨lb, 0, none⟩) ∧ WS mb W wr F G db mb lb mp (dkF (dmap dW S none) (-1) none k) Lj ∧ (0 < j → Lj = opened dW 100 S)) (fun _ y _ _ _ => n.toNat - (intOf y).toNat)
        case atStart => exact ⟨0, rfl, by omega, _, _, _, _, L, rfl, H6.out.ws, fun h => absurd h (by omega)⟩
        case round =>
          obtain ⟨j, rfl, hj, F2, G2, lb2, mp2, Lj, rfl, hw, hop⟩ := hrel
          have HW := Lib.hid (And.intro hw hop)
          clear hw hop
          by_cases hjn : (j : Int) < n
          · have t5 : (last != last) = false := by simp
            have t6 : ((k : Int) != (k : Int)) = false := by simp
            go_wp2_with fail
            have hlen6 := H6.out.len
            have hl20 := HS.out.1
            refine (c_open_good (M := none) (size := 100) HW.out.1.d nm_dW (by decide) H6.out.run.rise H6.out.run.good (by omega) (by decide) (by decide) (by omega)).mono ?_
            rintro e w7 ⟨F7, lb7, mp7, G7, rfl, h7, _⟩
            have H7 := Lib.hid h7
            clear h7 hlen6 hl20
            go_wp2_with fail
            refine (c_records H7.out (by rw [flat_m (S := S) rfl, H6.out.all]; have := HS.out.1; omega) 0 (l := l) (by rw [records_all H6.out.run.rise (S := S) rfl, H6.out.all]) (n := len) HLN.out).mono ?_
            rintro e w8 ⟨a8, c8, rfl, hrd, hb8⟩
            have H8 := Lib.hid (And.intro (H7.out.stay hb8) hrd)
            clear hb8 hrd
            have hrl : RdT w8 (.slice a len cap) l := (HL.out.rd (cap := cap)).below (by rw [hmb]; exact H8.out.1.d.b)
            have HR := Lib.hid hrl
            clear hrl
            go_wp2_with fail
            refine (same_Texts H8.out.2.rd HR.out (by have := HS.out.1; omega)).mono ?_
            rintro e w9 ⟨rfl, a9, rfl⟩
            have H9 := Lib.hid (H8.out.1.stay (below_drewN (Below.refl _ _) a9))
            go_wp2_with fail
            refine (cl_last H9.out (v := last) (by rw [last_m (S := S) rfl, ← H6.out.run.last]; exact HS.out.2)).mono ?_
            rintro e w10 ⟨rfl, hb10⟩
            have H10 := Lib.hid (H9.out.stay hb10)
            clear hb10
            go_wp2_with fail
            refine (cl_acts H10.out.d.d (n := (k : Int)) rfl).mono ?_
            rintro e v ⟨rfl, rfl⟩
            go_wp2
            go_roundw
            case rel => exact ⟨j + 1, by go_num, by omega, F7, G7, lb7, mp7, _, rfl, H10.out, fun _ => rfl⟩
            case measure => simp [intOf]; omega
          · have hj1 : 0 < j := by omega
            have hLj := HW.out.2 hj1
            subst hLj
            have hl0 : last = (lastN S : Int) := by rw [← HS.out.2]; exact H6.out.run.last
            have hl1 := H6.out.last
            have hl2 := HS.out.1
            have b1 : 0 ≤ last := by omega
            have b2 : last ≤ 20 := by omega
            have HQ := Lib.hid (And.intro hl0 (And.intro hl1 hl2))
            clear hl0 hl1 hl2
            go_wp2_with fail
            refine (alive_any _).mono ?_
            rintro e w11 ⟨rfl, hb11⟩
            have H11 := Lib.hid (HW.out.1.stay hb11)
            clear hb11
            go_wp2_with fail
            refine (c_appnew H11.out nm_dW (by decide) H6.out.run.rise tX1 (by decide) (by have := HQ.out.2.2; omega) (by have := H6.out.len; have := HQ.out.2.2; omega) (by have := HQ.out.2.1; have := HQ.out.2.2; omega)).mono ?_
            rintro e w12 ⟨rfl, F12, G12, L12, D12, h12, hm12⟩
            have H12 := Lib.hid (And.intro h12 hm12)
            clear h12 hm12
            go_wp2_with fail
            refine (cl_last H12.out.1 (v := last + 1) (by rw [last_m H12.out.2, lastN_snoc, HQ.out.1]; omega)).mono ?_
            rintro e w13 ⟨rfl, hb13⟩
            have H13 := Lib.hid (H12.out.1.stay hb13)
            clear hb13
            go_wp2_with fail
            refine (c_records H13.out (by rw [flat_m H12.out.2, allR_app, H6.out.all, allR_one, (Good.one (r := tX1) (by decide)).2, List.length_append]; have := HQ.out.2.2; simp; omega) (last + 1) (l := [tX1]) (by rw [HQ.out.1]; exact records_new H6.out.run.rise (by decide) rfl H12.out.2) (n := 1) rfl).mono ?_
            rintro e w14 ⟨a14, c14, rfl, _, hb14⟩
            have H14 := Lib.hid (H13.out.stay hb14)
            clear hb14
            go_wp2
            go_ret
            exact ⟨rfl, by rw [hmb]; exact H14.out.d.b⟩
end Go.Proofs.YtlheihhhfajpkaaGreatDoor
