/-
  WalSizes: its walk.
-/
import Derived.Test.YtlheihhhfajpkaaGreatDoorWlMM
set_option linter.unusedSimpArgs false
set_option linter.unusedVariables false
namespace Go.Proofs.YtlheihhhfajpkaaGreatDoor
open Go.RowKit

set_option maxRecDepth 100000 in
set_option maxHeartbeats 4000000 in
theorem sizes_walk (a : Option Addr) (len cap : Nat) (l : List ByteArray) (size : Int) {W : World} (hl : StrsAt W a len l) (hlen : len ≤ maxLen) (_ : (Lit.int IntKind.i64 size).wf = true) (w : World) (hW : W = w) :
    Calls Tryz.prog 3 #[.slice a len cap, .int .i64 size] w fun e w' => e = .returned (.bool true) ∧ Below w.heap.size w w' := by
  subst hW
  unfold maxLen at hlen
  by_cases hout : 40 < len ∨ size < 1 ∨ 524288 < size
  · rcases (by omega : (40 < len) ∨ (¬ 40 < len ∧ size < 1) ∨ (¬ 40 < len ∧ ¬ size < 1 ∧ 524288 < size)) with h0 | ⟨h0, h1⟩ | ⟨h0, h1, h2⟩
    · have t0 : (40 : Int) < (len : Int) := by omega
      clear hout h0
      go_enter Tryz.func3, Tryz.ntmps3
      go_wp2_with (go_at_call 10; refine (alive_any _).mono ?_; rintro e v1 ⟨rfl, b2⟩)
      go_ret
      exact ⟨rfl, b2⟩
    · have t0 : ¬ (40 : Int) < (len : Int) := by omega
      have t1 : size < 1 := by omega
      clear hout h0 h1
      go_enter Tryz.func3, Tryz.ntmps3
      go_wp2_with (go_at_call 10; refine (alive_any _).mono ?_; rintro e v1 ⟨rfl, b2⟩)
      go_ret
      exact ⟨rfl, b2⟩
    · have t0 : ¬ (40 : Int) < (len : Int) := by omega
      have t1 : ¬ size < 1 := by omega
      have t2 : 524288 < size := by omega
      clear hout h0 h1 h2
      go_enter Tryz.func3, Tryz.ntmps3
      go_wp2_with (go_at_call 10; refine (alive_any _).mono ?_; rintro e v1 ⟨rfl, b2⟩)
      go_ret
      exact ⟨rfl, b2⟩
  · have t0 : ¬ (40 : Int) < (len : Int) := by omega
    have t1 : ¬ size < 1 := by omega
    have t2 : ¬ 524288 < size := by omega
    have h20 : len ≤ 40 := by omega
    have hsz1 : 1 ≤ size := by omega
    have hsz2 : size ≤ 524288 := by omega
    clear hout
    have hln := hl.1
    have HL := Lib.hid hl
    have HLN := Lib.hid hln
    clear hl hln
    go_enter Tryz.func3, Tryz.ntmps3
    go_wp2_with (go_at_call 11; refine (c_newd (w0 := W) (Below.refl _ _)).mono ?_; rintro e w1 ⟨rfl, h1, _⟩; have H1 := Lib.hid h1; clear h1)
    refine (c_openw (size := size) H1.out hsz1 hsz2).mono ?_
    rintro e w2 ⟨F2, lb, mp, G2, rfl, h2⟩
    have H2 := Lib.hid h2
    clear h2
    obtain ⟨db, hdb⟩ : ∃ db, W.heap.size + 1 = db := ⟨_, rfl⟩
    obtain ⟨mb, hmb⟩ : ∃ mb, W.heap.size = mb := ⟨_, rfl⟩
    rw [hdb] at H2 ⊢
    have H3 : Hid (Lp mb W w2 F2 G2 db mb lb mp size [] 0 (opened dW size []) []) := by unfold Hid; rw [← hmb]; have := H2.out; rw [hmb] at this ⊢; exact this
    clear H2 H1
    go_wp2
    go_loopw [8, 9, 10] (fun v8 v9 y wr => ∃ i : Nat, i ≤ len ∧ y = .int .i64 (i : Int) ∧ ∃ F G S k L, Lp mb W wr F G db mb lb mp size S k L (l.take i) ∧ (∀ r ∈ l.take i, r.size ≤ 1000) ∧ Cons S ∧ SzOk size S ∧ v8 = .int .i64 (lastN S : Int) ∧ v9 = .int .i64 (total (l.take i) : Int)) (fun _ _ y _ => len - (intOf y).toNat)
    case atStart => exact ⟨0, by omega, rfl, F2, G2, [], 0, opened dW size [], H3.out, fun r hr => by simp at hr, Cons.nil, fun p hp => by simp at hp, rfl, rfl⟩
    case round =>
      obtain ⟨i, hi, rfl, F, G, S, k, L, hp, hsm, hc, hz, rfl, rfl⟩ := hrel
      have HP := Lib.hid (And.intro hp (And.intro hsm (And.intro hc hz)))
      clear hp hsm hc hz
      by_cases hlt : i < len
      · have hil : i < l.length := by rw [HLN.out]; exact hlt
        obtain ⟨b, off, rfl, hbl, hcs⟩ := HL.out.2.1.resolve_left (by omega)
        have d0 := hcs i hil
        have d1 := (HP.out.1.ws.d.b.cell (p := ⟨b, off + i, none⟩) (by rw [← hmb]; exact hbl)).trans d0
        have htk : l.take (i + 1) = l.take i ++ [l[i]] := List.take_succ_eq_append_getElem hil
        obtain ⟨s, hs⟩ : ∃ s, l[i] = s := ⟨_, rfl⟩
        rw [hs] at d0 d1 htk
        have HD0 := Lib.hid (And.intro d0 hbl)
        have HT := Lib.hid htk
        have r1 : (i : Int) < (len : Int) := by omega
        have hlt2 : (l.take i).length ≤ 40 := by rw [List.length_take]; omega
        have htt := total_le HP.out.2.1
        have hlst := HP.out.1.last
        obtain ⟨v, hv⟩ : ∃ v : Int, (lastN S : Int) = v := ⟨_, rfl⟩
        obtain ⟨tn, htn⟩ : ∃ tn : Int, (total (l.take i) : Int) = tn := ⟨_, rfl⟩
        have b1 : 0 ≤ v := by omega
        have b2 : v ≤ 40 := by omega
        have b3 : 0 ≤ tn := by omega
        have b4 : tn ≤ 50000 := by
          have h1 : (8 + 1000) * (l.take i).length ≤ 1008 * 40 := Nat.mul_le_mul_left _ hlt2
          omega
        have HV := Lib.hid (And.intro hv (And.intro htn (And.intro hlt2 htt)))
        rw [hv, htn]
        clear hcs d0 htk hs hbl hlt2 htt hlst hv htn
        by_cases hbig : 1000 < s.size
        · have r2 : (1000 : Int) < (s.size : Int) := by omega
          clear hbig
          go_wp2_with (go_at_call 10; refine (alive_any _).mono ?_; rintro e v1 ⟨rfl, b2⟩)
          go_ret
          exact ⟨rfl, by rw [hmb]; exact HP.out.1.ws.d.b.trans (b2.mono HP.out.1.ws.d.hz)⟩
        · have r2 : ¬ (1000 : Int) < (s.size : Int) := by omega
          have hs300 : s.size ≤ 1000 := by omega
          clear hbig
          go_wp2_with fail
          refine (c_app HP.out.1 hsz2 s (by omega) (by have := HV.out.2.2.1; omega) (by have := HV.out.2.2.2; have := HV.out.2.2.1; omega)).mono ?_
          rintro e w4 ⟨rfl, F', G', S', k', L', hp', happ, _⟩
          have hfa := app_facts HP.out.1.run happ (by omega)
          obtain ⟨v', hv'⟩ : ∃ v' : Int, (lastN S' : Int) = v' := ⟨_, rfl⟩
          have hv0 := HV.out.1
          have t5 : ¬ v' < v := by omega
          have t6 : ¬ v + 1 < v' := by omega
          have hlast' : L'.last = v' := by rw [← hv']; exact hp'.run.last
          have H4 := Lib.hid (And.intro hp' (And.intro (HP.out.2.2.1.step happ) (And.intro (HP.out.2.2.2.step HP.out.1.run happ (by omega)) (And.intro hlast' hv'))))
          clear hp' happ hfa hv0 hlast' hv'
          go_wp2_with fail
          refine (cl_last H4.out.1.ws H4.out.2.2.2.1).mono ?_
          rintro e w5 ⟨rfl, hb5⟩
          have H5 := Lib.hid (H4.out.1.stay hb5)
          clear hb5
          go_wp2_with fail
          refine (cl_last H5.out.ws H4.out.2.2.2.1).mono ?_
          rintro e w6 ⟨rfl, hb6⟩
          have H6 := Lib.hid (H5.out.stay hb6)
          clear hb6
          go_wp2_with fail
          refine (cl_last H6.out.ws H4.out.2.2.2.1).mono ?_
          rintro e w7 ⟨rfl, hb7⟩
          have H7 := Lib.hid (H6.out.stay hb7)
          have d7 := (H7.out.ws.d.b.cell (p := ⟨b, off + i, none⟩) (by rw [← hmb]; exact HD0.out.2)).trans HD0.out.1
          clear hb7
          go_wp2
          go_roundw
          case rel => exact ⟨i + 1, by omega, by go_num, F', G', S', k', L', by rw [HT.out]; exact H7.out, (fun r hr => by
            rw [HT.out] at hr
            rcases List.mem_append.1 hr with hr | hr
            · exact HP.out.2.1 r hr
            · rw [List.mem_singleton] at hr; rw [hr]; exact hs300), H4.out.2.1, H4.out.2.2.1, by rw [H4.out.2.2.2.2], by rw [HT.out, total_app, total_one, ← HV.out.2.1]; go_num⟩
          case measure => simp [intOf]; omega
      · obtain rfl : len = i := by omega
        have HP2 : Hid (Lp mb W wr F G db mb lb mp size S k L l ∧ l.length ≤ 40 ∧ Cons S ∧ SzOk size S) := by
          unfold Hid
          have h9 := HP.out.1
          rw [← HLN.out, List.take_length] at h9
          exact ⟨h9, by rw [HLN.out]; exact h20, HP.out.2.2⟩
        have HSM : Hid (∀ r ∈ l, r.size ≤ 1000) := by
          unfold Hid
          have h9 := HP.out.2.1
          rw [← HLN.out, List.take_length] at h9
          exact h9
        have htot : total (l.take len) = total l := by rw [← HLN.out, List.take_length]
        rw [htot]
        clear HP htot

        have hcl := HP2.out.2.2.1.last
        have hl1 := HP2.out.1.last
        have hl2 := HP2.out.2.1
        have hl4 := HP2.out.1.len
        obtain ⟨m, hm⟩ : ∃ m, S.length = m := ⟨_, rfl⟩
        rw [hm] at hcl hl4
        rw [hcl]
        have hm40 : m ≤ 40 := by omega
        have htt := total_le HSM.out
        obtain ⟨tn, htn⟩ : ∃ tn : Int, (total l : Int) = tn := ⟨_, rfl⟩
        rw [htn]
        have hus : (used (dmap dW S none) : Int) = tn := by rw [used_dmap, HP2.out.1.used]; exact htn
        have HM := Lib.hid (And.intro hm (And.intro hcl (And.intro hl1 (And.intro hl2 hl4))))
        have HU := Lib.hid hus
        clear hcl hl1 hl2 hl4 htt htn hus hm
        have hli := list_any HP2.out.1.ws.d.d rfl (⟨#[119, 47]⟩ : ByteArray)
        have hld : (dkF (dmap dW S none) (-1) none k).list (⟨#[119, 47]⟩ : ByteArray) = S.map (fun p => segN dW p.1) := list_dir (dir := dW) HP2.out.1.run.rise
        rw [hld] at hli
        have HLI := Lib.hid hli
        clear hli hld
        go_wp2_with fail
        refine HLI.out.mono ?_
        rintro e w6 ⟨⟨nv, rfl, hown⟩, hb6⟩
        obtain ⟨na, nc, rfl, _, _⟩ := row_form hown
        have hnl : (S.map (fun p => segN dW p.1)).length = m := by rw [List.length_map]; exact HM.out.1
        rw [hnl] at hown ⊢
        have hown2 : Own eStr w6 wr.heap.size (.slice na m nc) (S.map (fun p => segN dW p.1)) := hown
        have H6 := Lib.hid (And.intro (HP2.out.1.stay hb6) hown2)
        clear hown hown2 hnl hb6 HLI
        go_wp2
        go_loopw [12, 13, 14] (fun y _ _ wq => ∃ j : Nat, j ≤ m ∧ y = .int .i64 (j : Int) ∧ Below w6.heap.size w6 wq) (fun y _ _ _ => m - (intOf y).toNat)
        case atStart => exact ⟨0, by omega, rfl, Below.refl _ _⟩
        case round =>
          obtain ⟨j, hj, rfl, hbq⟩ := hrel
          have HQ := Lib.hid (And.intro (H6.out.1.stay hbq) hbq)
          clear hbq
          by_cases hjm : j < m
          · have hj1 : j < S.length := by rw [HM.out.1]; exact hjm
            have hjk : j < (S.map (fun p => segN dW p.1)).length := by rw [List.length_map]; exact hj1
            obtain ⟨g, rfl, hgb, hgl, d0⟩ := H6.out.2.getT hjk
            rw [List.getElem_map] at d0
            have d1 := (HQ.out.2.cell (p := ⟨g, j, none⟩) hgl).trans d0
            have hmem : S[j] ∈ S := List.getElem_mem hj1
            have hsd : SegD (dkF (dmap dW S none) (-1) none k) dW S := segD_of nm_dW (by decide) HP2.out.1.run.rise (by have := HM.out; omega)
            have hrd := hsd.read rfl _ hmem
            have hszo := HP2.out.2.2.2 _ hmem
            have hr1 := records_drop HP2.out.2.2.1 HP2.out.1.run.m j
            have hr2 := records_drop HP2.out.2.2.1 HP2.out.1.run.m (j + 1)
            have e2 : (((j + 1 : Nat) : Int) + 1) = (j : Int) + 2 := by omega
            rw [e2] at hr2
            have hdr := allR_drop hj1
            have hle1 : (allR (S.drop j)).length ≤ 40 := by
              have h1 : (allR (S.drop j)).length ≤ (allR S).length := flatMap_sub (List.drop_sublist j S)
              rw [HP2.out.1.all] at h1
              have := HM.out.2.2.2.1
              omega
            obtain ⟨p, hp⟩ : ∃ p, S[j] = p := ⟨_, rfl⟩
            rw [hp] at d1 hrd hszo hdr
            obtain ⟨nk, f⟩ := p
            simp only at d1 hrd hszo hdr
            have hsl : (segN dW nk).size ≤ 140737488351232 := segZ_size (L := ⟨dW, 0, [], 0, 0, false, ByteArray.empty⟩) (by decide) (nk : Int)
            have hra := read_any HQ.out.1.ws.d.d rfl (segN dW nk) hsl
            rw [hrd] at hra
            obtain ⟨sg, hsg⟩ : ∃ sg, segN dW nk = sg := ⟨_, rfl⟩
            obtain ⟨b, hb⟩ : ∃ b, f.data = b := ⟨_, rfl⟩
            rw [hsg, hb] at hra
            rw [hsg] at d1
            rw [hb] at hszo hdr
            obtain ⟨n1, hn1⟩ : ∃ n1, (allR (S.drop j)).length = n1 := ⟨_, rfl⟩
            obtain ⟨n2, hn2⟩ : ∃ n2, (allR (S.drop (j + 1))).length = n2 := ⟨_, rfl⟩
            have hnn : n1 = (recsOf b).length + n2 := by rw [← hn1, hdr, List.length_append, hn2]
            have hsz3 : (size < (b.size : Int)) → (n1 : Int) - (n2 : Int) = 1 := by
              intro h
              rcases hszo with h1 | h1
              · omega
              · omega
            have r1 : (j : Int) < (m : Int) := by omega
            have hb1 : n1 ≤ 40 := by omega
            have hb2 : n2 ≤ 40 := by omega
            have HR := Lib.hid (And.intro hra (And.intro hr1 (And.intro hr2 (And.intro hn1 hn2))))
            clear hra hr1 hr2 hn1 hn2 hnn hszo hdr hrd hsd hmem hp hsg hb d0 hsl e2 hle1
            go_wp2_with fail
            refine HR.out.1.mono ?_
            rintro e w8 ⟨rfl, hb8⟩
            have H8 := Lib.hid (And.intro (HQ.out.1.stay hb8) hb8)
            clear hb8
            by_cases hbs : size < (b.size : Int)
            · have t5 : ((n1 : Int) - (n2 : Int) != 1) = false := by rw [hsz3 hbs]; rfl
              clear hsz3
              go_wp2_with fail
              refine (c_records H8.out.1.ws (by rw [H8.out.1.flat]; have := HM.out.2.2.2.1; omega) ((j : Int) + 1) HR.out.2.1 (n := n1) HR.out.2.2.2.1).mono ?_
              rintro e w9 ⟨a9, c9, rfl, _, hb9⟩
              have H9 := Lib.hid (And.intro (H8.out.1.stay hb9) hb9)
              clear hb9
              go_wp2_with fail
              refine (c_records H9.out.1.ws (by rw [H9.out.1.flat]; have := HM.out.2.2.2.1; omega) ((j : Int) + 2) HR.out.2.2.1 (n := n2) HR.out.2.2.2.2).mono ?_
              rintro e w10 ⟨a10, c10, rfl, _, hb10⟩
              have H10 := Lib.hid hb10
              clear hb10
              go_wp2
              go_roundw
              case rel => exact ⟨j + 1, by omega, by go_num, HQ.out.2.trans ((H8.out.2.trans ((H9.out.2.trans (H10.out.mono H9.out.2.size)).mono H8.out.2.size)).mono HQ.out.2.size)⟩
              case measure => simp [intOf]; omega
            · clear hsz3
              go_wp2
              go_roundw
              case rel => exact ⟨j + 1, by omega, by go_num, HQ.out.2.trans (H8.out.2.mono HQ.out.2.size)⟩
              case measure => simp [intOf]; omega
          · obtain rfl : m = j := by omega
            have t5 : ((m : Int) == (m : Int)) = true := by simp
            have t6 : (tn == tn) = true := by simp
            go_wp2_with fail
            refine (alive_any _).mono ?_
            rintro e w11 ⟨rfl, hb11⟩
            have H11 := Lib.hid (HQ.out.1.stay hb11)
            clear hb11
            go_wp2_with fail
            refine (cl_used H11.out.ws.d.d (n := tn) HU.out).mono ?_
            rintro e w12 ⟨rfl, hb12⟩
            have H12 := Lib.hid (H11.out.stay hb12)
            clear hb12
            go_wp2_with fail
            refine (c_records H12.out.ws (by rw [H12.out.flat]; have := HM.out.2.2.2.1; omega) 0 (l := l) (by rw [records_all H12.out.run.rise H12.out.run.m, H12.out.all]) (n := len) HLN.out).mono ?_
            rintro e w13 ⟨a13, c13, rfl, hrd13, hb13⟩
            have H13 := Lib.hid (And.intro (H12.out.stay hb13) hrd13)
            clear hrd13 hb13
            have hrl : RdT w13 (.slice a len cap) l := (HL.out.rd (cap := cap)).below (by rw [hmb]; exact H13.out.1.ws.d.b)
            have HRL := Lib.hid hrl
            clear hrl
            go_wp2_with fail
            refine (same_Texts H13.out.2.rd HRL.out (by have := HM.out.2.2.2.1; omega)).mono ?_
            rintro e w14 ⟨rfl, x14, rfl⟩
            go_wp2
            go_ret
            exact ⟨rfl, by rw [hmb]; exact below_drewN H13.out.1.ws.d.b x14⟩
end Go.Proofs.YtlheihhhfajpkaaGreatDoor
