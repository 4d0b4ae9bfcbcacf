/-
  WalCorrupt: its walk.
-/
import Derived.Test.YtlheihhhfajpkaaGreatDoorWlOO
set_option linter.unusedSimpArgs false
set_option linter.unusedVariables false
namespace Go.Proofs.YtlheihhhfajpkaaGreatDoor
open Go.RowKit

set_option maxRecDepth 100000 in
set_option maxHeartbeats 4000000 in
theorem corrupt_walk (a : Option Addr) (len cap : Nat) (l : List ByteArray) (at_ by_ : Int) {W : World} (hl : StrsAt W a len l) (hlen : len ≤ maxLen) (_ : (Lit.int IntKind.i64 at_).wf = true) (_ : (Lit.int IntKind.i64 by_).wf = true) (w : World) (hW : W = w) :
    Calls Tryz.prog 4 #[.slice a len cap, .int .i64 at_, .int .i64 by_] w fun e w' => e = .returned (.bool true) ∧ Below w.heap.size w w' := by
  subst hW
  unfold maxLen at hlen
  by_cases hout : len < 2 ∨ 20 < len ∨ by_ % 256 = 0
  · rcases (by omega : (len < 2) ∨ (¬ len < 2 ∧ 20 < len) ∨ (¬ len < 2 ∧ ¬ 20 < len ∧ by_ % 256 = 0)) with h0 | ⟨h0, h1⟩ | ⟨h0, h1, h2⟩
    · have t0 : (len : Int) < 2 := by omega
      clear hout h0
      go_enter Tryz.func4, Tryz.ntmps4
      go_wp2_with (go_at_call 10; refine (alive_any _).mono ?_; rintro e v1 ⟨rfl, b2⟩)
      go_ret
      exact ⟨rfl, b2⟩
    · have t0 : ¬ (len : Int) < 2 := by omega
      have t1 : (20 : Int) < (len : Int) := by omega
      clear hout h0 h1
      go_enter Tryz.func4, Tryz.ntmps4
      go_wp2_with (go_at_call 10; refine (alive_any _).mono ?_; rintro e v1 ⟨rfl, b2⟩)
      go_ret
      exact ⟨rfl, b2⟩
    · have t0 : ¬ (len : Int) < 2 := by omega
      have t1 : ¬ (20 : Int) < (len : Int) := by omega
      have t2 : by_ % 256 = 0 := by omega
      clear hout h0 h1 h2
      go_enter Tryz.func4, Tryz.ntmps4
      go_wp2_with (go_at_call 10; refine (alive_any _).mono ?_; rintro e v1 ⟨rfl, b2⟩)
      go_ret
      exact ⟨rfl, b2⟩
  · have t0 : ¬ (len : Int) < 2 := by omega
    have t1 : ¬ (20 : Int) < (len : Int) := by omega
    have t2 : ¬ by_ % 256 = 0 := by omega
    have h20 : len ≤ 20 := by omega
    clear hout
    have hln := hl.1
    have HL := Lib.hid hl
    have HLN := Lib.hid hln
    clear hl hln
    go_enter Tryz.func4, Tryz.ntmps4
    go_wp2_with (go_at_call 11; refine (c_newd (w0 := W) (Below.refl _ _)).mono ?_; rintro e w1 ⟨rfl, h1, _⟩; have H1 := Lib.hid h1; clear h1)
    refine (c_openw (size := 1) H1.out (by decide) (by decide)).mono ?_
    rintro e w2 ⟨F2, lb, mp, G2, rfl, h2⟩
    have H2 := Lib.hid h2
    clear h2
    obtain ⟨db, hdb⟩ : ∃ db, W.heap.size + 1 = db := ⟨_, rfl⟩
    obtain ⟨mb, hmb⟩ : ∃ mb, W.heap.size = mb := ⟨_, rfl⟩
    rw [hdb] at H2 ⊢
    have H3 : Hid (Lp mb W w2 F2 G2 db mb lb mp 1 [] 0 (opened dW 1 []) []) := by unfold Hid; rw [← hmb]; have := H2.out; rw [hmb] at this ⊢; exact this
    clear H2 H1
    go_wp2
    go_loopw [10] (fun y wr => ∃ i : Nat, i ≤ len ∧ y = .int .i64 (i : Int) ∧ ∃ F G S k L, Lp mb W wr F G db mb lb mp 1 S k L (l.take i) ∧ (∀ r ∈ l.take i, r.size ≤ 500) ∧ OneS S (l.take i) ∧ Cons S) (fun y _ => len - (intOf y).toNat)
    case atStart => exact ⟨0, by omega, rfl, F2, G2, [], 0, opened dW 1 [], H3.out, fun r hr => by simp at hr, ⟨rfl, Cons.nil⟩⟩
    case round =>
      obtain ⟨i, hi, rfl, F, G, S, k, L, hp, hsm, hx⟩ := hrel
      have HP := Lib.hid (And.intro hp (And.intro hsm hx))
      clear hp hsm hx
      by_cases hlt : i < len
      · have hil : i < l.length := by rw [HLN.out]; exact hlt
        obtain ⟨b, off, rfl, hbl, hcs⟩ := HL.out.2.1.resolve_left (by omega)
        have d0 := hcs i hil
        have d1 := (HP.out.1.ws.d.b.cell (p := ⟨b, off + i, none⟩) (by rw [← hmb]; exact hbl)).trans d0
        have htk : l.take (i + 1) = l.take i ++ [l[i]] := List.take_succ_eq_append_getElem hil
        obtain ⟨s, hs⟩ : ∃ s, l[i] = s := ⟨_, rfl⟩
        rw [hs] at d1 htk
        have HT := Lib.hid htk
        have r1 : (i : Int) < (len : Int) := by omega
        clear hcs d0 htk hs hbl
        by_cases hbig : 500 < s.size
        · have r2 : (500 : Int) < (s.size : Int) := by omega
          clear hbig
          go_wp2_with (go_at_call 10; refine (alive_any _).mono ?_; rintro e v1 ⟨rfl, b2⟩)
          go_ret
          exact ⟨rfl, by rw [hmb]; exact HP.out.1.ws.d.b.trans (b2.mono HP.out.1.ws.d.hz)⟩
        · have r2 : ¬ (500 : Int) < (s.size : Int) := by omega
          have hs300 : s.size ≤ 500 := by omega
          clear hbig
          go_wp2_with fail
          have hlt2 : (l.take i).length ≤ 20 := by rw [List.length_take]; omega
          have htt := total_le HP.out.2.1
          refine (c_app HP.out.1 (by decide) s (by omega) (by omega) (by omega)).mono ?_
          rintro e w4 ⟨rfl, F', G', S', k', L', hp', happ, _⟩
          have H4 := Lib.hid (And.intro hp' happ)
          clear hp' happ htt hlt2
          go_wp2
          go_roundw
          case rel => exact ⟨i + 1, by omega, by go_num, F', G', S', k', L', by rw [HT.out]; exact H4.out.1, fun r hr => by
            rw [HT.out] at hr
            rcases List.mem_append.1 hr with hr | hr
            · exact HP.out.2.1 r hr
            · rw [List.mem_singleton] at hr; rw [hr]; exact hs300, ⟨by rw [HT.out]; exact HP.out.2.2.1.step H4.out.2, HP.out.2.2.2.step H4.out.2⟩⟩
          case measure => simp [intOf]; omega
      · obtain rfl : len = i := by omega
        have HP2 : Hid (Lp mb W wr F G db mb lb mp 1 S k L l ∧ l.length ≤ 20 ∧ OneS S l ∧ Cons S) := by
          unfold Hid
          have h9 := HP.out.1
          rw [← HLN.out, List.take_length] at h9
          exact ⟨h9, by rw [HLN.out]; exact h20, by have h8 := HP.out.2.2; (try rw [← HLN.out, List.take_length] at h8); exact h8⟩
        have HSM : Hid (∀ r ∈ l, r.size ≤ 500) := by
          unfold Hid
          have h9 := HP.out.2.1
          rw [← HLN.out, List.take_length] at h9
          exact h9
        clear HP
        have hlm : S.length = len := by rw [HP2.out.2.2.1.len]; exact HLN.out
        have hli := list_any HP2.out.1.ws.d.d rfl (⟨#[119, 47, 119]⟩ : ByteArray)
        have hld : (dkF (dmap dW S none) (-1) none k).list (⟨#[119, 47, 119]⟩ : ByteArray) = S.map (fun p => segN dW p.1) := list_segs (dir := dW) HP2.out.1.run.rise
        rw [hld] at hli
        have HLI := Lib.hid hli
        have HLM := Lib.hid hlm
        have HB := Lib.hid (And.intro HP2.out.1.acts HP2.out.2.1)
        clear hli hld hlm
        have t5 : ((len : Int) != (len : Int)) = false := by simp
        go_wp2_with fail
        refine HLI.out.mono ?_
        rintro e w6 ⟨⟨nv, rfl, hown⟩, hb6⟩
        obtain ⟨na, nc, rfl, _, _⟩ := row_form hown
        have hnl : (S.map (fun p => segN dW p.1)).length = len := by rw [List.length_map]; exact HLM.out
        rw [hnl] at hown ⊢
        have hown2 : Own eStr w6 wr.heap.size (.slice na len nc) (S.map (fun p => segN dW p.1)) := hown
        have H6 := Lib.hid (And.intro (HP2.out.1.stay hb6) (OwnX.of hown2 HP2.out.1.ws.d.d.lt))
        clear hown hown2 hnl hb6 HLI
        go_wp2_with fail
        refine (c_sync_run H6.out.1.ws nm_dW (by decide) H6.out.1.run (by have := HB.out; omega)).mono ?_
        rintro e w7 ⟨rfl, S7, k7, h7, s7, hk7, hr7, _, hl7, _, _, _, hd7⟩
        have H7 := Lib.hid (And.intro h7 (And.intro (H6.out.2.go s7) (And.intro hr7 (And.intro hd7 (And.intro hk7 hl7)))))
        clear h7 s7 hk7 hr7 hl7 hd7
        obtain ⟨q1, hq1, hq2⟩ := and_mask at_
        have r1 : (2 : Int) ≤ (len : Int) := by omega
        obtain ⟨kk, hkk, hkl⟩ : ∃ kk : Nat, (q1 : Int) % ((len : Int) - 1) = (kk : Int) ∧ kk + 1 < len := by
          refine ⟨q1 % (len - 1), ?_, ?_⟩
          · have e : ((len : Int) - 1) = ((len - 1 : Nat) : Int) := by omega
            rw [e]
            exact (Int.natCast_emod _ _).symm
          · have := Nat.mod_lt q1 (show 0 < len - 1 by omega)
            omega
        have hil : kk < l.length := by rw [HLN.out]; omega
        obtain ⟨b, off, rfl, hbl, hcs⟩ := HL.out.2.1.resolve_left (by omega)
        have d0 := hcs kk hil
        have d1 := (H7.out.1.d.b.cell (p := ⟨b, off + kk, none⟩) (by rw [← hmb]; exact hbl)).trans d0
        obtain ⟨s, hs⟩ : ∃ s, l[kk] = s := ⟨_, rfl⟩
        rw [hs] at d0 d1
        have r2 : (kk : Int) < (len : Int) := by omega
        have HD0 := Lib.hid (And.intro d0 (And.intro hbl hs))
        clear hcs d0 hbl hs
        by_cases h0 : s.size = 0
        · have t6 : ((s.size : Int) == 0) = true := by rw [h0]; rfl
          go_wp2_with fail
          refine (alive_any _).mono ?_
          rintro e w8 ⟨rfl, hb8⟩
          go_wp2
          go_ret
          exact ⟨rfl, by rw [hmb]; exact H7.out.1.d.b.trans (hb8.mono H7.out.1.d.hz)⟩
        · have t6 : ((s.size : Int) == 0) = false := beq_eq_false_iff_ne.2 (by omega)
          have hjS : kk < S.length := by rw [HLM.out]; omega
          have hjk : kk < (S.map (fun p => segN dW p.1)).length := by rw [List.length_map]; exact hjS
          obtain ⟨g, rfl, _, hgl, dn⟩ := H7.out.2.1.1.getT hjk
          rw [List.getElem_map, HP2.out.2.2.2.at_ hjS] at dn
          have hj7 : kk < S7.length := by rw [H7.out.2.2.2.2.2]; exact hjS
          have he7 : S7[kk].1 = kk + 1 ∧ S7[kk].2.data = framed s := by
            have h1 : (S7.map (fun p => (p.1, p.2.data)))[kk]? = (S.map (fun p => (p.1, p.2.data)))[kk]? := by rw [H7.out.2.2.2.1]
            rw [List.getElem?_map, List.getElem?_map, List.getElem?_eq_getElem hj7, List.getElem?_eq_getElem hjS] at h1
            have h2 := Option.some.inj h1
            injection h2 with h3 h4
            rw [h3, h4, HP2.out.2.2.2.at_ hjS, HP2.out.2.2.1.at_ hjS hil, HD0.out.2.2]
            exact ⟨rfl, rfl⟩
          obtain ⟨f, hf7, hfd⟩ : ∃ f, S7[kk] = (kk + 1, f) ∧ f.data = framed s := ⟨S7[kk].2, by rw [← he7.1], he7.2⟩
          have hsp : S7 = S7.take kk ++ (kk + 1, f) :: S7.drop (kk + 1) := by rw [← hf7]; simp
          obtain ⟨A, hA⟩ : ∃ A, S7.take kk = A := ⟨_, rfl⟩
          obtain ⟨X, hX⟩ : ∃ X, S7.drop (kk + 1) = X := ⟨_, rfl⟩
          have hX0 : X ≠ [] := by
            intro e
            have h1 := congrArg List.length hX
            rw [e, List.length_drop, List.length_nil, H7.out.2.2.2.2.2, HLM.out] at h1
            omega
          rw [hA, hX] at hsp
          have hr7 := H7.out.2.2.1.rise
          have hl7 : S7.length ≤ 20 := by rw [H7.out.2.2.2.2.2, HLM.out]; omega
          rw [hsp] at hr7 hl7
          have hd7 := H7.out.1.d
          rw [hsp] at hd7
          have hsl : (segN dW (kk + 1)).size ≤ 140737488351232 := segZ_size (L := ⟨dW, 0, [], 0, 0, false, ByteArray.empty⟩) (by decide) ((kk + 1 : Nat) : Int)
          have hra := read_any hd7.d rfl (segN dW (kk + 1)) hsl
          rw [dk_read (segN_nm nm_dW (by decide) _) (dmap_get hr7), hfd] at hra
          have hfs := framed_size s
          obtain ⟨fb, hfb⟩ : ∃ fb, framed s = fb := ⟨_, rfl⟩
          obtain ⟨sg, hsg⟩ : ∃ sg, segN dW (kk + 1) = sg := ⟨_, rfl⟩
          rw [hfb, hsg] at hra
          rw [hsg] at dn hsl
          rw [hfb] at hfs
          have HR := Lib.hid (And.intro hra (And.intro hfb (And.intro hsg (And.intro hr7 (And.intro hl7 (And.intro hd7 (And.intro hX0 hfd)))))))
          clear hra hfb hsg hr7 hl7 hd7 hX0 hfd hsp hA hX hf7 he7 hjS hjk hj7
          go_wp2_with fail
          refine HR.out.1.mono ?_
          rintro e w8 ⟨rfl, hb8⟩
          have d8 := (hb8.cell (p := ⟨b, off + kk, none⟩) (World.block_lt_of_cell? _ _ d1)).trans d1
          have n8 := (hb8.cell (p := ⟨g, kk, none⟩) hgl).trans dn
          have hd8 := HR.out.2.2.2.2.2.1.stay hb8
          have t7 : ((fb.size : Int) != 8 + (s.size : Int)) = false := by rw [hfs]; simp
          have H8 := Lib.hid (And.intro hd8 hb8)
          have hs5 : s.size ≤ 500 := by
            have h1 := HSM.out _ (List.getElem_mem hil)
            rw [HD0.out.2.2] at h1
            exact h1
          have hfb5 : fb.size ≤ 508 := by omega
          have HFS := Lib.hid hfs
          clear hfs
          have hgx : ¬ two db mb g := fun e => (H7.out.2.1.2 g rfl).1 (H7.out.1.d.dk2 g e)
          have HGX := Lib.hid hgx
          clear hd8 hb8 hgx d1 dn
          go_wp2_with fail
          have hdb2 : b < mb := by have := HD0.out.2.1; omega
          have hbx : ¬ two db mb b := fun e => by rcases e with e | e <;> omega
          have hk7 : k7 + 30 ≤ 1000000 := by have := H7.out.2.2.2.2.1; have := HB.out.1; have := HB.out.2; omega
          have hrm := remove_any H8.out.1.d rfl (by show k7 < 1000000; omega) sg hsl
          have hbr := back_remove (k := k7) nm_dW (by decide) HR.out.2.2.2.1
          rw [HR.out.2.2.1] at hbr
          rw [hbr] at hrm
          have HRM := Lib.hid hrm
          clear hrm hbr
          refine HRM.out.mono ?_
          rintro e w9 ⟨rfl, hd9, t9⟩
          have n9 := t9.cell (p := ⟨g, kk, none⟩) n8 HGX.out
          have d9 := t9.cell (p := ⟨b, off + kk, none⟩) d8 hbx
          obtain ⟨hD9, s9⟩ := H8.out.1.disk hd9 t9
          have hcr := create_any hD9.d rfl (by show k7 + 1 < 1000000; omega) sg hsl
          have hll : (A ++ X).length < 20000 := by have := HR.out.2.2.2.2.1; rw [List.length_append] at this ⊢; simp at this; omega
          have hbr := back_create (k := k7 + 1) nm_dW (by decide) HR.out.2.2.2.1 hll
          rw [HR.out.2.2.1] at hbr
          rw [hbr] at hcr
          have HC := Lib.hid (And.intro hcr hD9)
          clear hcr hbr hD9 hd9 t9 s9 n8 d8 hll HRM
          go_wp2_with fail
          refine HC.out.1.mono ?_
          rintro e w10 ⟨rfl, hd10, t10⟩
          have n10 := t10.cell (p := ⟨g, kk, none⟩) n9 HGX.out
          have d10 := t10.cell (p := ⟨b, off + kk, none⟩) d9 hbx
          obtain ⟨hD10, s10⟩ := HC.out.2.disk hd10 t10
          obtain ⟨ccap, w11, hb11, hz11, hB11, hconv⟩ := conv_b fb w10
          have n11 := (hb11.cell (p := ⟨g, kk, none⟩) (World.block_lt_of_cell? _ _ n10)).trans n10
          have d11 := (hb11.cell (p := ⟨b, off + kk, none⟩) (World.block_lt_of_cell? _ _ d10)).trans d10
          obtain ⟨B11, hB⟩ : ∃ B11, w10.heap.size = B11 := ⟨_, rfl⟩
          rw [hB] at hB11 hconv
          have hB11' := hB11
          obtain ⟨q2, hs1, hs2⟩ := and_mask (at_ / 1024)
          have hsz0 : 0 < s.size := by omega
          obtain ⟨jj, hjj, hjl⟩ : ∃ jj : Nat, (q2 : Int) % (s.size : Int) = (jj : Int) ∧ jj < s.size := ⟨q2 % s.size, (Int.natCast_emod _ _).symm, Nat.mod_lt _ hsz0⟩
          have hjf : 8 + jj < fb.data.toList.length := by
            have h1 := HFS.out
            rw [Lib.size_eq] at h1
            omega
          have hx9 : 8 + jj < fb.size := by rw [HFS.out]; omega
          have hx9i : 8 + (jj : Int) < (fb.size : Int) := by omega
          obtain ⟨cb, hcb⟩ : ∃ cb, fb.data.toList[8 + jj] = cb := ⟨_, rfl⟩
          obtain ⟨u1, u2⟩ := hB11' (8 + jj) hjf
          rw [hcb] at u1
          obtain ⟨c2, hc2⟩ : ∃ c2, cb ^^^ UInt8.ofNat (by_ % 256).toNat = c2 := ⟨_, rfl⟩
          have hby0 : 0 ≤ by_ % 256 := Int.emod_nonneg _ (by decide)
          have hby1 : by_ % 256 < 256 := Int.emod_lt_of_pos _ (by decide)
          have hxr : bits BinOp.xor IntKind.u8 (cb.toNat : Int) (by_ % 256) = (c2.toNat : Int) := by
            rw [← hc2, u8_xor _ _ (by omega) (by have := cb.toNat_lt; omega) (by omega) (by omega), UInt8.toNat_xor, UInt8.toNat_ofNat', Int.toNat_natCast, Nat.mod_eq_of_lt (show (by_ % 256).toNat < 2 ^ 8 by omega)]
          have hne2 : cb ≠ c2 := by
            intro e
            rw [← e] at hc2
            have h1 := congrArg (fun z => cb ^^^ z) hc2
            simp only [← UInt8.xor_assoc, UInt8.xor_self, UInt8.zero_xor] at h1
            have h2 := congrArg UInt8.toNat h1
            rw [UInt8.toNat_ofNat', Nat.mod_eq_of_lt (show (by_ % 256).toNat < 2 ^ 8 by omega)] at h2
            have h3 : (0 : UInt8).toNat = 0 := rfl
            omega
          have HX := Lib.hid (And.intro hcb (And.intro hne2 (And.intro hjl hjf)))
          clear hcb hne2 hc2 hjl hjf
          have hgB : g ≠ B11 := fun e => by have := World.block_lt_of_cell? _ _ n10; simp only at this; omega
          have H11 := Lib.hid (And.intro hD10 (And.intro hB11 (And.intro hb11 hB)))
          clear hB11 hB11' hb11 hz11 hB hd10 t10 hD10 s10 n9 d9 n10 d10 hsz0
          go_wp2_with fail
          obtain ⟨w12, hw12⟩ : ∃ w12, w12 = w11.setCell ⟨B11, 8 + jj, none⟩ (.int .u8 (c2.toNat : Int)) := ⟨_, rfl⟩
          rw [← hw12]
          have hB12 : HasB w12 B11 (fb.data.toList.set (8 + jj) c2) := by rw [hw12]; exact H11.out.2.1.set _ _
          have n12 : w12.cell? ⟨g, kk, none⟩ = some (.string sg) := by
            rw [hw12, World.cell?_setCell_other _ _ _ _ (by intro e; injection e with e; exact hgB e.symm)]
            exact n11
          have hD12 := H11.out.1.stay (H11.out.2.2.1.setCell (p := ⟨B11, 8 + jj, none⟩) (by show _ ≤ B11; rw [H11.out.2.2.2]; exact Nat.le_refl _) (.int .u8 (c2.toNat : Int)))
          rw [← hw12] at hD12
          have hfl : fb.size = (fb.data.toList.set (8 + jj) c2).length := by rw [List.length_set, ← Lib.size_eq]
          have hstr : ∀ W : World, HasB W B11 (fb.data.toList.set (8 + jj) c2) → (convert 39 9 (.slice (some ⟨B11, 0, none⟩) fb.size ccap)).run Tryz.prog W = .ok (.string ⟨(fb.data.toList.set (8 + jj) c2).toArray⟩) W := fun W hW => hW.str _ _ hfl
          obtain ⟨fc, hfc⟩ : ∃ fc : ByteArray, (⟨(fb.data.toList.set (8 + jj) c2).toArray⟩ : ByteArray) = fc := ⟨_, rfl⟩
          rw [hfc] at hstr
          have hst12 := hstr w12.drew hB12
          have hfcs : fc.size = fb.size := by rw [← hfc, hfl]; rfl
          have H12 := Lib.hid (And.intro hD12 (And.intro hfc (And.intro hB12 (And.intro hfcs hw12))))
          clear hw12 hB12 hD12 hfl hfc hstr hfcs hconv hs1 hs2 hxr u1 u2 n11
          refine wp_region_K (fun w' => w'.cell? ⟨g, kk, none⟩ = some (.string sg) ∧ (convert 39 9 (.slice (some ⟨B11, 0, none⟩) fb.size ccap)).run Tryz.prog w' = .ok (.string fc) w') 7 8 (by kernel_rfl) (by kernel_rfl) ⟨n12, hst12⟩ (fun hH => ?_)
          refine wpAnyK_take (i := 0) [7] (v := ?v1) rfl (by kernel_rfl) (by kernel_rfl) (by kernel_rfl) (by kernel_rfl) (fun _ _ _ h => h) (Or.inl ⟨by rfl, ?hy1⟩) hH ?rest1
          case hy1 => (intro w hSw; (try dsimp only at hSw); go_simp; with_reducible rfl)
          try simp only [Act.put, List.setIfInBounds_toArray, List.set_cons_zero, List.set_cons_succ]
          refine wpAnyK_take (i := 1) [3, 4, 7] (v := ?v2) rfl (by kernel_rfl) (by kernel_rfl) (by kernel_rfl) (by kernel_rfl) (fun _ _ _ h => h) (Or.inl ⟨by rfl, ?hy2⟩) hH ?rest2
          case hy2 => (intro w hSw; (try dsimp only at hSw); go_simp; with_reducible rfl)
          try simp only [Act.put, List.setIfInBounds_toArray, List.set_cons_zero, List.set_cons_succ]
          refine wpAnyK_take (i := 2) [3, 4, 7] (v := ?v3) rfl (by kernel_rfl) (by kernel_rfl) (by kernel_rfl) (by kernel_rfl) (fun _ _ _ h => h) (Or.inl ⟨by rfl, ?hy3⟩) hH ?rest3
          case hy3 => (intro w hSw; (try dsimp only at hSw); go_simp; with_reducible rfl)
          try simp only [Act.put, List.setIfInBounds_toArray, List.set_cons_zero, List.set_cons_succ]
          refine wpAnyK_take (i := 3) [4, 7] (v := ?v4) rfl (by kernel_rfl) (by kernel_rfl) (by kernel_rfl) (by kernel_rfl) (fun _ _ _ h => h) (Or.inl ⟨by rfl, ?hy4⟩) hH ?rest4
          case hy4 => (intro w hSw; (try dsimp only at hSw); go_simp; with_reducible rfl)
          try simp only [Act.put, List.setIfInBounds_toArray, List.set_cons_zero, List.set_cons_succ]
          refine wpAnyK_take (i := 4) [7] (v := ?v5) rfl (by kernel_rfl) (by kernel_rfl) (by kernel_rfl) (by kernel_rfl) (fun _ _ _ h => h) (Or.inl ⟨by rfl, ?hy5⟩) hH ?rest5
          case hy5 => (intro w hSw; (try dsimp only at hSw); go_simp; with_reducible rfl)
          try simp only [Act.put, List.setIfInBounds_toArray, List.set_cons_zero, List.set_cons_succ]
          refine wpAnyK_take (i := 5) [6, 7] (v := ?v6) rfl (by kernel_rfl) (by kernel_rfl) (by kernel_rfl) (by kernel_rfl) (fun _ _ _ h => h) (Or.inl ⟨by rfl, ?hy6⟩) hH ?rest6
          case hy6 => (intro w hSw; (try dsimp only at hSw); go_simp; with_reducible rfl)
          try simp only [Act.put, List.setIfInBounds_toArray, List.set_cons_zero, List.set_cons_succ]
          refine wpAnyK_take (i := 6) [7] (v := ?v7) rfl (by kernel_rfl) (by kernel_rfl) (by kernel_rfl) (by kernel_rfl) (fun _ _ _ h => h) (Or.inl ⟨by rfl, ?hy7⟩) hH ?rest7
          case hy7 => (intro w hSw; (try dsimp only at hSw); go_simp; with_reducible rfl)
          try simp only [Act.put, List.setIfInBounds_toArray, List.set_cons_zero, List.set_cons_succ]
          refine wpAnyK_last (by kernel_rfl) rfl (fun K hK => ?_) (by kernel_rfl)
          go_simp
          have hgf : getL (dmap dW (A ++ X) none) sg = none := by rw [← HR.out.2.2.1]; exact getL_none (segN_ne HR.out.2.2.2.1)
          have hap := append_any (w := w12.drew) (H12.out.1.stay (Below.refl _ _).drew).d rfl (by show k7 + 1 + 1 < 1000000; omega) sg fc hsl (by have := H12.out.2.2.2.1; omega)
          have hbr := back_append (k := k7 + 1 + 1) (b := fc) nm_dW (by decide) HR.out.2.2.2.1 (by have := H12.out.2.2.2.1; omega)
          rw [HR.out.2.2.1] at hbr
          rw [hbr] at hap
          refine hap.mono ?_
          rintro e w13 ⟨rfl, hd13, t13⟩
          obtain ⟨hD13, s13⟩ := (H12.out.1.stay (Below.refl _ _).drew).disk hd13 t13
          refine hK.out _ _ (wpAnyK_done (by kernel_rfl) ?_ _)
          have H13 := Lib.hid hD13
          clear hK K hH hap hbr hd13 t13 hD13 s13 hgf hst12 n12
          go_wp2_with fail
          have hsd := segD_back (q := -1) (k := k7 + 1 + 1 + 1) (f' := ⟨fc, 0⟩) nm_dW (by decide) HR.out.2.2.2.1 (by have := HR.out.2.2.2.2.1; omega)
          rw [HR.out.2.2.1] at hsd
          have hfr : (framed s).data.toList = fb.data.toList := by rw [HR.out.2.1]
          have hjl : jj < s.data.toList.length := by rw [← Lib.size_eq]; exact HX.out.2.2.1
          have hat : s.data.toList[jj] = cb := by
            have h1 := HX.out.1
            have h2 : fb.data.toList[8 + jj]? = some cb := by rw [List.getElem?_eq_getElem HX.out.2.2.2, h1]
            rw [← hfr, framed_list] at h2
            unfold frameL at h2
            have h3 : (Rw.beF 4 (s.data.toList.length + 1) ++ sumL s.data.toList).length = 8 := by rw [List.length_append, Rw.beF_len, sumL_len]
            rw [List.getElem?_append_right (by omega), h3, Nat.add_sub_cancel_left, List.getElem?_eq_getElem hjl] at h2
            exact Option.some.inj h2
          have hng : ¬ Good fc := not_good (r := s) (j := jj) (c := c2) hjl (by rw [hat]; exact HX.out.2.1) (by omega) (by rw [hfr, ← H12.out.2.1])
          have hop := c_open_spoilt (size := 1) H13.out rfl (by show k7 + 1 + 1 + 1 + 20 ≤ 1000000; omega) hsd hng HR.out.2.2.2.2.2.2.1 (by decide) (by decide)
          have HOP := Lib.hid hop
          clear hop hsd hfr hjl hat hng
          refine HOP.out.mono ?_
          rintro e w14 ⟨rfl, F14, h14⟩
          have H14 := Lib.hid h14
          clear h14
          go_wp2_with fail
          refine (alive_any _).mono ?_
          rintro e w15 ⟨rfl, hb15⟩
          have H15 := Lib.hid hb15
          clear hb15
          go_wp2_with fail
          go_ret
          exact ⟨rfl, by rw [hmb]; exact H14.out.b.trans (H15.out.mono H14.out.hz)⟩
end Go.Proofs.YtlheihhhfajpkaaGreatDoor
