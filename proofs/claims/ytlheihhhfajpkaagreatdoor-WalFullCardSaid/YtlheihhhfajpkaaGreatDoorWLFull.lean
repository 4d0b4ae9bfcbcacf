/-
  WalFull: its walk.
-/
import Derived.Test.YtlheihhhfajpkaaGreatDoorWlNN
set_option linter.unusedSimpArgs false
set_option linter.unusedVariables false
namespace Go.Proofs.YtlheihhhfajpkaaGreatDoor
open Go.RowKit

abbrev tMore : ByteArray := ⟨#[109, 111, 114, 101]⟩
abbrev tLast : ByteArray := ⟨#[108, 97, 115, 116]⟩

set_option maxRecDepth 100000 in
set_option maxHeartbeats 4000000 in
theorem full_walk (a : Option Addr) (len cap : Nat) (l : List ByteArray) (cut flip room : Int) {W : World} (hl : StrsAt W a len l) (hlen : len ≤ maxLen) (_ : (Lit.int IntKind.i64 cut).wf = true) (_ : (Lit.int IntKind.i64 flip).wf = true) (_ : (Lit.int IntKind.i64 room).wf = true) (w : World) (hW : W = w) :
    Calls Tryz.prog 6 #[.slice a len cap, .int .i64 cut, .int .i64 flip, .int .i64 room] w fun e w' => e = .returned (.bool true) ∧ Below w.heap.size w w' := by
  subst hW
  unfold maxLen at hlen
  by_cases hout : 20 < len ∨ room < 0 ∨ 6000 < room
  · rcases (by omega : (20 < len) ∨ (¬ 20 < len ∧ room < 0) ∨ (¬ 20 < len ∧ ¬ room < 0 ∧ 6000 < room)) with h0 | ⟨h0, h1⟩ | ⟨h0, h1, h2⟩
    · have t0 : (20 : Int) < (len : Int) := by omega
      clear hout h0
      go_enter Tryz.func6, Tryz.ntmps6
      go_wp2_with (go_at_call 10; refine (alive_any _).mono ?_; rintro e v1 ⟨rfl, b2⟩)
      go_ret
      exact ⟨rfl, b2⟩
    · have t0 : ¬ (20 : Int) < (len : Int) := by omega
      have t1 : room < 0 := by omega
      clear hout h0 h1
      go_enter Tryz.func6, Tryz.ntmps6
      go_wp2_with (go_at_call 10; refine (alive_any _).mono ?_; rintro e v1 ⟨rfl, b2⟩)
      go_ret
      exact ⟨rfl, b2⟩
    · have t0 : ¬ (20 : Int) < (len : Int) := by omega
      have t1 : ¬ room < 0 := by omega
      have t2 : 6000 < room := by omega
      clear hout h0 h1 h2
      go_enter Tryz.func6, Tryz.ntmps6
      go_wp2_with (go_at_call 10; refine (alive_any _).mono ?_; rintro e v1 ⟨rfl, b2⟩)
      go_ret
      exact ⟨rfl, b2⟩
  · have t0 : ¬ (20 : Int) < (len : Int) := by omega
    have t1 : ¬ room < 0 := by omega
    have t2 : ¬ 6000 < room := by omega
    have h20 : len ≤ 20 := by omega
    clear hout
    have hln := hl.1
    have HL := Lib.hid hl
    have HLN := Lib.hid hln
    clear hl hln
    go_enter Tryz.func6, Tryz.ntmps6
    go_wp2_with (go_at_call 11; refine (c_newd (w0 := W) (Below.refl _ _)).mono ?_; rintro e w1 ⟨rfl, h1, _⟩; have H1 := Lib.hid h1; clear h1)
    refine (c_openw (size := 4096) H1.out (by decide) (by decide)).mono ?_
    rintro e w2 ⟨F2, lb, mp, G2, rfl, h2⟩
    have H2 := Lib.hid h2
    clear h2
    obtain ⟨db, hdb⟩ : ∃ db, W.heap.size + 1 = db := ⟨_, rfl⟩
    obtain ⟨mb, hmb⟩ : ∃ mb, W.heap.size = mb := ⟨_, rfl⟩
    rw [hdb] at H2 ⊢
    have H3 : Hid (Lp mb W w2 F2 G2 db mb lb mp 4096 [] 0 (opened dW 4096 []) []) := by unfold Hid; rw [← hmb]; have := H2.out; rw [hmb] at this ⊢; exact this
    clear H2 H1
    go_wp2
    go_loopw [12] (fun y wr => ∃ i : Nat, i ≤ len ∧ y = .int .i64 (i : Int) ∧ ∃ F G S k L, Lp mb W wr F G db mb lb mp 4096 S k L (l.take i) ∧ (∀ r ∈ l.take i, r.size ≤ 300)) (fun y _ => len - (intOf y).toNat)
    case atStart => exact ⟨0, by omega, rfl, F2, G2, [], 0, opened dW 4096 [], H3.out, fun r hr => by simp at hr⟩
    case round =>
      obtain ⟨i, hi, rfl, F, G, S, k, L, hp, hsm⟩ := hrel
      have HP := Lib.hid (And.intro hp hsm)
      clear hp hsm
      by_cases hlt : i < len
      · have hil : i < l.length := by rw [HLN.out]; exact hlt
        obtain ⟨b, off, rfl, hbl, hcs⟩ := HL.out.2.1.resolve_left (by omega)
        have d0 := hcs i hil
        have d1 := (HP.out.1.ws.d.b.cell (p := ⟨b, off + i, none⟩) (by rw [← hmb]; exact hbl)).trans d0
        have htk : l.take (i + 1) = l.take i ++ [l[i]] := List.take_succ_eq_append_getElem hil
        obtain ⟨s, hs⟩ : ∃ s, l[i] = s := ⟨_, rfl⟩
        rw [hs] at d1 htk
        have HT := Lib.hid htk
        have r1 : (i : Int) < (len : Int) := by omega
        clear hcs d0 htk hs hbl
        by_cases hbig : 300 < s.size
        · have r2 : (300 : Int) < (s.size : Int) := by omega
          clear hbig
          go_wp2_with (go_at_call 10; refine (alive_any _).mono ?_; rintro e v1 ⟨rfl, b2⟩)
          go_ret
          exact ⟨rfl, by rw [hmb]; exact HP.out.1.ws.d.b.trans (b2.mono HP.out.1.ws.d.hz)⟩
        · have r2 : ¬ (300 : Int) < (s.size : Int) := by omega
          have hs300 : s.size ≤ 300 := by omega
          clear hbig
          go_wp2_with fail
          have hlt2 : (l.take i).length ≤ 20 := by rw [List.length_take]; omega
          have htt := total_le HP.out.2
          refine (c_app HP.out.1 (by decide) s (by omega) (by omega) (by omega)).mono ?_
          rintro e w4 ⟨rfl, F', G', S', k', L', hp', happ, _⟩
          have H4 := Lib.hid (And.intro hp' happ)
          clear hp' happ htt hlt2
          go_wp2
          go_roundw
          case rel => exact ⟨i + 1, by omega, by go_num, F', G', S', k', L', by rw [HT.out]; exact H4.out.1, fun r hr => by
            rw [HT.out] at hr
            rcases List.mem_append.1 hr with hr | hr
            · exact HP.out.2 r hr
            · rw [List.mem_singleton] at hr; rw [hr]; exact hs300⟩
          case measure => simp [intOf]; omega
      · obtain rfl : len = i := by omega
        have HP2 : Hid (Lp mb W wr F G db mb lb mp 4096 S k L l ∧ l.length ≤ 20) := by
          unfold Hid
          have h9 := HP.out.1
          rw [← HLN.out, List.take_length] at h9
          exact ⟨h9, by rw [HLN.out]; exact h20⟩
        have HSM : Hid (∀ r ∈ l, r.size ≤ 300) := by
          unfold Hid
          have h9 := HP.out.2
          rw [← HLN.out, List.take_length] at h9
          exact h9
        clear HP
        have hl1 := HP2.out.1.last
        have hl2 := HP2.out.2
        have hl3 := HP2.out.1.acts
        have hl4 := HP2.out.1.len
        obtain ⟨g, M1, hcr, hM1⟩ := crash_restore (dir := dW) (M := none) (q := -1) (z := none) (k := k) HP2.out.1.run.rise [cut] flip
        have haf := HP2.out.1.run.aft g flip
        have huc := used_cut g flip S
        obtain ⟨S1, hS1⟩ : ∃ S1, S.map (fun p => (p.1, cutF p.2 (g p.1) flip)) = S1 := ⟨_, rfl⟩
        rw [hS1] at hcr haf huc
        have hx1 : (allR S1).length ≤ 1000 := by
          have h1 := allR_le S1
          have h2 := total_le HSM.out
          have h3 := HP2.out.1.used
          have h4 : (8 + 300) * l.length ≤ 308 * 20 := Nat.mul_le_mul_left _ HP2.out.2
          omega
        have HX1 := Lib.hid hx1
        obtain rfl := hM1 rfl
        have HC := Lib.hid (And.intro hcr haf)
        have HB := Lib.hid (And.intro hl1 (And.intro hl2 (And.intro hl3 hl4)))
        clear hl1 hl2 hl3 hl4 hcr haf hS1 hM1 huc hx1
        go_wp2_with fail
        have hds := HP2.out.1.ws.d.stay ((Below.refl _ _).alloc (Nat.le_refl _) (.cells #[.int .i64 cut] 3))
        refine (crash_any hds.d rfl (rdC_new HP2.out.1.ws.d.d.lt cut) (by simp) flip).mono ?_
        rintro e w4 ⟨rfl, hd4, ht4⟩
        have H4 := Lib.hid (hds.disk hd4 ht4).1
        clear hd4 ht4 hds
        go_wp2_with fail
        refine (restore_any H4.out.d).mono ?_
        rintro e w5 ⟨rfl, hd5, ht5⟩
        rw [HC.out.1] at hd5
        have H5 := Lib.hid (H4.out.disk hd5 ht5).1
        clear hd5 ht5
        go_wp2_with fail
        refine (quota_any H5.out.d room (by omega)).mono ?_
        rintro e w6 ⟨rfl, hd6, ht6⟩
        have hsq : (dkF (dmap dW S1 none) (-1) none k).setQuota room = dkF (dmap dW S1 none) room none k := by
          unfold Dk.setQuota dkF
          rw [show max room (-1) = room by omega]
        rw [hsq] at hd6
        have H6 := Lib.hid (H5.out.disk hd6 ht6).1
        clear hd6 ht6 hsq
        go_wp2_with fail
        refine (c_open_aft (size := 4096) H6.out (.inl rfl) nm_dW (by decide) HC.out.2.1 (by have := HC.out.2.2.1; have := HB.out; omega) (by decide) (by decide) (by have := HB.out; omega)).mono ?_
        rintro e w7 ⟨F7, lb7, mp7, G7, L7, S7, k7, rfl, h7, _, hv7, _, ha7, hl7, hn7, hk7, hlo7⟩
        obtain ⟨lx, hlx⟩ : ∃ lx, allR S7 = lx := ⟨_, rfl⟩
        obtain ⟨nx, hnx⟩ : ∃ nx, lx.length = nx := ⟨_, rfl⟩
        have hx20 : nx ≤ 1000 := by rw [← hnx, ← hlx, ha7]; exact HX1.out
        have hb7 : S7.length ≤ 20 ∧ lastN S7 ≤ 20 ∧ k7 ≤ 66 := by
          have h1 := HC.out.2.2
          have h2 := HB.out
          omega
        have H7 := Lib.hid (And.intro h7 (And.intro hv7 (And.intro hlx (And.intro hlo7 hb7))))
        have HN := Lib.hid hnx
        clear h7 hv7 ha7 hl7 hn7 hk7 hlo7 hlx hnx hb7
        go_wp2_with fail
        refine (c_recordsO H7.out.1 (by rw [flat_m H7.out.2.1.m, H7.out.2.2.1, HN.out]; omega) 0 (l := lx) (by rw [records_all H7.out.2.1.rise H7.out.2.1.m, H7.out.2.2.1]) (n := nx) HN.out).mono ?_
        rintro e w8 ⟨ax, cx, rfl, hox, hb8⟩
        have H8 := Lib.hid (And.intro (H7.out.1.stay hb8) hox)
        clear hox hb8
        go_wp2_with fail
        refine (c_append_lvl (size := 4096) H8.out.1 nm_dW (by decide) (by decide) H7.out.2.1 tMore (by decide) (by have := H7.out.2.2.2.2; omega) (by have := H7.out.2.2.2.2; omega) (by have := H7.out.2.2.2.2; omega) (by rw [H7.out.2.2.2.1]; decide)).mono ?_
        rintro e w9 ⟨c9, D9, L9, G9, F9, rfl, ha9, h9, s9, hlo9⟩
        obtain ⟨ly, hly, S9, k9, hD9, hk9, hl9, hn9, hv9, hal9⟩ : ∃ ly, (∃ tl, ly = lx ++ tl ∧ tl.length ≤ 1) ∧ ∃ S9 k9, D9 = dkF (dmap dW S9 none) room none k9 ∧ k9 ≤ k7 + 9 ∧ S9.length ≤ S7.length + 1 ∧ lastN S9 ≤ lastN S7 + 1 ∧ Lv dW 4096 L9 S9 ∧ allR S9 = ly := by
          obtain ⟨_, S9, k9, h1, h2, h3, h4, h5⟩ := ha9
          rcases h5 with ⟨_, h6, _, h8⟩ | ⟨_, h6, h8⟩
          · exact ⟨lx ++ [tMore], ⟨[tMore], rfl, by simp⟩, S9, k9, h1, h2, h3, h4, .inl h6, by rw [h8, H7.out.2.2.1]⟩
          · exact ⟨lx, ⟨[], by simp, by simp⟩, S9, k9, h1, h2, h3, h4, h6, by rw [h8, H7.out.2.2.1]⟩
        subst hD9
        obtain ⟨ny, hny⟩ : ∃ ny, ly.length = ny := ⟨_, rfl⟩
        obtain ⟨hxy, hy20, htk⟩ : nx ≤ ny ∧ ny ≤ 1001 ∧ ly.take nx = lx := by
          obtain ⟨tl, h1, h2⟩ := hly
          have h3 := HN.out
          rw [h1, List.length_append] at hny
          refine ⟨by omega, by omega, ?_⟩
          rw [h1, ← h3, List.take_left]
        have hb9 : S9.length ≤ 21 ∧ lastN S9 ≤ 21 ∧ k9 ≤ 75 ∧ L9.long ≤ 100 := by
          have h1 := H7.out.2.2.2
          have h2 : tMore.size = 4 := rfl
          omega
        have H9 := Lib.hid (And.intro h9 (And.intro (H8.out.2.go s9) (And.intro hv9 (And.intro hal9 hb9))))
        have HY := Lib.hid (And.intro hny (And.intro htk hxy))
        clear h9 s9 hv9 hal9 hb9 hny htk hly hk9 hl9 hn9 hlo9 ha9
        go_wp2_with fail
        refine (quota_any H9.out.1.d.d (-1) (by decide)).mono ?_
        rintro e w10 ⟨rfl, hd10, ht10⟩
        have hsq : (dkF (dmap dW S9 none) room none k9).setQuota (-1) = dkF (dmap dW S9 none) (-1) none k9 := rfl
        rw [hsq] at hd10
        have hw10 := H9.out.1.disk hd10 ht10
        have H10 := Lib.hid (And.intro hw10.1 (H9.out.2.1.go hw10.2))
        clear hd10 ht10 hsq hw10
        go_wp2_with fail
        refine (c_recordsO H10.out.1 (by rw [flat_m H9.out.2.2.1.m, H9.out.2.2.2.1, HY.out.1]; omega) 0 (l := ly) (by rw [records_all H9.out.2.2.1.rise H9.out.2.2.1.m, H9.out.2.2.2.1]) (n := ny) HY.out.1).mono ?_
        rintro e w11 ⟨ay, cy, rfl, hoy, hb11⟩
        obtain ⟨_, _, e, hle, _⟩ := row_form hoy.1
        injection e with e1 e2 e3
        rw [HY.out.1, ← e3] at hle
        clear e1 e2 e3
        have H11 := Lib.hid (And.intro (H10.out.1.stay hb11) (And.intro (H10.out.2.go (Step.below hb11)) hoy))
        clear hoy hb11
        have hmin : min (nx : Int) (ny : Int) = (nx : Int) := by omega
        have b1 : (nx : Int) ≤ (cy : Int) := by omega
        go_wp2_with fail
        have hyr : RdT w11 (.slice ay nx cy) lx := by
          have h9 := (rdT_own H11.out.2.2.1).take HY.out.2.2 cy
          rw [HY.out.2.1] at h9
          exact h9
        refine (same_Texts hyr (rdT_own H11.out.2.1.1) (by rw [HN.out]; omega)).mono ?_
        clear hyr
        rintro e w12 ⟨rfl, x12, rfl⟩
        have hb12 : Below w11.heap.size w11 (w11.drewN x12) := below_drewN (Below.refl _ _) x12
        have H12 := Lib.hid (And.intro (H11.out.1.stay hb12) (H11.out.2.2.go (Step.below hb12)))
        clear hb12
        go_wp2_with fail
        refine (c_append_lvl (size := 4096) H12.out.1 nm_dW (by decide) (by decide) H9.out.2.2.1 tLast (by decide) (by have := H9.out.2.2.2.2; omega) (by have := H9.out.2.2.2.2; omega) (by have := H9.out.2.2.2.2; omega) (by have := H9.out.2.2.2.2; omega)).mono ?_
        rintro e w13 ⟨c13, D13, L13, G13, F13, rfl, ha13, h13, s13, _⟩
        obtain ⟨hc13, S13, k13, hD13, hk13, hl13, hn13, hcase⟩ := ha13
        simp only at hc13 hD13 hcase
        have hc0 : c13 = 0 := by
          rcases hc13 with h | h
          · exact h
          · omega
        subst hc0 hD13
        obtain ⟨hr13, hal13⟩ : Run dW 4096 L13 S13 ∧ allR S13 = ly ++ [tLast] := by
          rcases hcase with ⟨_, h1, _, h2⟩ | ⟨h1, _⟩
          · exact ⟨h1, by rw [h2, H9.out.2.2.2.1]⟩
          · omega
        have hb13 : S13.length ≤ 22 ∧ k13 ≤ 84 := by
          have := H9.out.2.2.2.2
          omega
        have H13 := Lib.hid (And.intro h13 (And.intro (H12.out.2.go s13) (And.intro hr13 (And.intro hal13 hb13))))
        clear h13 s13 hr13 hal13 hb13 hcase hc13 hk13 hl13 hn13
        go_wp2_with fail
        refine (c_sync_run H13.out.1 nm_dW (by decide) H13.out.2.2.1 (by have := H13.out.2.2.2.2; omega)).mono ?_
        rintro e w14 ⟨rfl, S14, k14, h14, s14, hk14, hr14, hal14, hl14, _⟩
        rw [H13.out.2.2.2.1] at hal14
        have hb14 : S14.length ≤ 22 ∧ k14 ≤ 85 := by
          have := H13.out.2.2.2.2
          omega
        have H14 := Lib.hid (And.intro h14 (And.intro (H13.out.2.1.go s14) (And.intro hr14 (And.intro hal14 hb14))))
        clear h14 s14 hr14 hal14 hb14 hk14 hl14
        go_wp2_with fail
        refine (c_open_good (dir := dW) (S := S14) (M := none) (size := 4096) H14.out.1.d nm_dW (by decide) H14.out.2.2.1.rise H14.out.2.2.1.good (by have := H14.out.2.2.2.2; omega) (by decide) (by decide) (by have := H14.out.2.2.2.2; omega)).mono ?_
        rintro e w15 ⟨F15, lb15, mp15, G15, rfl, h15, s15, _⟩
        have H15 := Lib.hid (And.intro h15 (H14.out.2.1.go s15))
        clear h15 s15
        go_wp2_with fail
        refine (alive_any _).mono ?_
        rintro e w16 ⟨rfl, hb16⟩
        have H16 := Lib.hid (And.intro (H15.out.1.stay hb16) (H15.out.2.go (Step.below hb16)))
        clear hb16
        obtain ⟨n2, hn2⟩ : ∃ n2, (ly ++ [tLast]).length = n2 := ⟨_, rfl⟩
        have hn2' : n2 = ny + 1 := by rw [← hn2, List.length_append, HY.out.1]; rfl
        have HN2 := Lib.hid (And.intro hn2 hn2')
        clear hn2 hn2'
        go_wp2_with fail
        refine (c_recordsO H16.out.1 (by rw [flat_m (S := S14) rfl, H14.out.2.2.2.1, HN2.out.1, HN2.out.2]; omega) 0 (l := ly ++ [tLast]) (by rw [records_all H14.out.2.2.1.rise (S := S14) rfl, H14.out.2.2.2.1]) (n := n2) HN2.out.1).mono ?_
        rintro e w17 ⟨a17, c17, rfl, ho17, hb17⟩
        have H17 := Lib.hid (And.intro (H16.out.1.stay hb17) (And.intro (H16.out.2.go (Step.below hb17)) ho17))
        clear ho17 hb17
        have hlen18 : ([] : List ByteArray).length + ly.length = ny := by rw [HY.out.1]; simp
        have hsrc18 := Own.src H17.out.2.1.1
        have hlen20 : ly.length + [tLast].length = n2 := by rw [HY.out.1, HN2.out.2]; rfl
        have HL20 := Lib.hid hlen20
        have HL18 := Lib.hid hlen18
        clear hlen18 hlen20
        go_wp2_with (first
          | (at_builtin; refine wpl_appG eStr rfl _ _ rfl rfl rfl (v := .slice a18 ny c18) (l := ly) (l2 := [tLast]) (B := w17.heap.size) (row_below H18.out.1 ((Below.refl _ _).alloc (Nat.le_refl _) _)) (src_one w18 tLast _ _ rfl 1) (by rw [HL20.out, HN2.out.2]; omega) (by have := H18.out.2.size; simp; omega) ?_; rw [HL20.out]; intro a20 c20 w20 ho20 hb20; have H20 := Lib.hid (And.intro ho20 ((H18.out.2.alloc H18.out.2.size _).trans hb20)); clear ho20 hb20)
          | (at_builtin; refine wpl_appG eStr rfl _ _ rfl rfl rfl (v := .slice none 0 0) (l := []) (l2 := ly) (B := w17.heap.size) (World.ownsRow_nil _ _ _ _) hsrc18 (by rw [HL18.out]; omega) (Nat.le_refl _) ?_; rw [HL18.out, List.nil_append]; intro a18 c18 w18 ho18 hb18; have H18 := Lib.hid (And.intro ho18 hb18); clear ho18 hb18))
        refine (same_Texts (rdT_own (H17.out.2.2.go (Step.below H20.out.2)).1) (rdT_own H20.out.1) (by rw [HN2.out.1, HN2.out.2]; omega)).mono ?_
        rintro e w21 ⟨rfl, x21, rfl⟩
        go_wp2
        go_ret
        exact ⟨rfl, by rw [hmb]; exact below_drewN (H17.out.1.d.b.trans (H20.out.2.mono H17.out.1.d.hz)) x21⟩
end Go.Proofs.YtlheihhhfajpkaaGreatDoor
