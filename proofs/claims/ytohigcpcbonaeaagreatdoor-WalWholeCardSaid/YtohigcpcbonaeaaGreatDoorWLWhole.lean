/-
  WalWhole: its walk.
-/
import Derived.Test.YtohigcpcbonaeaaGreatDoorWlQQ
import Derived.OpenShut
set_option linter.unusedSimpArgs false
set_option linter.unusedVariables false
namespace Go.Proofs.YtohigcpcbonaeaaGreatDoor
open Go.RowKit Go.ChangeShapes Go.WideShapes Go.ChangeAt

/-- Between two lives. -/
structure LfA (B : Nat) (w0 w : World) (F : Nat → Prop) (db mb : Nat) (S : List (Nat × Fl)) (k i : Nat) (a : Option Addr) (c : Nat) (l : List ByteArray) : Prop where
  d : DS B w0 w F db mb (dkF (dmap dW S none) (-1) none k)
  aft : Aft S
  good : ∀ p ∈ S, Good p.2.data
  kp : KpX B F w a c l
  all : l = allR S
  len : S.length ≤ 20 * i ∧ lastN S ≤ 20 * i ∧ k ≤ 120 * i ∧ l.length ≤ 20 * i
/-- In a life: s records are sure. -/
structure LfB (B : Nat) (w0 w : World) (F G : Nat → Prop) (db mb lb mp : Nat) (size : Int) (S : List (Nat × Fl)) (k i j s : Nat) (L : Lg) (a : Option Addr) (c : Nat) (l : List ByteArray) : Prop where
  ws : WS B w0 w F G db mb lb mp (dkF (dmap dW S none) (-1) none k) L
  run : Run dW size L S
  sr : Sr L S s
  kp : KpX B F w a c l
  all : l = allR S
  long : L.long ≤ 508 * (j : Int)
  len : S.length ≤ 20 * i + j ∧ lastN S ≤ 20 * i + j ∧ k ≤ 120 * i + 5 * j ∧ l.length ≤ 20 * i + j

set_option maxRecDepth 100000 in
set_option maxHeartbeats 4000000 in
theorem whole_walk (a : Option Addr) (len cap : Nat) (T : List (List ByteArray)) (size sync cut flip again : Int) {W : World} (hl : TextsIn W a len T) (hlen : len ≤ maxLen) (_ : (Lit.int IntKind.i64 size).wf = true) (hsyw : (Lit.int IntKind.i64 sync).wf = true) (_ : (Lit.int IntKind.i64 cut).wf = true) (_ : (Lit.int IntKind.i64 flip).wf = true) (hagw : (Lit.int IntKind.i64 again).wf = true) (w : World) (hW : W = w) :
    Calls Tryz.prog 3 #[.slice a len cap, .int .i64 size, .int .i64 sync, .int .i64 cut, .int .i64 flip, .int .i64 again] w fun e w' => e = .returned (.bool true) ∧ Below w.heap.size w w' := by
  subst hW
  unfold maxLen at hlen
  have hag : again ≤ 9223372036854775807 := by
    exact (bounds_i64 hagw).2
  have hsy : -9223372036854775808 ≤ sync ∧ sync ≤ 9223372036854775807 := by
    exact bounds_i64 hsyw
  clear hagw hsyw
  by_cases hout : 6 < len ∨ size < 1 ∨ 524288 < size
  · rcases (by omega : (6 < len) ∨ (¬ 6 < len ∧ size < 1) ∨ (¬ 6 < len ∧ ¬ size < 1 ∧ 524288 < size)) with h0 | ⟨h0, h1⟩ | ⟨h0, h1, h2⟩
    · have t0 : (6 : Int) < (len : Int) := by omega
      clear hout h0
      go_enter Tryz.func3, Tryz.ntmps3
      go_wp2_with (go_at_call 4; refine (alive_any _).mono ?_; rintro e v1 ⟨rfl, b2⟩)
      go_ret
      exact ⟨rfl, b2⟩
    · have t0 : ¬ (6 : Int) < (len : Int) := by omega
      have t1 : size < 1 := by omega
      clear hout h0 h1
      go_enter Tryz.func3, Tryz.ntmps3
      go_wp2_with (go_at_call 4; refine (alive_any _).mono ?_; rintro e v1 ⟨rfl, b2⟩)
      go_ret
      exact ⟨rfl, b2⟩
    · have t0 : ¬ (6 : Int) < (len : Int) := by omega
      have t1 : ¬ size < 1 := by omega
      have t2 : 524288 < size := by omega
      clear hout h0 h1 h2
      go_enter Tryz.func3, Tryz.ntmps3
      go_wp2_with (go_at_call 4; refine (alive_any _).mono ?_; rintro e v1 ⟨rfl, b2⟩)
      go_ret
      exact ⟨rfl, b2⟩
  · have t0 : ¬ (6 : Int) < (len : Int) := by omega
    have t1 : ¬ size < 1 := by omega
    have t2 : ¬ 524288 < size := by omega
    have h6 : len ≤ 6 := by omega
    have hsz1 : 1 ≤ size := by omega
    have hsz2 : size ≤ 524288 := by omega
    clear hout
    have hln := hl.1
    have HL := Lib.hid hl
    have HLN := Lib.hid hln
    clear hl hln
    go_enter Tryz.func3, Tryz.ntmps3
    go_wp2_with (go_at_call 5; refine (c_newd (w0 := W) (Below.refl _ _)).mono ?_; rintro e w1 ⟨rfl, h1, _⟩; have H1 := Lib.hid h1; clear h1)
    obtain ⟨db, hdb⟩ : ∃ db, W.heap.size + 1 = db := ⟨_, rfl⟩
    obtain ⟨mb, hmb⟩ : ∃ mb, W.heap.size = mb := ⟨_, rfl⟩
    rw [hdb] at H1 ⊢
    have H3 : Hid (LfA mb W w1 (two db mb) db mb [] 0 0 none 0 []) := by
      unfold Hid
      have h1 := H1.out
      rw [hmb] at h1
      exact ⟨h1, ⟨Rise.nil, fun p hp => by simp at hp, .inl (fun p hp => by simp at hp)⟩, fun p hp => by simp at hp, KpX.nil, rfl, by simp [lastN]⟩
    clear H1
    go_wp2
    go_loopw [14, 15] (fun y x wr => ∃ i : Nat, i ≤ len ∧ x = .int .i64 (i : Int) ∧ ∃ F S k ka kc l, y = .slice ka l.length kc ∧ LfA mb W wr F db mb S k i ka kc l) (fun _ x _ => len - (intOf x).toNat)
    case atStart => exact ⟨0, by omega, rfl, two db mb, [], 0, none, 0, [], rfl, H3.out⟩
    case round =>
      obtain ⟨wo, rfl⟩ : ∃ wo, wo = wr := ⟨_, rfl⟩
      obtain ⟨i, hi, rfl, F, S, k, ka, kc, l, rfl, hp⟩ := hrel
      have HP := Lib.hid hp
      obtain ⟨nl, hnl⟩ : ∃ nl, l.length = nl := ⟨_, rfl⟩
      have hnb : nl ≤ 20 * i := by rw [← hnl]; exact hp.len.2.2.2
      rw [hnl]
      have HNL := Lib.hid hnl
      clear hp hnl
      by_cases hlt : i < len
      · have hil : i < T.length := by rw [HLN.out]; exact hlt
        obtain ⟨b, off, rfl, hbl, hcs⟩ := HL.out.2.resolve_left (by omega)
        obtain ⟨ai, ci, e0, e1, e2⟩ := hcs i hil
        obtain ⟨tx, htx⟩ : ∃ tx, T[i] = tx := ⟨_, rfl⟩
        rw [htx] at e0 e1 e2
        obtain ⟨ni, hni⟩ : ∃ ni, tx.length = ni := ⟨_, rfl⟩
        rw [hni] at e0 e1 e2
        have HD0 := Lib.hid (And.intro e0 (And.intro e1 (And.intro hbl hni)))
        have d1 := (HP.out.d.b.cell (p := ⟨b, off + i, none⟩) (by rw [← hmb]; exact hbl)).trans e0
        have r1 : (i : Int) < (len : Int) := by omega
        have hnim : ni ≤ 9223372036854775807 := by unfold maxLen at e2; omega
        clear hcs e0 e1 e2 hni htx hbl
        by_cases hbig : 20 < ni
        · have r2 : (20 : Int) < (ni : Int) := by omega
          clear hbig
          go_wp2_with (go_at_call 4; refine (alive_any _).mono ?_; rintro e v1 ⟨rfl, b2⟩)
          go_ret
          exact ⟨rfl, by rw [hmb]; exact HP.out.d.b.trans (b2.mono HP.out.d.hz)⟩
        · have r2 : ¬ (20 : Int) < (ni : Int) := by omega
          have hni20 : ni ≤ 20 := by omega
          have hi6 : i < 6 := by omega
          clear hbig
          go_wp2_with fail
          refine (c_open_good (size := size) HP.out.d nm_dW (by decide) HP.out.aft.rise HP.out.good (by have := HP.out.len; omega) hsz1 hsz2 (by have := HP.out.len; omega)).mono ?_
          rintro e w2 ⟨F2, lb, mp, G2, rfl, hw2, s2, _⟩
          have H2 := Lib.hid (And.intro hw2 (HP.out.kp.go s2))
          clear hw2 s2
          have hrun : Run dW size (opened dW size S) S := run_opened HP.out.aft.rise HP.out.good HP.out.aft.syn
          have HR := Lib.hid hrun
          clear hrun
          go_wp2_with fail
          refine (c_records H2.out.1 (by rw [HR.out.flat, ← HP.out.all, HNL.out]; omega) 0 (l := l) (by rw [records_all HR.out.rise HR.out.m]; exact HP.out.all.symm) (n := nl) HNL.out).mono ?_
          rintro e w3 ⟨a3, c3, rfl, hrd, hb3⟩
          have hk3 := H2.out.2.go (Step.below (F := F2) hb3)
          have H3b := Lib.hid (And.intro (H2.out.1.stay hb3) (And.intro hk3 hrd))
          clear hk3 hrd hb3
          go_wp2_with fail
          have hkr := H3b.out.2.1.rd
          rw [HNL.out] at hkr
          refine (same_Texts H3b.out.2.2.rd hkr (by rw [HNL.out]; omega)).mono ?_
          clear hkr
          rintro e w4 ⟨rfl, x4, rfl⟩
          have hb4 : Below w3.heap.size w3 (w3.drewN x4) := below_drewN (Below.refl _ _) x4
          have H4 : Hid (LfB mb W (w3.drewN x4) F2 G2 db mb lb mp size S k i 0 nl (opened dW size S) ka kc l) := by
            unfold Hid
            refine ⟨H3b.out.1.stay hb4, HR.out, .inl ⟨rfl, by rw [← HP.out.all, HNL.out]; exact Nat.le_refl _⟩, H3b.out.2.1.go (Step.below hb4), HP.out.all, ?_, ?_⟩
            · show (0 : Int) ≤ _; omega
            · have := HP.out.len; omega
          clear hb4
          go_wp2
          go_loopw [14, 18, 19] (fun y u x wr => ∃ j s : Nat, j ≤ ni ∧ x = .int .i64 (j : Int) ∧ u = .int .i64 (s : Int) ∧ ∃ F G S k L ka kc l, y = .slice ka l.length kc ∧ LfB mb W wr F G db mb lb mp size S k i j s L ka kc l) (fun _ _ x _ => ni - (intOf x).toNat)
          case atStart => exact ⟨0, nl, by omega, rfl, rfl, F2, G2, S, k, opened dW size S, ka, kc, l, by rw [HNL.out], H4.out⟩
          case round =>
            clear H4 H3b H2 HR HP HNL hnb
            obtain ⟨wi, rfl⟩ : ∃ wi, wi = wr := ⟨_, rfl⟩
            obtain ⟨j, s, hj, rfl, rfl, F, G, S, k, L, ka, kc, l, rfl, hp⟩ := hrel
            have HP := Lib.hid hp
            obtain ⟨nl, hnl⟩ : ∃ nl, l.length = nl := ⟨_, rfl⟩
            have hnb : nl ≤ 20 * i + j := by rw [← hnl]; exact hp.len.2.2.2
            have hsb : s ≤ nl := by rw [← hnl, hp.all]; exact hp.sr.le
            rw [hnl]
            have HNL := Lib.hid hnl
            clear hp hnl
            have d2 := (HP.out.ws.d.b.cell (p := ⟨b, off + i, none⟩) (by rw [← hmb]; exact HD0.out.2.2.1)).trans HD0.out.1
            by_cases hjl : j < ni
            · have hjt : j < tx.length := by rw [HD0.out.2.2.2]; exact hjl
              obtain ⟨_, hst, _⟩ := HD0.out.2.1
              obtain ⟨b2, off2, rfl, hbl2, hcs2⟩ := hst.resolve_left (by omega)
              have e3 := hcs2 j hjt
              obtain ⟨t, ht⟩ : ∃ t, tx[j] = t := ⟨_, rfl⟩
              rw [ht] at e3
              have d3 := (HP.out.ws.d.b.cell (p := ⟨b2, off2 + j, none⟩) (by rw [← hmb]; exact hbl2)).trans e3
              have HE := Lib.hid (And.intro e3 hbl2)
              have q1 : (j : Int) < (ni : Int) := by omega
              clear hst hcs2 e3 ht hbl2
              by_cases hbig : 500 < t.size
              · have q2 : (500 : Int) < (t.size : Int) := by omega
                clear hbig
                go_wp2_with (go_at_call 4; refine (alive_any _).mono ?_; rintro e v1 ⟨rfl, b2⟩)
                go_ret
                exact ⟨rfl, by rw [hmb]; exact HP.out.ws.d.b.trans (b2.mono HP.out.ws.d.hz)⟩
              · have q2 : ¬ (500 : Int) < (t.size : Int) := by omega
                have ht500 : t.size ≤ 500 := by omega
                clear hbig
                go_wp2_with fail
                refine (c_append_sr HP.out.ws nm_dW (by decide) hsz2 HP.out.run HP.out.sr t (by omega) (by have := HP.out.len; omega) (by have := HP.out.len; omega) (by have := HP.out.len; omega) (by have := HP.out.long; omega)).mono ?_
                rintro e w5 ⟨rfl, S5, k5, L5, G5, F5, hw5, s5, hr5, hsr5, hal5, hl5, hn5, hk5, hlo5⟩
                have hb5 : S5.length ≤ 20 * i + (j + 1) ∧ lastN S5 ≤ 20 * i + (j + 1) ∧ k5 ≤ 120 * i + 5 * j + 3 := by have := HP.out.len; omega
                have hlo6 : L5.long ≤ 508 * ((j + 1 : Nat) : Int) := by have := HP.out.long; omega
                have d6 := (hw5.d.b.cell (p := ⟨b, off + i, none⟩) (by rw [← hmb]; exact HD0.out.2.2.1)).trans HD0.out.1
                have d7 := (hw5.d.b.cell (p := ⟨b2, off2 + j, none⟩) (by rw [← hmb]; exact HE.out.2)).trans HE.out.1
                have H5 := Lib.hid (And.intro hw5 (And.intro (HP.out.kp.go s5) (And.intro hr5 (And.intro hsr5 (And.intro (hal5.trans (by rw [← HP.out.all])) (And.intro hlo6 hb5))))))
                clear hw5 s5 hr5 hsr5 hal5 hl5 hn5 hk5 hlo5 hlo6 hb5 d2 d3
                obtain ⟨n1, hn1⟩ : ∃ n1, nl + 1 = n1 := ⟨_, rfl⟩
                have HN1 := Lib.hid hn1
                clear hn1
                have hcase : sync < 0 ∨ (0 ≤ sync ∧ ((j : Int) + (i : Int)).tmod 5 = sync.tmod 5) ∨ (0 ≤ sync ∧ ¬ ((j : Int) + (i : Int)).tmod 5 = sync.tmod 5) := by omega
                have hm1 : ((j : Int) + (i : Int)).tmod 5 = ((j : Int) + (i : Int)) % 5 := Int.tmod_eq_emod_of_nonneg (by omega)
                rcases hcase with hs0 | ⟨hs0, hs1⟩ | ⟨hs0, hs1⟩
                · have g1 : decide (0 ≤ sync) = false := by simp; omega
                  have g1b : ¬ 0 ≤ sync := by omega
                  go_wp2_with (at_builtin; refine wpl_appK (F := F5) (B := mb) (l := l) (l2 := [t]) rfl _ _ rfl (by rw [HNL.out]; rfl) rfl (H5.out.2.1.go (Step.below ((Below.refl _ _).alloc (Nat.le_refl _) _))) (src_one w5 t _ _ rfl 1) (by simp) (by rw [HNL.out]; simp; omega) (by have := H5.out.1.d.hz; simp; omega) (fun q hq => by have := H5.out.1.d.d.lt q hq; simp; omega) ?_; rw [HNL.out, show nl + [t].length = n1 from HN1.out]; intro a8 c8 w8 hk8 ht8; have hw8 := (H5.out.1.stay ((Below.refl _ _).alloc (Nat.le_refl _) _)).clear rfl ht8 (fun q e => e); have H8 := Lib.hid (And.intro hw8 hk8); clear hk8 ht8 hw8)
                  have hl8 : (l ++ [t]).length = n1 := by rw [List.length_append, HNL.out]; exact HN1.out
                  have H9 : Hid (LfB mb W w8 F5 G5 db mb lb mp size S5 k5 i (j + 1) s L5 a8 c8 (l ++ [t])) := by
                    unfold Hid
                    have h1 := H5.out
                    exact ⟨H8.out.1, h1.2.2.1, h1.2.2.2.1, H8.out.2, h1.2.2.2.2.1.symm, h1.2.2.2.2.2.1, by have := h1.2.2.2.2.2.2; rw [hl8]; have := HN1.out; omega⟩
                  have HL8 := Lib.hid hl8
                  have HK5 : Hid (k5 ≤ 120 * i + 5 * j + 3) := H5.out.2.2.2.2.2.2.2.2
                  clear H8 H5 hl8
                  go_roundw
                  case rel => exact ⟨j + 1, s, by omega, by go_num, rfl, F5, G5, S5, k5, L5, a8, c8, l ++ [t], by rw [HL8.out], H9.out⟩
                  case measure => simp [intOf]; omega
                · have g1 : decide (0 ≤ sync) = true := by simp; omega
                  have hm2 : sync.tmod 5 = sync % 5 := Int.tmod_eq_emod_of_nonneg hs0
                  rw [hm1, hm2] at hs1
                  have g2 : (((j : Int) + (i : Int)) % 5 == sync % 5) = true := by simpa using hs1
                  go_wp2_with (at_builtin; refine wpl_appK (F := F5) (B := mb) (l := l) (l2 := [t]) rfl _ _ rfl (by rw [HNL.out]; rfl) rfl (H5.out.2.1.go (Step.below ((Below.refl _ _).alloc (Nat.le_refl _) _))) (src_one w5 t _ _ rfl 1) (by simp) (by rw [HNL.out]; simp; omega) (by have := H5.out.1.d.hz; simp; omega) (fun q hq => by have := H5.out.1.d.d.lt q hq; simp; omega) ?_; rw [HNL.out, show nl + [t].length = n1 from HN1.out]; intro a8 c8 w8 hk8 ht8; have hw8 := (H5.out.1.stay ((Below.refl _ _).alloc (Nat.le_refl _) _)).clear rfl ht8 (fun q e => e); have H8 := Lib.hid (And.intro hw8 hk8); clear hk8 ht8 hw8)
                  have hl8 : (l ++ [t]).length = n1 := by rw [List.length_append, HNL.out]; exact HN1.out
                  have H9 : Hid (LfB mb W w8 F5 G5 db mb lb mp size S5 k5 i (j + 1) s L5 a8 c8 (l ++ [t])) := by
                    unfold Hid
                    have h1 := H5.out
                    exact ⟨H8.out.1, h1.2.2.1, h1.2.2.2.1, H8.out.2, h1.2.2.2.2.1.symm, h1.2.2.2.2.2.1, by have := h1.2.2.2.2.2.2; rw [hl8]; have := HN1.out; omega⟩
                  have HL8 := Lib.hid hl8
                  have HK5 : Hid (k5 ≤ 120 * i + 5 * j + 3) := H5.out.2.2.2.2.2.2.2.2
                  clear H8 H5 hl8
                  refine (c_sync_run H9.out.ws nm_dW (by decide) H9.out.run (by have := H9.out.len; omega)).mono ?_
                  rintro e w10 ⟨rfl, S10, k10, hw10, s10, hk10, hr10, hal10, hl10, hn10, _, hsy10, _⟩
                  have H10 := Lib.hid (And.intro hw10 (And.intro (H9.out.kp.go s10) (And.intro hr10 (And.intro hal10 (And.intro hsy10 (And.intro hl10 (And.intro hn10 hk10)))))))
                  clear hw10 s10 hk10 hr10 hal10 hl10 hn10 hsy10
                  go_wp2
                  go_roundw
                  case rel =>
                    refine ⟨j + 1, n1, by omega, by go_num, rfl, F5, G5, S10, k10, L5, a8, c8, l ++ [t], by rw [HL8.out], ?_⟩
                    obtain ⟨z1, z2, z3, z4, z5, z6, z7, z8⟩ := H10.out
                    have z9 := H9.out.all
                    have z10 := H9.out.len
                    have z11 := HK5.out
                    refine ⟨z1, z3, ?_, z2, by rw [z4]; exact z9, H9.out.long, by omega⟩
                    have h := Sr.all z3 z5
                    rw [z4, ← z9, HL8.out] at h
                    exact h
                  case measure => simp [intOf]; omega
                · have g1 : decide (0 ≤ sync) = true := by simp; omega
                  have hm2 : sync.tmod 5 = sync % 5 := Int.tmod_eq_emod_of_nonneg hs0
                  rw [hm1, hm2] at hs1
                  have g2 : (((j : Int) + (i : Int)) % 5 == sync % 5) = false := by simpa using hs1
                  go_wp2_with (at_builtin; refine wpl_appK (F := F5) (B := mb) (l := l) (l2 := [t]) rfl _ _ rfl (by rw [HNL.out]; rfl) rfl (H5.out.2.1.go (Step.below ((Below.refl _ _).alloc (Nat.le_refl _) _))) (src_one w5 t _ _ rfl 1) (by simp) (by rw [HNL.out]; simp; omega) (by have := H5.out.1.d.hz; simp; omega) (fun q hq => by have := H5.out.1.d.d.lt q hq; simp; omega) ?_; rw [HNL.out, show nl + [t].length = n1 from HN1.out]; intro a8 c8 w8 hk8 ht8; have hw8 := (H5.out.1.stay ((Below.refl _ _).alloc (Nat.le_refl _) _)).clear rfl ht8 (fun q e => e); have H8 := Lib.hid (And.intro hw8 hk8); clear hk8 ht8 hw8)
                  have hl8 : (l ++ [t]).length = n1 := by rw [List.length_append, HNL.out]; exact HN1.out
                  have H9 : Hid (LfB mb W w8 F5 G5 db mb lb mp size S5 k5 i (j + 1) s L5 a8 c8 (l ++ [t])) := by
                    unfold Hid
                    have h1 := H5.out
                    exact ⟨H8.out.1, h1.2.2.1, h1.2.2.2.1, H8.out.2, h1.2.2.2.2.1.symm, h1.2.2.2.2.2.1, by have := h1.2.2.2.2.2.2; rw [hl8]; have := HN1.out; omega⟩
                  have HL8 := Lib.hid hl8
                  have HK5 : Hid (k5 ≤ 120 * i + 5 * j + 3) := H5.out.2.2.2.2.2.2.2.2
                  clear H8 H5 hl8
                  go_roundw
                  case rel => exact ⟨j + 1, s, by omega, by go_num, rfl, F5, G5, S5, k5, L5, a8, c8, l ++ [t], by rw [HL8.out], H9.out⟩
                  case measure => simp [intOf]; omega
            · obtain rfl : j = ni := by omega
              obtain ⟨g, M1, hcr, hM1⟩ := crash_restore (dir := dW) (M := none) (q := -1) (z := none) (k := k) HP.out.run.rise [cut] flip
              have haf := HP.out.run.aft g flip
              obtain ⟨jj, hj1, hj2, hj3⟩ := HP.out.sr.crash HP.out.run g flip
              obtain ⟨S1, hS1⟩ : ∃ S1, S.map (fun p => (p.1, cutF p.2 (g p.1) flip)) = S1 := ⟨_, rfl⟩
              rw [hS1] at hcr haf hj3
              rw [← HP.out.all] at hj2 hj3
              rw [HNL.out] at hj2
              obtain rfl := hM1 rfl
              have hb1 : S1.length ≤ 20 * (i + 1) ∧ lastN S1 ≤ 20 * (i + 1) ∧ k ≤ 120 * i + 100 := by have := HP.out.len; omega
              have HC := Lib.hid (And.intro hcr (And.intro haf.1 (And.intro hj3 hb1)))
              clear hcr haf hS1 hM1 hj3 hb1
              go_wp2_with fail
              have hal := (Below.refl wi.heap.size wi).alloc (Nat.le_refl _) (.cells #[.int .i64 cut] 3)
              refine (c_crashd (HP.out.ws.d.stay hal) (rdC_new HP.out.ws.d.d.lt cut) (by simp) flip).mono ?_
              rintro e w5 ⟨rfl, hd5, s5⟩
              have hk5 := (HP.out.kp.go (Step.below (F := F) hal)).go s5
              have H5 := Lib.hid (And.intro hd5 hk5)
              clear hal hd5 s5 hk5
              go_wp2_with fail
              refine (restore_any H5.out.1.d).mono ?_
              rintro e w6 ⟨rfl, hd6, ht6⟩
              rw [HC.out.1] at hd6
              have hd6' := H5.out.1.disk hd6 ht6
              have H6 := Lib.hid (And.intro hd6'.1 (H5.out.2.go hd6'.2))
              clear hd6 ht6 hd6'
              by_cases hag0 : 0 ≤ again
              · have ga : decide (0 ≤ again) = true := by simpa using hag0
                have hna : ¬ again < 0 := by omega
                go_wp2_with fail
                have hal := (Below.refl w6.heap.size w6).alloc (Nat.le_refl _) (.cells #[.int .i64 cut] 3)
                have hds := H6.out.1.stay hal
                refine (fuse_any hds.d again hag (rdC_new H6.out.1.d.lt cut) (by simp) flip).mono ?_
                rintro e w7 ⟨rfl, hd7, ht7⟩
                have hsf : (dkF (dmap dW S1 none) (-1) none k).setFuse again [cut] flip = dkF (dmap dW S1 none) (-1) (some ⟨again.toNat, [cut], flip⟩) k := by unfold Dk.setFuse; rw [if_pos hag0]; rfl
                rw [hsf] at hd7
                have hd7' := hds.disk hd7 ht7
                have H7 := Lib.hid (And.intro hd7'.1 ((H6.out.2.go (Step.below (F := F) hal)).go hd7'.2))
                clear hal hds hd7 ht7 hd7' hsf
                go_wp2_with fail
                refine (c_open_fuse (size := size) H7.out.1 nm_dW (by decide) HC.out.2.1 (by have := HC.out.2.2.2; omega) hsz1 hsz2 (by have := HC.out.2.2.2; omega)).mono ?_
                rintro e w8 ⟨F8, D8, o8, c8, rfl, hc8, hd8, s8, hf8⟩
                have hc31 : (c8 == 31) = false := by rcases hc8 with rfl | rfl <;> rfl
                have H8 := Lib.hid (And.intro hd8 (And.intro (H7.out.2.go s8) hf8))
                clear hd8 s8 hf8
                have hc8n : ¬ c8 = 31 := by rcases hc8 with rfl | rfl <;> decide
                clear hc8
                go_wp2_with fail
                have hal := (Below.refl w8.heap.size w8).alloc (Nat.le_refl _) (.cells #[.int .i64 cut] 3)
                refine (c_crashd (H8.out.1.stay hal) (rdC_new H8.out.1.d.lt cut) (by simp) flip).mono ?_
                rintro e w9 ⟨rfl, hd9, s9⟩
                have H9 := Lib.hid (And.intro hd9 ((H8.out.2.1.go (Step.below (F := F8) hal)).go s9))
                clear hal hd9 s9
                go_wp2_with fail
                refine (restore_any H9.out.1.d).mono ?_
                rintro e w10 ⟨rfl, hd10, ht10⟩
                have hd10' := H9.out.1.disk hd10 ht10
                have H10 := Lib.hid (And.intro hd10'.1 (H9.out.2.go hd10'.2))
                clear hd10 ht10 hd10'
                go_wp2_with fail
                refine (fuse_any H10.out.1.d (-1) (by decide) (v := .slice none 0 0) (cuts := []) ⟨none, 0, rfl, .inl rfl⟩ (by simp) 0).mono ?_
                rintro e w11 ⟨rfl, hd11, ht11⟩
                obtain ⟨S2, M2, k2, hfb, hbt, ha2, hl2, hn2, hk2⟩ := H8.out.2.2.back HC.out.2.1 [cut] flip
                rw [hfb] at hd11
                have hd11' := H10.out.1.disk hd11 ht11
                have hb2 : S2.length ≤ 20 * (i + 1) ∧ lastN S2 ≤ 20 * (i + 1) ∧ k2 ≤ 120 * i + 108 := by have := HC.out.2.2.2; omega
                have HX := Lib.hid (And.intro hd11'.1 (And.intro (H10.out.2.go hd11'.2) (And.intro hbt (And.intro (ha2.trans HC.out.2.2.1) hb2))))
                clear hd11 ht11 hd11' hfb hbt ha2 hl2 hn2 hk2 hb2 H5 H6 H7 H8 H9 H10 hc31 hc8n
                go_wp2_with fail
                refine (c_open_btw (size := size) HX.out.1 nm_dW (by decide) HX.out.2.2.1 (by have := HX.out.2.2.2.2; omega) hsz1 hsz2 (by have := HX.out.2.2.2.2; omega)).mono ?_
                rintro e w12 ⟨F12, lb2, mp2, G12, L12, S12, k12, rfl, hw12, s12, hr12, ho12, _, ha12, hl12, hn12, hk12⟩
                have hal12 : allR S12 = l.take jj := ha12.trans HX.out.2.2.2.1
                have hb12 : S12.length ≤ 20 * (i + 1) ∧ lastN S12 ≤ 20 * (i + 1) ∧ k12 ≤ 120 * (i + 1) := by have := HX.out.2.2.2.2; omega
                have hlt12 : (l.take jj).length = jj := by rw [List.length_take, HNL.out]; omega
                have H12 := Lib.hid (And.intro hw12 (And.intro (HX.out.2.1.go s12) (And.intro hr12 (And.intro ho12 (And.intro hal12 hb12)))))
                have HLT := Lib.hid hlt12
                clear hw12 s12 hr12 ho12 ha12 hl12 hn12 hk12 hal12 hb12 hlt12 HX
                go_wp2_with fail
                refine (c_records H12.out.1 (by rw [H12.out.2.2.1.flat, H12.out.2.2.2.2.1, HLT.out]; omega) 0 (l := l.take jj) (by rw [records_all H12.out.2.2.1.rise H12.out.2.2.1.m, H12.out.2.2.2.2.1]) (n := jj) HLT.out).mono ?_
                rintro e w13 ⟨a13, c13, rfl, hrd, hb13⟩
                have hk13 := H12.out.2.1.go (Step.below (F := F12) hb13)
                have hkc := hk13.le
                rw [HNL.out] at hkc
                have H13 := Lib.hid (And.intro (H12.out.1.stay hb13) (And.intro hk13 hrd))
                clear hk13 hrd hb13
                have u1 : ¬ (jj : Int) < (s : Int) := by omega
                have u2 : ¬ (nl : Int) < (jj : Int) := by omega
                have u3 : (jj : Int) ≤ (kc : Int) := by omega
                go_wp2_with fail
                have hkr := H13.out.2.1.rd
                rw [HNL.out] at hkr
                refine (same_Texts H13.out.2.2.rd (hkr.take hj2 kc) (by rw [HLT.out]; omega)).mono ?_
                clear hkr
                rintro e w14 ⟨rfl, x14, rfl⟩
                have hb14 : Below w13.heap.size w13 (w13.drewN x14) := below_drewN (Below.refl _ _) x14
                have H14 : Hid (LfA mb W (w13.drewN x14) F12 db mb S12 k12 (i + 1) ka jj (l.take jj)) := by
                  unfold Hid
                  have h1 := aft_run H12.out.2.2.1 H12.out.2.2.2.1
                  have h2 := H12.out.2.2.2.2
                  exact ⟨H13.out.1.d.stay hb14, h1.1, h1.2, (H13.out.2.1.go (Step.below (F := F12) hb14)).cut (by rw [HNL.out]; exact hj2), h2.1.symm, by rw [HLT.out]; omega⟩
                clear hb14
                go_wp2
                go_roundw
                case rel => exact ⟨i + 1, by omega, by go_num, F12, S12, k12, ka, jj, l.take jj, by rw [HLT.out], H14.out⟩
                case measure => simp [intOf]; omega
              · have ga : decide (0 ≤ again) = false := by simpa using hag0
                have hna : again < 0 := by omega
                have HX : Hid (DS mb W w6 F db mb (dkF (dmap dW S1 none) (-1) none k) ∧ KpX mb F w6 ka kc l ∧ Btw S1 none ∧ allR S1 = l.take jj ∧ S1.length ≤ 20 * (i + 1) ∧ lastN S1 ≤ 20 * (i + 1) ∧ k ≤ 120 * i + 108) := by
                  unfold Hid
                  have h1 := HC.out.2.2.2
                  exact ⟨H6.out.1, H6.out.2, ⟨HC.out.2.1, .inl rfl⟩, HC.out.2.2.1, by omega, by omega, by omega⟩
                clear H5 H6
                go_wp2_with fail
                refine (c_open_btw (size := size) HX.out.1 nm_dW (by decide) HX.out.2.2.1 (by have := HX.out.2.2.2.2; omega) hsz1 hsz2 (by have := HX.out.2.2.2.2; omega)).mono ?_
                rintro e w12 ⟨F12, lb2, mp2, G12, L12, S12, k12, rfl, hw12, s12, hr12, ho12, _, ha12, hl12, hn12, hk12⟩
                have hal12 : allR S12 = l.take jj := ha12.trans HX.out.2.2.2.1
                have hb12 : S12.length ≤ 20 * (i + 1) ∧ lastN S12 ≤ 20 * (i + 1) ∧ k12 ≤ 120 * (i + 1) := by have := HX.out.2.2.2.2; omega
                have hlt12 : (l.take jj).length = jj := by rw [List.length_take, HNL.out]; omega
                have H12 := Lib.hid (And.intro hw12 (And.intro (HX.out.2.1.go s12) (And.intro hr12 (And.intro ho12 (And.intro hal12 hb12)))))
                have HLT := Lib.hid hlt12
                clear hw12 s12 hr12 ho12 ha12 hl12 hn12 hk12 hal12 hb12 hlt12 HX
                go_wp2_with fail
                refine (c_records H12.out.1 (by rw [H12.out.2.2.1.flat, H12.out.2.2.2.2.1, HLT.out]; omega) 0 (l := l.take jj) (by rw [records_all H12.out.2.2.1.rise H12.out.2.2.1.m, H12.out.2.2.2.2.1]) (n := jj) HLT.out).mono ?_
                rintro e w13 ⟨a13, c13, rfl, hrd, hb13⟩
                have hk13 := H12.out.2.1.go (Step.below (F := F12) hb13)
                have hkc := hk13.le
                rw [HNL.out] at hkc
                have H13 := Lib.hid (And.intro (H12.out.1.stay hb13) (And.intro hk13 hrd))
                clear hk13 hrd hb13
                have u1 : ¬ (jj : Int) < (s : Int) := by omega
                have u2 : ¬ (nl : Int) < (jj : Int) := by omega
                have u3 : (jj : Int) ≤ (kc : Int) := by omega
                go_wp2_with fail
                have hkr := H13.out.2.1.rd
                rw [HNL.out] at hkr
                refine (same_Texts H13.out.2.2.rd (hkr.take hj2 kc) (by rw [HLT.out]; omega)).mono ?_
                clear hkr
                rintro e w14 ⟨rfl, x14, rfl⟩
                have hb14 : Below w13.heap.size w13 (w13.drewN x14) := below_drewN (Below.refl _ _) x14
                have H14 : Hid (LfA mb W (w13.drewN x14) F12 db mb S12 k12 (i + 1) ka jj (l.take jj)) := by
                  unfold Hid
                  have h1 := aft_run H12.out.2.2.1 H12.out.2.2.2.1
                  have h2 := H12.out.2.2.2.2
                  exact ⟨H13.out.1.d.stay hb14, h1.1, h1.2, (H13.out.2.1.go (Step.below (F := F12) hb14)).cut (by rw [HNL.out]; exact hj2), h2.1.symm, by rw [HLT.out]; omega⟩
                clear hb14
                go_wp2
                go_roundw
                case rel => exact ⟨i + 1, by omega, by go_num, F12, S12, k12, ka, jj, l.take jj, by rw [HLT.out], H14.out⟩
                case measure => simp [intOf]; omega
      · obtain rfl : len = i := by omega
        have HB : Hid (Below mb W wo ∧ mb ≤ wo.heap.size) := ⟨HP.out.d.b, HP.out.d.hz⟩
        clear HP
        go_wp2_with (go_at_call 4; refine (alive_any _).mono ?_; rintro e v1 ⟨rfl, b2⟩)
        go_ret
        exact ⟨rfl, by rw [hmb]; exact HB.out.1.trans (b2.mono HB.out.2)⟩
end Go.Proofs.YtohigcpcbonaeaaGreatDoor
