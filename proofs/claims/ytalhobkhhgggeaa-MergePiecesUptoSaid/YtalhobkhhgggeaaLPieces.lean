/-
  MergePieces: its walk.
-/
import Derived.Test.YtalhobkhhgggeaaMgQ
namespace Go.Proofs.Ytalhobkhhgggeaa
open Go.RowKit

/-- Lists of the walk's own: they can be read, and they can be added to. -/
def RdO (w : World) (B : Nat) (a : Option Addr) (P : List (List KV)) : Prop := P = [] ∨ ∃ b off, a = some ⟨b, off, none⟩ ∧ ∀ i (hi : i < P.length), ∃ ai ci, w.cell? ⟨b, off + i, none⟩ = some (.slice ai P[i].length ci) ∧ RdP w ai ci P[i] ∧ Own eKV w B (.slice ai P[i].length ci) P[i]
theorem rdO_of_lst {w : World} {B : Nat} {vo : Value} {S : List (Sl × List KV)} (h : Lst eKV eSl w B vo S) : ∃ a c, vo = .slice a (S.map (·.2)).length c ∧ RdO w B a (S.map (·.2)) := by
  obtain ⟨a, c, rfl⟩ := h.form
  refine ⟨a, c, by rw [List.length_map], ?_⟩
  by_cases h0 : S = []
  · exact .inl (by rw [h0]; rfl)
  · right
    have hp : 0 < S.length := List.length_pos_iff.2 h0
    obtain ⟨g, cap, e, _⟩ := h.read hp
    injection e with e1 _ _
    subst e1
    refine ⟨g, 0, rfl, fun i hi => ?_⟩
    have hi' : i < S.length := by rw [List.length_map] at hi; exact hi
    obtain ⟨g', cap', e', hc⟩ := h.read hi'
    injection e' with e1 _ _
    injection e1 with e1
    injection e1 with e1
    subst e1
    have hown := h.each i hi'
    obtain ⟨ai, ci, hv, hr⟩ := rdP_own hown
    rw [hv] at hc hown
    have hm : (S.map (·.2))[i] = S[i].2 := by simp
    rw [hm, Nat.zero_add]
    exact ⟨ai, ci, hc, hr, hown⟩
theorem len_le_flat {P : List (List KV)} (h : ∀ x ∈ P, x ≠ []) : P.length ≤ P.flatten.length := by
  induction P with
  | nil => simp
  | cons x P ih =>
    have h1 := List.length_pos_iff.2 (h x (by simp))
    have h2 := ih (fun y hy => h y (List.mem_cons_of_mem _ hy))
    rw [List.flatten_cons, List.length_append, List.length_cons]
    omega
theorem lightN_eq (l : List KV) : lightN l = 20 * l.length + bytesL l := by
  induction l with
  | nil => rfl
  | cons p l ih =>
    unfold lightN bytesL at *
    rw [List.map_cons, List.sum_cons, List.map_cons, List.sum_cons, List.length_cons, ih]
    omega
theorem keyFst_at {x : List KV} (h : 0 < x.length) : keyFst x = (x[0]'h).1 := by
  cases x with
  | nil => simp at h
  | cons p x => rfl
theorem keyLast_at {x : List KV} (h : 0 < x.length) : keyLast x = (x[x.length - 1]'(by omega)).1 := by
  unfold keyLast
  rw [List.getLast?_eq_getElem?, List.getElem?_eq_getElem (by omega)]
theorem flat_snoc {P : List (List KV)} {i : Nat} (h : i < P.length) : (P.take (i + 1)).flatten = (P.take i).flatten ++ P[i] := by
  rw [List.take_succ_eq_append_getElem h, List.flatten_append, List.flatten_singleton]
set_option maxRecDepth 100000 in
set_option maxHeartbeats 8000000 in
theorem pieces_walk (a : Option Addr) (len cap : Nat) (l : List KV) (s : Int) {W : World} (hl : KsIn W a len cap l) (hs : (Lit.int IntKind.i64 s).wf = true) (w : World) (hW : W = w) (hshape : W.ShapedOpen Try.prog) :
    Calls Try.prog 4 #[.slice a len cap, .int .i64 s] w fun e w' => e = .returned (.bool true) ∧ Below w.heap.size w w' := by
  subst hW
  obtain ⟨hl1, hrd, hsz, hl6, hcap, hcap2⟩ := hl
  have hmax := maxAt_shaped hshape
  clear hshape
  obtain ⟨hs1, hs2⟩ : -9223372036854775808 ≤ s ∧ s ≤ 9223372036854775807 := by
    simp only [Lit.wf, Bool.and_eq_true, decide_eq_true_eq] at hs
    exact hs
  clear hs
  have hlt := Light_any (c := cap) hrd (fun p hp => by have := hsz p hp; omega) (by omega)
  rw [hl1] at hlt
  have HL := Lib.hid (And.intro hlt (And.intro hl1 (And.intro hrd (And.intro hsz hmax))))
  clear hlt hl1 hrd hsz hmax
  cases hb : lightB l with
  | false =>
    have hlt := HL.out.1
    rw [hb] at hlt
    have HLT := Lib.hid hlt
    clear hlt hb HL
    go_enter Try.func4, Try.ntmps4
    go_wp2_with fail
    refine HLT.out.mono ?_
    rintro e w1 ⟨rfl, d1, hw1⟩
    have H1 := Lib.hid hw1
    clear hw1
    go_wp2_with fail
    refine (alive_any _).mono ?_
    rintro e w2 ⟨rfl, hb2⟩
    have H2 := Lib.hid hb2
    clear hb2
    go_wp2_with fail
    go_ret
    have f1 : Below W.heap.size W w1 := by rw [H1.out]; exact (tn_drewN (F := fun _ => False) W d1).below (Nat.le_refl _) (fun _ e => e.elim)
    exact ⟨rfl, f1.trans (H2.out.mono f1.size)⟩
  | true =>
    have hlt := HL.out.1
    rw [hb] at hlt
    have h60 : lightN l ≤ 60000 := of_decide_eq_true hb
    rw [lightN_eq, HL.out.2.1] at h60
    have h3 : len ≤ 3000 := by omega
    have hby : bytesL l ≤ 60000 := by omega
    have HLT := Lib.hid (And.intro hlt hby)
    clear hlt hb h60 hby
    go_enter Try.func4, Try.ntmps4
    go_wp2_with fail
    refine HLT.out.1.mono ?_
    rintro e w1 ⟨rfl, d1, hw1⟩
    have hb1 : Below W.heap.size W w1 := by rw [hw1]; exact (tn_drewN (F := fun _ => False) W d1).below (Nat.le_refl _) (fun _ e => e.elim)
    have hsp := split_any (hd := hdF) (c := cap) s hs1 hs2 (HL.out.2.2.1.below (n := 0) hb1) (by rw [HL.out.2.1]; omega) (by have := HLT.out.2; omega) (fun p hp w' hb => head_any p.1 w' ((HL.out.2.2.2.2.below hb1).below hb) (by have := HL.out.2.2.2.1 p hp; omega))
    rw [HL.out.2.1] at hsp
    have H1 := Lib.hid (And.intro hb1 hsp)
    clear hw1 hb1 hsp
    go_wp2_with fail
    refine H1.out.2.mono ?_
    rintro e w2 ⟨vs, S, rfl, hS, hSm, hb2⟩
    obtain ⟨sa, sc, rfl, hrd2⟩ := rdO_of_lst hS
    rw [hSm] at hrd2 ⊢
    have hq := spq hdF (max s 1) (grp hdF l) (grp_ne (hd := hdF) l) (grp_adj hdF l)
    obtain ⟨P, hP⟩ : ∃ P, (spl (grp hdF l) (max s 1)).1 = P := ⟨_, rfl⟩
    rw [hP] at hrd2 hq ⊢
    have hfl : P.flatten = l := hq.flat.trans (grp_flat (hd := hdF) l)
    have hPl := len_le_flat hq.ne
    rw [hfl, HL.out.2.1] at hPl
    obtain ⟨N, hN⟩ : ∃ N, P.length = N := ⟨_, rfl⟩
    rw [hN] at hPl ⊢
    have H2 := Lib.hid (And.intro hrd2 (And.intro hfl (And.intro hb2 (And.intro hN (And.intro hq.ne (And.intro hq.big hq.adj))))))
    clear hS hSm hrd2 hq hP hfl hb2 hN
    have hN3 : N ≤ 3000 := by omega
    go_wp2_with fail
    go_loopw [6, 7] (fun v y wr => ∃ i : Nat, i ≤ N ∧ y = .int .i64 (i : Int) ∧ Own eKV wr w2.heap.size v (P.take i).flatten ∧ Below w2.heap.size w2 wr) (fun _ y _ => N - (RowKit.intOf y).toNat)
    case atStart => exact ⟨0, by omega, rfl, World.ownsRow_nil _ _ _ _, Below.refl _ _⟩
    case round =>
      obtain ⟨i, hi, rfl, hown, hbel⟩ := hrel
      obtain ⟨wo, rfl⟩ : ∃ wo, wo = wr := ⟨_, rfl⟩
      obtain ⟨va, vc, hv, _⟩ := rdP_own hown
      obtain ⟨F, hF⟩ : ∃ F, (P.take i).flatten = F := ⟨_, rfl⟩
      rw [hF] at hown hv
      have HF := Lib.hid hF
      clear hF
      obtain ⟨m6, hm6⟩ : ∃ m, F.length = m := ⟨_, rfl⟩
      rw [hm6] at hv
      subst hv
      have HM6 := Lib.hid hm6
      clear hm6
      have HO := Lib.hid (And.intro hown hbel)
      clear hown hbel
      by_cases hlt : i < N
      · have hiP : i < P.length := by rw [H2.out.2.2.2.1]; exact hlt
        obtain ⟨sb, so, rfl, hc⟩ := H2.out.1.resolve_left (fun e => by rw [e] at hiP; simp at hiP)
        obtain ⟨xa, xc, c0, hrx, hox⟩ := hc i hiP
        have hmem := List.getElem_mem hiP
        have hbx := bytesL_mem hmem
        have hlx := len_flat hmem
        rw [H2.out.2.1] at hbx hlx
        have hxne := H2.out.2.2.2.2.1 _ hmem
        obtain ⟨x, hx⟩ : ∃ x, P[i] = x := ⟨_, rfl⟩
        rw [hx] at c0 hrx hox hbx hlx hxne
        have hxp := List.length_pos_iff.2 hxne
        obtain ⟨xn, hxn⟩ : ∃ xn, x.length = xn := ⟨_, rfl⟩
        rw [hxn] at c0 hox hlx hxp
        have hbx6 : bytesL x ≤ 60000 := by have := HLT.out.2; omega
        have hxn5 : xn ≤ 3000 := by have := HL.out.2.1; omega
        have e0 := (HO.out.2.cell (p := ⟨sb, so + i, none⟩) (World.block_lt_of_cell? _ _ c0)).trans c0
        have hrx' := hrx.below (n := 0) HO.out.2
        have HX := Lib.hid (And.intro hx (And.intro hxn (And.intro hrx' (And.intro e0 hox))))
        have HC := Lib.hid hc
        clear hc hx hxn hrx hrx' c0 e0 hox hmem hbx hlx hxne
        have z1 : (i : Int) < (N : Int) := by omega
        have z2 : (0 : Int) ≤ (i : Int) := by omega
        go_wp2_with fail
        go_loopw [8, 9] (fun s9 y wr => ∃ k d : Nat, k ≤ xn ∧ y = .int .i64 (k : Int) ∧ s9 = .int .i64 (bytesL (x.take k) : Int) ∧ wr = wo.drewN d) (fun _ y _ => xn - (RowKit.intOf y).toNat)
        case atStart => exact ⟨0, 0, by omega, rfl, rfl, rfl⟩
        case round =>
          obtain ⟨k, d2, hk, rfl, rfl, hwr⟩ := hrel
          have v0 : wr.cell? ⟨sb, so + i, none⟩ = some (.slice xa xn xc) := by rw [hwr]; exact HX.out.2.2.2.1
          have hbt := bytesL_le x k
          have z4 : (0 : Int) ≤ (k : Int) := by omega
          by_cases hkx : k < xn
          · have hkl : k < x.length := by rw [HX.out.2.1]; exact hkx
            obtain ⟨xb, xo, rfl, x0, x1⟩ := HX.out.2.2.1.two hkl
            have y0 : wr.cell? ⟨xb, xo + k * 2, none⟩ = some (.string x[k].1) := by rw [hwr]; exact x0
            have y1 : wr.cell? ⟨xb, xo + k * 2 + 1, none⟩ = some (.string x[k].2) := by rw [hwr]; exact x1
            have hnx := bytesL_take x k hkl
            have hbt2 := bytesL_le x (k + 1)
            obtain ⟨kp, hkp⟩ : ∃ z, x[k].1 = z := ⟨_, rfl⟩
            obtain ⟨vp, hvp⟩ : ∃ z, x[k].2 = z := ⟨_, rfl⟩
            rw [hkp] at y0 hnx
            rw [hvp] at y1 hnx
            obtain ⟨nn, hnn⟩ : ∃ nn : Nat, bytesL (x.take k) = nn := ⟨_, rfl⟩
            rw [hnn] at hnx ⊢
            have hnn1 : nn ≤ 2000000 := by omega
            have hsz5 : kp.size + vp.size ≤ 1000000 := by omega
            have z5 : (k : Int) < (xn : Int) := by omega
            have HK := Lib.hid (And.intro hwr (And.intro hnx hnn))
            clear hwr hnx hnn hkp hvp x0 x1 hbt hbt2
            go_wp2_with fail
            go_quiet (fail)
            go_wp2_with fail
            go_roundw
            case rel => exact ⟨k + 1, _, by omega, by go_num, by rw [HK.out.2.1]; go_num, by rw [HK.out.1]; exact World.drewN_drewN _ _ _⟩
            case measure => simp [RowKit.intOf]; omega
          · obtain rfl : k = xn := by omega
            have hft : x.take k = x := List.take_of_length_le (by rw [HX.out.2.1]; exact Nat.le_refl _)
            rw [hft] at hbt ⊢
            obtain ⟨nn, hnn⟩ : ∃ nn : Nat, bytesL x = nn := ⟨_, rfl⟩
            rw [hnn] at hbt ⊢
            have hx0 : 0 < x.length := by rw [HX.out.2.1]; exact hxp
            obtain ⟨xb, xo, rfl, x0, x00⟩ := HX.out.2.2.1.two hx0
            clear x00
            rw [Nat.zero_mul, Nat.add_zero, ← keyFst_at hx0] at x0
            obtain ⟨kx, hkx2⟩ : ∃ z, keyFst x = z := ⟨_, rfl⟩
            rw [hkx2] at x0
            have x0' : wr.cell? ⟨xb, xo, none⟩ = some (.string kx) := by rw [hwr]; exact x0
            have hkxs : kx.size ≤ 100000000 := by
              obtain ⟨q, hq1, hq2⟩ : ∃ q ∈ l, kx = q.1 := ⟨x[0], by rw [← H2.out.2.1]; exact List.mem_flatten.2 ⟨x, by rw [← HX.out.1]; exact List.getElem_mem hiP, List.getElem_mem hx0⟩, by rw [← hkx2, keyFst_at hx0]⟩
              have := HL.out.2.2.2.1 q hq1
              rw [hq2]
              omega
            have hc2 : ∀ w', Calls Try.prog 12 #[.string kx] w' fun e w'' => e = .returned (.string (hdF kx)) ∧ w'' = w' := fun w' => refhead_any kx w' hkxs
            obtain ⟨ux, hux⟩ : ∃ u, hdF kx = u := ⟨_, rfl⟩
            rw [hux] at hc2
            have HW := Lib.hid (And.intro hwr (And.intro hnn (And.intro hkx2 hux)))
            have hbw : Below w2.heap.size w2 wr := by rw [hwr]; exact HO.out.2.trans ((tn_drewN (F := fun _ => False) wo d2).below HO.out.2.size (fun _ e => e.elim))
            have howr : Own eKV wr w2.heap.size (.slice va m6 vc) F := by
              have := row_below HO.out.1 ((tn_drewN (F := fun _ => False) wo d2).below (Nat.le_refl _) (fun _ e => e.elim))
              rw [hwr]
              exact this
            have HB := Lib.hid (And.intro hbw howr)
            have hle : F.length + x.length ≤ 100000000 := by
              have h1 := flat_take_len P i
              rw [H2.out.2.1, HL.out.2.1, HF.out] at h1
              rw [HX.out.2.1]
              omega
            have HLE := Lib.hid hle
            clear hwr hnn hkx2 hux x0 hx0 hft hbt hbw howr hle hkxs
            have t0 : ((k : Int) == 0) = false := beq_eq_false_iff_ne.2 (by omega)
            have t0n : (k == 0) = false := beq_eq_false_iff_ne.2 (by omega)
            have t0m : ¬ k = 0 := by omega
            have t1 : (0 : Int) < (k : Int) := by omega
            by_cases hlast : i + 1 < N
            · have hgg : ¬ (nn : Int) < s := by
                have h1 := H2.out.2.2.2.2.2.1 i x _ (by rw [← HX.out.1]; exact List.getElem?_eq_getElem hiP) (List.getElem?_eq_getElem (by rw [H2.out.2.2.2.1]; exact hlast))
                simp only at h1
                rw [HW.out.2.1] at h1
                omega
              have g0 : decide ((nn : Int) < s) = false := decide_eq_false hgg
              have g0s : s ≤ (nn : Int) := by omega
              have l1 : (i : Int) + 1 < (N : Int) := by omega
              by_cases h0 : i = 0
              · have g1 : ¬ (0 < i) := by omega
                clear h0 hc2
                go_wp2_with fail
                go_quiet (fail)
                obtain ⟨w4, hw4⟩ : ∃ w4, w4 = wr.drewN nq := ⟨_, rfl⟩
                rw [← hw4]
                have b4 : Below w2.heap.size w2 w4 := by rw [hw4]; exact HB.out.1.trans ((tn_drewN (F := fun _ => False) wr nq).below HB.out.1.size (fun _ e => e.elim))
                have own4 : Own eKV w4 w2.heap.size (.slice va m6 vc) F := by rw [hw4]; exact row_below HB.out.2 ((tn_drewN (F := fun _ => False) wr nq).below (Nat.le_refl _) (fun _ e => e.elim))
                have src4 : Src eKV w4 (.slice (some ⟨xb, xo, none⟩) k xc) x := src_own HX.out.2.2.2.2 b4
                have u4 : w4.cell? ⟨sb, so + i, none⟩ = some (.slice (some ⟨xb, xo, none⟩) k xc) := by rw [hw4]; exact v0
                have H4 := Lib.hid (And.intro b4 (And.intro own4 src4))
                have hz4 := b4.size
                clear hw4 b4 own4 src4 v0 x0'
                go_wp2_with (at_builtin; go_loud (refine wpl_app2 eKV rfl (.tmp 102) (.tmp 106) rfl rfl rfl (v := .slice va m6 vc) (l := F) (l2 := x) H4.out.2.1 H4.out.2.2 HLE.out hz4 ?_); intro a5 cap5 w5 ha5; have H5 := Lib.hid ha5; clear ha5)
                go_roundw
                case rel =>
                  refine ⟨i + 1, by omega, by go_num, ?_, ?_⟩
                  · rw [flat_snoc hiP, HX.out.1, HF.out]; exact H5.out.own
                  · exact H4.out.1.trans (H5.out.tn.below hz4 (fun q hq => (H4.out.2.1.lt q hq).1))
                case measure => simp [RowKit.intOf]; omega
              · have hip : i - 1 < P.length := by omega
                obtain ⟨pa, pc, p0, hrp, _⟩ := HC.out (i - 1) hip
                have hpne := H2.out.2.2.2.2.1 _ (List.getElem_mem hip)
                have hpm := List.getElem_mem hip
                have hlp := len_flat hpm
                rw [H2.out.2.1, HL.out.2.1] at hlp
                have hadj := H2.out.2.2.2.2.2.2 (i - 1) P[i - 1] x (List.getElem?_eq_getElem hip) (by rw [show i - 1 + 1 = i from by omega, ← HX.out.1]; exact List.getElem?_eq_getElem hiP)
                obtain ⟨pv, hpv⟩ : ∃ z, P[i - 1] = z := ⟨_, rfl⟩
                rw [hpv] at p0 hrp hpne hadj hlp hpm
                have hpp := List.length_pos_iff.2 hpne
                obtain ⟨pb, po, rfl, q0, q00⟩ := hrp.two (i := pv.length - 1) (by omega)
                clear q00
                rw [← keyLast_at hpp] at q0
                have hps : (keyLast pv).size ≤ 100000000 := by
                  have := HL.out.2.2.2.1 (pv[pv.length - 1]'(by omega)) (by rw [← H2.out.2.1]; exact List.mem_flatten.2 ⟨pv, hpm, List.getElem_mem _⟩)
                  rw [keyLast_at hpp]
                  omega
                obtain ⟨kp, hkp⟩ : ∃ z, keyLast pv = z := ⟨_, rfl⟩
                unfold Apart at hadj
                rw [HW.out.2.2.1, HW.out.2.2.2, hkp] at hadj
                rw [hkp] at q0 hps
                have hc1 : ∀ w', Calls Try.prog 12 #[.string kp] w' fun e w'' => e = .returned (.string (hdF kp)) ∧ w'' = w' := fun w' => refhead_any kp w' hps
                obtain ⟨up, hup⟩ : ∃ u, hdF kp = u := ⟨_, rfl⟩
                rw [hup] at hc1 hadj
                obtain ⟨pn, hpn⟩ : ∃ pn, pv.length = pn := ⟨_, rfl⟩
                rw [hpn] at p0 q0 hlp hpp
                have p1 : wr.cell? ⟨sb, so + (i - 1), none⟩ = some (.slice (some ⟨pb, po, none⟩) pn pc) := (HB.out.1.cell (p := ⟨sb, so + (i - 1), none⟩) (World.block_lt_of_cell? _ _ p0)).trans p0
                have q1 : wr.cell? ⟨pb, po + (pn - 1) * 2, none⟩ = some (.string kp) := (HB.out.1.cell (p := ⟨pb, po + (pn - 1) * 2, none⟩) (World.block_lt_of_cell? _ _ q0)).trans q0
                have se := str_ne hadj
                have g1 : (0 : Int) < (i : Int) := by omega
                have g1n : 0 < i := by omega
                have g2 : (0 : Int) ≤ (i : Int) - 1 := by omega
                have g3 : (i : Int) - 1 < (N : Int) := by omega
                have g4 : IntKind.i64.wrap ((i : Int) - 1) = (i : Int) - 1 := IntWalk.i64_in _ (by omega)
                have g5 : ((i : Int) - 1).toNat = i - 1 := by omega
                have r2 : (0 : Int) ≤ (pn : Int) - 1 := by omega
                have r3 : (pn : Int) - 1 < (pn : Int) := by omega
                have r4 : IntKind.i64.wrap ((pn : Int) - 1) = (pn : Int) - 1 := IntWalk.i64_in _ (by omega)
                have r5 : ((pn : Int) - 1).toNat = pn - 1 := by omega
                clear h0 p0 q0 hrp hpne hpm hadj hpv hkp hup hpn hps
                go_wp2_with fail
                go_quiet ((go_at_call 12; first | (with_reducible exact Calls.quiet_of_same (hc1 _)) | (with_reducible exact Calls.quiet_of_same (hc2 _))))
                clear g4 g5 r4 r5 se hc1 hc2 p1 q1
                obtain ⟨w4, hw4⟩ : ∃ w4, w4 = wr.drewN nq := ⟨_, rfl⟩
                rw [← hw4]
                have b4 : Below w2.heap.size w2 w4 := by rw [hw4]; exact HB.out.1.trans ((tn_drewN (F := fun _ => False) wr nq).below HB.out.1.size (fun _ e => e.elim))
                have own4 : Own eKV w4 w2.heap.size (.slice va m6 vc) F := by rw [hw4]; exact row_below HB.out.2 ((tn_drewN (F := fun _ => False) wr nq).below (Nat.le_refl _) (fun _ e => e.elim))
                have src4 : Src eKV w4 (.slice (some ⟨xb, xo, none⟩) k xc) x := src_own HX.out.2.2.2.2 b4
                have u4 : w4.cell? ⟨sb, so + i, none⟩ = some (.slice (some ⟨xb, xo, none⟩) k xc) := by rw [hw4]; exact v0
                have H4 := Lib.hid (And.intro b4 (And.intro own4 src4))
                have hz4 := b4.size
                clear hw4 b4 own4 src4 v0 x0'
                go_wp2_with (at_builtin; go_loud (refine wpl_app2 eKV rfl (.tmp 102) (.tmp 106) rfl rfl rfl (v := .slice va m6 vc) (l := F) (l2 := x) H4.out.2.1 H4.out.2.2 HLE.out hz4 ?_); intro a5 cap5 w5 ha5; have H5 := Lib.hid ha5; clear ha5)
                go_roundw
                case rel =>
                  refine ⟨i + 1, by omega, by go_num, ?_, ?_⟩
                  · rw [flat_snoc hiP, HX.out.1, HF.out]; exact H5.out.own
                  · exact H4.out.1.trans (H5.out.tn.below hz4 (fun q hq => (H4.out.2.1.lt q hq).1))
                case measure => simp [RowKit.intOf]; omega
            · have l1 : ¬ (i : Int) + 1 < (N : Int) := by omega
              have l2 : decide ((i : Int) + 1 < (N : Int)) = false := decide_eq_false l1
              by_cases h0 : i = 0
              · have g1 : ¬ (0 < i) := by omega
                clear h0 hc2
                go_wp2_with fail
                go_quiet (fail)
                obtain ⟨w4, hw4⟩ : ∃ w4, w4 = wr.drewN nq := ⟨_, rfl⟩
                rw [← hw4]
                have b4 : Below w2.heap.size w2 w4 := by rw [hw4]; exact HB.out.1.trans ((tn_drewN (F := fun _ => False) wr nq).below HB.out.1.size (fun _ e => e.elim))
                have own4 : Own eKV w4 w2.heap.size (.slice va m6 vc) F := by rw [hw4]; exact row_below HB.out.2 ((tn_drewN (F := fun _ => False) wr nq).below (Nat.le_refl _) (fun _ e => e.elim))
                have src4 : Src eKV w4 (.slice (some ⟨xb, xo, none⟩) k xc) x := src_own HX.out.2.2.2.2 b4
                have u4 : w4.cell? ⟨sb, so + i, none⟩ = some (.slice (some ⟨xb, xo, none⟩) k xc) := by rw [hw4]; exact v0
                have H4 := Lib.hid (And.intro b4 (And.intro own4 src4))
                have hz4 := b4.size
                clear hw4 b4 own4 src4 v0 x0'
                go_wp2_with (at_builtin; go_loud (refine wpl_app2 eKV rfl (.tmp 102) (.tmp 106) rfl rfl rfl (v := .slice va m6 vc) (l := F) (l2 := x) H4.out.2.1 H4.out.2.2 HLE.out hz4 ?_); intro a5 cap5 w5 ha5; have H5 := Lib.hid ha5; clear ha5)
                go_roundw
                case rel =>
                  refine ⟨i + 1, by omega, by go_num, ?_, ?_⟩
                  · rw [flat_snoc hiP, HX.out.1, HF.out]; exact H5.out.own
                  · exact H4.out.1.trans (H5.out.tn.below hz4 (fun q hq => (H4.out.2.1.lt q hq).1))
                case measure => simp [RowKit.intOf]; omega
              · have hip : i - 1 < P.length := by omega
                obtain ⟨pa, pc, p0, hrp, _⟩ := HC.out (i - 1) hip
                have hpne := H2.out.2.2.2.2.1 _ (List.getElem_mem hip)
                have hpm := List.getElem_mem hip
                have hlp := len_flat hpm
                rw [H2.out.2.1, HL.out.2.1] at hlp
                have hadj := H2.out.2.2.2.2.2.2 (i - 1) P[i - 1] x (List.getElem?_eq_getElem hip) (by rw [show i - 1 + 1 = i from by omega, ← HX.out.1]; exact List.getElem?_eq_getElem hiP)
                obtain ⟨pv, hpv⟩ : ∃ z, P[i - 1] = z := ⟨_, rfl⟩
                rw [hpv] at p0 hrp hpne hadj hlp hpm
                have hpp := List.length_pos_iff.2 hpne
                obtain ⟨pb, po, rfl, q0, q00⟩ := hrp.two (i := pv.length - 1) (by omega)
                clear q00
                rw [← keyLast_at hpp] at q0
                have hps : (keyLast pv).size ≤ 100000000 := by
                  have := HL.out.2.2.2.1 (pv[pv.length - 1]'(by omega)) (by rw [← H2.out.2.1]; exact List.mem_flatten.2 ⟨pv, hpm, List.getElem_mem _⟩)
                  rw [keyLast_at hpp]
                  omega
                obtain ⟨kp, hkp⟩ : ∃ z, keyLast pv = z := ⟨_, rfl⟩
                unfold Apart at hadj
                rw [HW.out.2.2.1, HW.out.2.2.2, hkp] at hadj
                rw [hkp] at q0 hps
                have hc1 : ∀ w', Calls Try.prog 12 #[.string kp] w' fun e w'' => e = .returned (.string (hdF kp)) ∧ w'' = w' := fun w' => refhead_any kp w' hps
                obtain ⟨up, hup⟩ : ∃ u, hdF kp = u := ⟨_, rfl⟩
                rw [hup] at hc1 hadj
                obtain ⟨pn, hpn⟩ : ∃ pn, pv.length = pn := ⟨_, rfl⟩
                rw [hpn] at p0 q0 hlp hpp
                have p1 : wr.cell? ⟨sb, so + (i - 1), none⟩ = some (.slice (some ⟨pb, po, none⟩) pn pc) := (HB.out.1.cell (p := ⟨sb, so + (i - 1), none⟩) (World.block_lt_of_cell? _ _ p0)).trans p0
                have q1 : wr.cell? ⟨pb, po + (pn - 1) * 2, none⟩ = some (.string kp) := (HB.out.1.cell (p := ⟨pb, po + (pn - 1) * 2, none⟩) (World.block_lt_of_cell? _ _ q0)).trans q0
                have se := str_ne hadj
                have g1 : (0 : Int) < (i : Int) := by omega
                have g1n : 0 < i := by omega
                have g2 : (0 : Int) ≤ (i : Int) - 1 := by omega
                have g3 : (i : Int) - 1 < (N : Int) := by omega
                have g4 : IntKind.i64.wrap ((i : Int) - 1) = (i : Int) - 1 := IntWalk.i64_in _ (by omega)
                have g5 : ((i : Int) - 1).toNat = i - 1 := by omega
                have r2 : (0 : Int) ≤ (pn : Int) - 1 := by omega
                have r3 : (pn : Int) - 1 < (pn : Int) := by omega
                have r4 : IntKind.i64.wrap ((pn : Int) - 1) = (pn : Int) - 1 := IntWalk.i64_in _ (by omega)
                have r5 : ((pn : Int) - 1).toNat = pn - 1 := by omega
                clear h0 p0 q0 hrp hpne hpm hadj hpv hkp hup hpn hps
                go_wp2_with fail
                go_quiet ((go_at_call 12; first | (with_reducible exact Calls.quiet_of_same (hc1 _)) | (with_reducible exact Calls.quiet_of_same (hc2 _))))
                clear g4 g5 r4 r5 se hc1 hc2 p1 q1
                obtain ⟨w4, hw4⟩ : ∃ w4, w4 = wr.drewN nq := ⟨_, rfl⟩
                rw [← hw4]
                have b4 : Below w2.heap.size w2 w4 := by rw [hw4]; exact HB.out.1.trans ((tn_drewN (F := fun _ => False) wr nq).below HB.out.1.size (fun _ e => e.elim))
                have own4 : Own eKV w4 w2.heap.size (.slice va m6 vc) F := by rw [hw4]; exact row_below HB.out.2 ((tn_drewN (F := fun _ => False) wr nq).below (Nat.le_refl _) (fun _ e => e.elim))
                have src4 : Src eKV w4 (.slice (some ⟨xb, xo, none⟩) k xc) x := src_own HX.out.2.2.2.2 b4
                have u4 : w4.cell? ⟨sb, so + i, none⟩ = some (.slice (some ⟨xb, xo, none⟩) k xc) := by rw [hw4]; exact v0
                have H4 := Lib.hid (And.intro b4 (And.intro own4 src4))
                have hz4 := b4.size
                clear hw4 b4 own4 src4 v0 x0'
                go_wp2_with (at_builtin; go_loud (refine wpl_app2 eKV rfl (.tmp 102) (.tmp 106) rfl rfl rfl (v := .slice va m6 vc) (l := F) (l2 := x) H4.out.2.1 H4.out.2.2 HLE.out hz4 ?_); intro a5 cap5 w5 ha5; have H5 := Lib.hid ha5; clear ha5)
                go_roundw
                case rel =>
                  refine ⟨i + 1, by omega, by go_num, ?_, ?_⟩
                  · rw [flat_snoc hiP, HX.out.1, HF.out]; exact H5.out.own
                  · exact H4.out.1.trans (H5.out.tn.below hz4 (fun q hq => (H4.out.2.1.lt q hq).1))
                case measure => simp [RowKit.intOf]; omega
      · obtain rfl : i = N := by omega
        have hown := HO.out.1
        have hall : F = l := by rw [← HF.out, List.take_of_length_le (by rw [H2.out.2.2.2.1]; exact Nat.le_refl _)]; exact H2.out.2.1
        rw [hall] at hown
        obtain ⟨va', vc', hv, hrv⟩ := rdP_own hown
        injection hv with hv1 hv2 hv3
        subst hv1 hv3
        rw [HL.out.2.1] at hv2
        subst hv2
        have f1 : Below W.heap.size W wo := (H1.out.1.trans (H2.out.2.2.1.mono H1.out.1.size)).trans (HO.out.2.mono (Nat.le_trans H1.out.1.size H2.out.2.2.1.size))
        have HV := Lib.hid (And.intro hrv f1)
        clear hown hall hrv f1
        go_wp2_with fail
        refine (alive_any _).mono ?_
        rintro e w5 ⟨rfl, hb5⟩
        have f5 := HV.out.2.trans (hb5.mono HV.out.2.size)
        have hs5 := samekeys_any (ca := vc) (HV.out.1.below (n := 0) hb5) (cb := cap) (HL.out.2.2.1.below (n := 0) f5) (by rw [HL.out.2.1]; omega) (by rw [HL.out.2.1]; omega)
        rw [decide_eq_true rfl, HL.out.2.1] at hs5
        have H5 := Lib.hid (And.intro f5 hs5)
        clear hb5 f5 hs5
        go_wp2_with fail
        refine H5.out.2.mono ?_
        rintro e w6 ⟨rfl, hb6⟩
        have f6 := H5.out.1.trans (hb6.mono H5.out.1.size)
        have hg6 := group_any (c := cap) hdF (HL.out.2.2.1.below (n := 0) f6) (by rw [HL.out.2.1]; omega) (fun p hp w' hb => head_any p.1 w' ((HL.out.2.2.2.2.below f6).below hb) (by have := HL.out.2.2.2.1 p hp; omega))
        rw [HL.out.2.1] at hg6
        have H6 := Lib.hid (And.intro f6 hg6)
        clear hb6 f6 hg6
        go_wp2_with fail
        refine H6.out.2.mono ?_
        rintro e w7 ⟨vg, SG, rfl, hSG, hGm, hb7⟩
        obtain ⟨ga, gc, rfl, hrg⟩ := rdL_of_lst hSG
        rw [hGm] at hrg ⊢
        have f7 := H6.out.1.trans (hb7.mono H6.out.1.size)
        have hs7 := split_any (hd := hdF) (c := cap) 1 (by decide) (by decide) (HL.out.2.2.1.below (n := 0) f7) (by rw [HL.out.2.1]; omega) (by have := HLT.out.2; omega) (fun p hp w' hb => head_any p.1 w' ((HL.out.2.2.2.2.below f7).below hb) (by have := HL.out.2.2.2.1 p hp; omega))
        rw [HL.out.2.1, show max (1 : Int) 1 = 1 from by decide] at hs7
        have H7 := Lib.hid (And.intro f7 (And.intro hs7 hrg))
        clear hSG hGm hb7 hrg f7 hs7
        go_wp2_with fail
        refine H7.out.2.1.mono ?_
        rintro e w8 ⟨vp, SP, rfl, hSP, hPm, hb8⟩
        obtain ⟨pa, pc, rfl, hrp⟩ := rdL_of_lst hSP
        rw [hPm] at hrp ⊢
        have f8 := H7.out.1.trans (hb8.mono H7.out.1.size)
        have hq := spq hdF 1 (grp hdF l) (grp_ne (hd := hdF) l) (grp_adj hdF l)
        have hsl := samelists_quiet (ca := gc) (cb := pc) (H7.out.2.2.below hb8) hrp
          (by have := grp_len hdF l; rw [HL.out.2.1] at this; omega)
          (by have := len_le_flat hq.ne; rw [hq.flat, grp_flat, HL.out.2.1] at this; omega)
          (fun g hg => by have := len_flat hg; rw [grp_flat, HL.out.2.1] at this; omega)
          (fun g hg => by have := len_flat hg; rw [hq.flat, grp_flat, HL.out.2.1] at this; omega)
        rw [eq_of_beq (same_even hdF l)] at hsl
        obtain ⟨eb, heb⟩ : ∃ eb, evD (grp hdF l) = eb := ⟨_, rfl⟩
        rw [heb] at hsl
        have H8 := Lib.hid (And.intro f8 (And.intro hsl heb))
        clear hSP hPm hb8 hrp f8 hsl heb hq
        obtain ⟨gn, hgn⟩ : ∃ gn, (grp hdF l).length = gn := ⟨_, rfl⟩
        obtain ⟨pn, hpn⟩ : ∃ pn, (spl (grp hdF l) 1).1.length = pn := ⟨_, rfl⟩
        rw [hgn, hpn]
        have hsl := H8.out.2.1
        rw [hgn, hpn] at hsl
        have HSL := Lib.hid hsl
        clear hgn hpn hsl
        go_wp2_with fail
        refine HSL.out.mono ?_
        rintro e w9 ⟨rfl, d9, hw9⟩
        have f9 : Below W.heap.size W w9 := by rw [hw9]; exact H8.out.1.trans ((tn_drewN (F := fun _ => False) w8 d9).below H8.out.1.size (fun _ e => e.elim))
        have hev := even_any (c := cap) hdF (HL.out.2.2.1.below (n := 0) f9) (by rw [HL.out.2.1]; omega) (by have := HLT.out.2; omega) (fun p hp w' hb => refhead_any p.1 w' (by have := HL.out.2.2.2.1 p hp; omega))
        rw [HL.out.2.1, H8.out.2.2] at hev
        have H9 := Lib.hid (And.intro f9 hev)
        clear hw9 f9 hev
        go_wp2_with fail
        refine H9.out.2.mono ?_
        rintro e w10 ⟨rfl, hb10⟩
        have f10 := H9.out.1.trans (hb10.mono H9.out.1.size)
        have H10 := Lib.hid f10
        clear hb10 f10
        cases eb
        all_goals
          go_wp2_with fail
          go_ret
          exact ⟨rfl, H10.out⟩
end Go.Proofs.Ytalhobkhhgggeaa
