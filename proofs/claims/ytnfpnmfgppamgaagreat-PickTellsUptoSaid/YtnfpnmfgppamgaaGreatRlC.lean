/-
  The document's Pick.
-/
import Derived.Test.YtnfpnmfgppamgaaGreatRlB
import Derived.Test.YtnfpnmfgppamgaaGreatOpenFiles
import Derived.Test.YtnfpnmfgppamgaaGreatRlBase
import Derived.StillTailTactics
namespace Go.Proofs.YtnfpnmfgppamgaaGreat
open Go.RowKit

theorem eFi : Elm Tryz.prog 22 57 6 64 Fi.cells where
  und := Tryz.underlying22
  info := by
    obtain ⟨i0, hi0, hz0, hs0, hy0⟩ := info_parts info_file
    exact ⟨i0, _, hi0, hz0, hs0, hy0, rfl⟩
  pos := by decide
  few := by decide
  len _ := rfl
  one := cells_one

theorem pkSt_val (f : Nat → Nat) : ∀ n, 0 ≤ (pkSt f n).1 → (pkSt f n).2 = f (pkSt f n).1.toNat
  | 0, h => by have e : (pkSt f 0).1 = -1 := rfl
               omega
  | n + 1, h => by
    unfold pkSt at h ⊢
    split
    · simp
    · rename_i hc
      rw [if_neg hc] at h
      exact pkSt_val f n h
theorem inK_snoc0 (K : List Fi) (x : Fi) : inK 0 (K ++ [x]) = inK 0 K ++ [x] := by
  cases K with
  | nil => rfl
  | cons y K => rfl
theorem minF_app (y : Fi) (K : List Fi) (x : Fi) : minF y (K ++ [x]) = if x.nu < (minF y K).nu then x else minF y K := by
  unfold minF; rw [List.foldl_append]; rfl
theorem inK_snoc {lv : Int} (h : 0 < lv) (K : List Fi) (x : Fi) : inK lv (K ++ [x]) = match inK lv K with
    | [] => [x]
    | m :: _ => if x.nu < m.nu then [x] else [m] := by
  cases K with
  | nil => simp [inK, h, minF]
  | cons y K =>
    show inK lv (y :: (K ++ [x])) = _
    unfold inK
    simp only [if_pos h]
    rw [minF_app]
    split <;> rfl
theorem inK_one {lv : Int} (h : 0 < lv) (K : List Fi) : inK lv K = [] ∨ ∃ m, inK lv K = [m] := by
  cases K with
  | nil => exact .inl rfl
  | cons y K => exact .inr ⟨minF y K, by simp [inK, h]⟩
theorem inKc (lv : Int) (y : Fi) (K : List Fi) : inK lv (y :: K) = if 0 < lv then [minF y K] else y :: K := rfl
theorem inK_len (lv : Int) (K : List Fi) : (inK lv K).length ≤ K.length := by
  cases K with
  | nil => exact Nat.le_refl _
  | cons y K =>
    rw [inKc]
    split
    · simp
    · exact Nat.le_refl _
theorem inK_sub {lv : Int} {K : List Fi} {x : Fi} (h : x ∈ inK lv K) : x ∈ K := by
  cases K with
  | nil => exact h
  | cons y K =>
    rw [inKc] at h
    split at h
    · rw [List.mem_singleton] at h
      subst h
      have : ∀ (l : List Fi) (m : Fi), m ∈ y :: K → (∀ z ∈ l, z ∈ y :: K) → l.foldl (fun m y => if y.nu < m.nu then y else m) m ∈ y :: K := by
        intro l
        induction l with
        | nil => intro m hm _; exact hm
        | cons z l ih =>
          intro m hm hl
          rw [List.foldl_cons]
          refine ih _ ?_ (fun z hz => hl z (List.mem_cons_of_mem _ hz))
          split
          · exact hl z (List.mem_cons_self)
          · exact hm
      exact this K y (List.mem_cons_self) (fun z hz => List.mem_cons_of_mem _ hz)
    · exact h
theorem loF_sz {M : Nat} : ∀ (K : List Fi) (p : ByteArray), p.size ≤ M → (∀ y ∈ K, y.f.size ≤ M) → (loF p K).size ≤ M
  | [], p, h, _ => h
  | y :: K, p, h, hk => by
    unfold loF
    rw [List.foldl_cons]
    refine loF_sz K _ ?_ (fun z hz => hk z (List.mem_cons_of_mem _ hz))
    split
    · exact hk y (List.mem_cons_self)
    · exact h
theorem hiF_sz {M : Nat} : ∀ (K : List Fi) (p : ByteArray), p.size ≤ M → (∀ y ∈ K, y.l.size ≤ M) → (hiF p K).size ≤ M
  | [], p, h, _ => h
  | y :: K, p, h, hk => by
    unfold hiF
    rw [List.foldl_cons]
    refine hiF_sz K _ ?_ (fun z hz => hk z (List.mem_cons_of_mem _ hz))
    split
    · exact hk y (List.mem_cons_self)
    · exact h
theorem own_fiAt {w : World} {B : Nat} {v : Value} {l : List Fi} (h : Own eFi w B v l) {i : Nat} (hi : i < l.length) : ∃ g cap, v = .slice (some ⟨g, 0, none⟩) l.length cap ∧ g < w.heap.size ∧ l[i].here w g (i * 6) := by
  have h0 := h
  obtain ⟨h1, h2⟩ := h
  rcases h2 with ⟨_, h3⟩ | ⟨g, cap', cur, h2, hg, hh, hn, hc, hcl, htk⟩
  · omega
  · subst h2
    refine ⟨g, cap', rfl, (Array.getElem?_eq_some_iff.1 hh).1, ?_⟩
    have get : ∀ j, j < 6 → w.cell? ⟨g, i * 6 + j, none⟩ = l[i].cells[j]? := by
      intro j hj
      rw [h0.cellAt (i * 6 + j) (by omega)]
      exact eFi.get l i j hi hj
    exact ⟨get 0 (by omega), get 1 (by omega), get 2 (by omega), get 3 (by omega), get 4 (by omega), get 5 (by omega)⟩
theorem src_fi (w : World) (x : Fi) : Src eFi (w.alloc (.cells #[.int .i64 x.lv, .int .i64 x.nu, .int .i64 x.ct, .int .i64 x.sz, .string x.f, .string x.l] 57)) (.slice (some ⟨w.heap.size, 0, none⟩) 1 1) [x] := src_one w x _ _ rfl 1

set_option maxRecDepth 100000 in
set_option maxHeartbeats 4000000 in
theorem rpick_any {w : World} {a : Option Addr} {L : List Fi} (hL : FilesAt w a L) (hwf : ∀ x ∈ L, x.wf) (cap : Nat) (hlen : L.length ≤ 100000) (base ratio : Nat) :
    Calls Tryz.prog 9 #[.slice a L.length cap, .float .f64 base, .float .f64 ratio] w fun e w' =>
      ∃ a' cap', e = .returned (.tuple #[.int .i64 (pickOf L base ratio).1, .slice a' (pickOf L base ratio).2.1.length cap', .bool (pickOf L base ratio).2.2]) ∧ Own eInt w' w.heap.size (.slice a' (pickOf L base ratio).2.1.length cap') (pickOf L base ratio).2.1 ∧ Below w.heap.size w w' := by
  have HL := Lib.hid hL
  have HLN := Lib.hid hlen
  have HWF := Lib.hid hwf
  have hsz : ∀ x ∈ L, -9223372036854775808 ≤ x.sz ∧ x.sz ≤ 9223372036854775807 := fun x hx => by
    have h := (hwf x hx).2.2.2.1
    simp only [Lit.wf, Bool.and_eq_true, decide_eq_true_eq] at h
    exact ⟨h.1, h.2⟩
  have hsc := rscores_any hL hsz cap hlen base ratio
  have HSC := Lib.hid hsc
  obtain ⟨len, hl⟩ : ∃ len, len = L.length := ⟨_, rfl⟩
  rw [← hl] at hlen HSC ⊢
  have HN := Lib.hid hl
  clear hsc hL hl hsz hwf
  go_enter Tryz.func9, Tryz.ntmps9
  go_wp2_with fail
  refine HSC.out.mono ?_
  rintro _ w1 ⟨a1, cap1, bs, rfl, hown1, hsd, hb1⟩
  simp only []
  have hbl := hsd.1
  obtain ⟨g1, rfl, hg1, hB1, hc1⟩ := OwnR.cell hown1 (by omega)
  rw [hbl] at hc1
  have HC1 := Lib.hid hc1
  have HSD := Lib.hid hsd
  have HB1 := Lib.hid hb1
  clear hown1 hsd hb1 hbl hc1
  go_wp2
  go_loopw [10, 11] (fun lv y wr => ∃ i : Nat, i ≤ 6 ∧ y = .int .i64 (i : Int) ∧ lv = .int .i64 (pkSt (fun j => bs.getD j 0) i).1 ∧ Below w.heap.size w wr ∧ Below w1.heap.size w1 wr) (fun _ y _ => 6 - (intOf y).toNat)
  case atStart => exact ⟨0, by omega, rfl, rfl, HB1.out, Below.refl _ _⟩
  case round =>
    obtain ⟨i, hi, rfl, rfl, hbw, hbw1⟩ := hrel
    have hbd := pkSt_bd (fun j => bs.getD j 0) i
    have hval := pkSt_val (fun j => bs.getD j 0) i
    obtain ⟨lv, hlv⟩ : ∃ lv, lv = (pkSt (fun j => bs.getD j 0) i).1 := ⟨_, rfl⟩
    obtain ⟨best, hbest⟩ : ∃ best, best = (pkSt (fun j => bs.getD j 0) i).2 := ⟨_, rfl⟩
    rw [← hlv] at hbd hval
    rw [← hbest] at hval
    rw [← hlv]
    have HLV := Lib.hid (And.intro hlv hbest)
    have HVAL := Lib.hid hval
    have HBW := Lib.hid (And.intro hbw hbw1)
    clear hlv hbest hval hbw
    by_cases hlt : i < 6
    · have hcell := (hbw1.cell (p := ⟨g1, i, none⟩) (World.block_lt_of_cell? _ _ (HC1.out i hlt))).trans (HC1.out i hlt)
      obtain ⟨s, hs⟩ : ∃ s, s = bs.getD i 0 := ⟨_, rfl⟩
      rw [← hs] at hcell
      have HS := Lib.hid hs
      obtain ⟨hbd1, hbd2⟩ := hbd
      clear hs hbw1
      by_cases hg : ge1 s = true
      · have hg2 := ge1_yes hg
        by_cases hl0 : lv < 0
        · have HNX := Lib.hid (pkSt_next HLV.out HS.out ⟨hg, .inl hl0⟩)
          have t1 : decide (lv < 0) = true := by simpa using hl0
          clear hg
          rcases hg2 with e1 | e1
          all_goals
            go_wp2
            go_quiet (fail)
            go_wp2
            go_roundw
            case rel => exact ⟨i + 1, by omega, by go_num, by rw [← HNX.out.1], below_drewN HBW.out.1 _, below_drewN HBW.out.2 _⟩
            case measure => simp [intOf]; omega
        · obtain ⟨k, rfl⟩ : ∃ k : Nat, lv = (k : Int) := ⟨lv.toNat, by omega⟩
          have hk6 : k < 6 := by omega
          have hcb := (HBW.out.2.cell (p := ⟨g1, k, none⟩) (World.block_lt_of_cell? _ _ (HC1.out k hk6))).trans (HC1.out k hk6)
          have hbv : bs.getD k 0 = best := by rw [HVAL.out (by omega)]; simp
          rw [hbv] at hcb
          have r3 : (k : Int) < 6 := by omega
          clear hbv
          by_cases ht : gtF s best = true
          · have HNX := Lib.hid (pkSt_next HLV.out HS.out ⟨hg, .inr ht⟩)
            have t1 : decide ((k : Int) < 0) = false := by simp
            have e2 := gtF_yes ht
            clear hg ht hl0
            rcases hg2 with e1 | e1
            all_goals
              go_wp2
              go_quiet (fail)
              go_wp2
              go_roundw
              case rel => exact ⟨i + 1, by omega, by go_num, by rw [← HNX.out.1], below_drewN HBW.out.1 _, below_drewN HBW.out.2 _⟩
              case measure => simp [intOf]; omega
          · have ht' : gtF s best = false := by simpa using ht
            have HNX := Lib.hid (pkSt_stay HLV.out HS.out (.inr ⟨hl0, ht'⟩))
            have t1 : decide ((k : Int) < 0) = false := by simp
            have e2 := gtF_no ht'
            clear hg ht ht' hl0
            rcases hg2 with e1 | e1
            all_goals
              rcases e2 with e2 | e2 | e2
              all_goals
                go_wp2
                go_quiet (fail)
                go_wp2
                go_roundw
                case rel => exact ⟨i + 1, by omega, by go_num, by rw [← HNX.out.1], below_drewN HBW.out.1 _, below_drewN HBW.out.2 _⟩
                case measure => simp [intOf]; omega
      · have hg' : ge1 s = false := by simpa using hg
        have HNX := Lib.hid (pkSt_stay HLV.out HS.out (.inl hg'))
        have e2 := ge1_no hg'
        clear hg hg'
        rcases e2 with e2 | e2
        all_goals
          go_wp2
          go_quiet (fail)
          go_wp2
          go_roundw
          case rel => exact ⟨i + 1, by omega, by go_num, by rw [← HNX.out.1], below_drewN HBW.out.1 _, below_drewN HBW.out.2 _⟩
          case measure => simp [intOf]; omega
    · obtain rfl : i = 6 := by omega
      have hfin := pkSt_congr 6 HSD.out.2
      have hlv : lv = (pkSt (sc L base ratio) 6).1 := by rw [HLV.out.1]; exact hfin.1
      have HLV2 := Lib.hid hlv
      have hof := rcount_any (HL.out.below HBW.out.1) cap (by have := HLN.out; omega) lv
      rw [← HN.out] at hof
      have HOF := Lib.hid hof
      obtain ⟨hbd1, hbd2⟩ := hbd
      clear hfin hlv hof hbw1
      by_cases hneg : lv < 0
      · have t1 : decide (lv < 0) = true := by simpa using hneg
        have HP : Hid (pickOf L base ratio = (0, [], false)) := by
          unfold Hid pickOf
          simp only []
          rw [← HLV2.out, if_pos (.inl hneg)]
        clear hneg
        go_wp2
        go_ret3
        rw [HP.out]
        exact ⟨none, 0, rfl, World.ownsRow_nil _ _ _ _, HBW.out.1⟩
      · have t1 : decide (lv < 0) = false := by simpa using hneg
        obtain ⟨K, hK⟩ : ∃ K, K = ofL L lv := ⟨_, rfl⟩
        rw [← hK] at HOF
        have hkl : K.length ≤ 100000 := by rw [hK]; exact Nat.le_trans (ofL_len _ _) HLN.out
        cases K with
        | nil =>
          have HP : Hid (pickOf L base ratio = (0, [], false)) := by
            unfold Hid pickOf
            simp only []
            rw [← HLV2.out, if_pos (.inr hK.symm)]
          clear hK
          go_wp2_with (go_at_call 26; refine HOF.out.mono ?_; rintro _ _ ⟨rfl, rfl⟩; simp only [])
          go_ret3
          rw [HP.out]
          exact ⟨none, 0, rfl, World.ownsRow_nil _ _ _ _, HBW.out.1⟩
        | cons x0 K =>
          have HP : Hid (pickOf L base ratio = (lv, numsK L lv (inK lv (x0 :: K)), true)) := by
            unfold Hid pickOf
            simp only []
            rw [← HLV2.out, ← hK, if_neg (by rintro (h | h); exact hneg h; cases h)]
          have HK := Lib.hid hK
          obtain ⟨c, hc⟩ : ∃ c, c = (x0 :: K).length := ⟨_, rfl⟩
          rw [← hc] at HOF
          have hc0 : 0 < c := by rw [hc]; simp
          have t2 : ((c : Int) == 0) = false := by simp; omega
          have hneg2 : 0 ≤ lv := by omega
          clear hK hc hneg
          go_wp2_with (go_at_call 26; refine HOF.out.mono ?_; rintro _ _ ⟨rfl, rfl⟩; simp only [])
          obtain ⟨w5, rfl⟩ : ∃ w5, w5 = wr := ⟨_, rfl⟩
          go_loopw [12, 13] (fun v y wr => ∃ i : Nat, i ≤ len ∧ y = .int .i64 (i : Int) ∧ Own eFi wr w.heap.size v (inK lv (ofL (L.take i) lv)) ∧ Below w.heap.size w wr) (fun _ y _ => len - (intOf y).toNat)
          case atStart => exact ⟨0, by omega, rfl, World.ownsRow_nil _ _ _ _, HBW.out.1⟩
          case round =>
            obtain ⟨i, hi, rfl, hown, hbel⟩ := hrel
            have hKL : (inK lv (ofL (L.take i) lv)).length ≤ 100000 := Nat.le_trans (inK_len _ _) (Nat.le_trans (ofL_len _ _) (by rw [List.length_take]; have := HLN.out; omega))
            have hone : 0 < lv → inK lv (ofL (L.take i) lv) = [] ∨ ∃ m, inK lv (ofL (L.take i) lv) = [m] := fun h => inK_one h _
            obtain ⟨av, capv, rfl, _, _⟩ := row_form hown
            obtain ⟨R, hR⟩ : ∃ R, R = inK lv (ofL (L.take i) lv) := ⟨_, rfl⟩
            rw [← hR] at hown hKL hone ⊢
            obtain ⟨rn, hrn⟩ : ∃ rn, rn = R.length := ⟨_, rfl⟩
            rw [← hrn] at hown hKL ⊢
            have HO := Lib.hid hown
            have HB := Lib.hid hbel
            have HR := Lib.hid (And.intro hR hrn)
            have HONE := Lib.hid hone
            clear hown hR hrn hone
            by_cases hlt : i < len
            · have hil : i < L.length := by have := HN.out; omega
              obtain ⟨b, off, rfl, hb, hcs⟩ := HL.out.resolve_left (fun e => by rw [e] at hil; simp at hil)
              have hx := (hcs i hil).below hbel hb
              have hst := ofL_snoc L i hil lv
              obtain ⟨x, hxx⟩ : ∃ x, L[i] = x := ⟨_, rfl⟩
              rw [hxx] at hx hst
              have HST := Lib.hid hst
              obtain ⟨c0, c1, c2, c3, c4, c5⟩ := hx
              have r1 : (i : Int) < (len : Int) := by omega
              clear hcs hxx hst hbel
              by_cases he : x.lv = lv
              · have t3 : (x.lv != lv) = false := by simpa using he
                have hst2 : ofL (L.take (i + 1)) lv = ofL (L.take i) lv ++ [x] := by rw [HST.out, if_pos he]
                have HST2 := Lib.hid hst2
                clear he hst2
                by_cases hpos : 0 < lv
                · have t4 : (lv == 0) = false := by simp; omega
                  have hnx := inK_snoc hpos (ofL (L.take i) lv) x
                  rw [← HR.out.1] at hnx
                  rcases HONE.out hpos with hr0 | ⟨m, hrm⟩
                  · have hnx2 : inK lv (ofL (L.take (i + 1)) lv) = [x] := by rw [HST2.out, hnx, hr0]
                    have HNX := Lib.hid hnx2
                    have hrn0 : rn = 0 := by rw [HR.out.2, hr0]; rfl
                    subst hrn0
                    clear hnx hnx2 hr0
                    go_wp2
                    go_quiet (fail)
                    go_wp2
                    go_roundw
                    case rel => exact ⟨i + 1, by omega, by go_num, by rw [HNX.out]; exact World.ownsRow_lit _ _ 1 (by have := HB.out.size; simpa using this) (by decide) rfl, (below_drewN HB.out _).alloc (by have := HB.out.size; simpa using this) _⟩
                    case measure => simp [intOf]; omega
                  · have hrn1 : rn = 1 := by rw [HR.out.2, hrm]; rfl
                    subst hrn1
                    obtain ⟨g, cap', hv, hg, hm⟩ := own_fiAt (l := R) HO.out (i := 0) (show 0 < R.length by rw [hrm]; simp)
                    injection hv with e1 e2 e3
                    subst e1
                    have hR0 : R[0]'(show 0 < R.length by rw [hrm]; simp) = m := by simp [hrm]
                    rw [hR0] at hm
                    obtain ⟨-, m1, -, -, -, -⟩ := hm
                    simp only [Nat.zero_mul, Nat.zero_add] at m1
                    have q1 : (0 : Int) < (1 : Int) := by omega
                    clear e2 e3 hR0
                    by_cases hless : x.nu < m.nu
                    · have t5 : decide (x.nu < m.nu) = true := by simpa using hless
                      have hnx2 : inK lv (ofL (L.take (i + 1)) lv) = [x] := by rw [HST2.out, hnx, hrm]; simp [hless]
                      have HNX := Lib.hid hnx2
                      clear hnx hnx2 hrm hless
                      go_wp2
                      go_quiet (fail)
                      go_wp2
                      go_roundw
                      case rel => exact ⟨i + 1, by omega, by go_num, by rw [HNX.out]; exact World.ownsRow_lit _ _ 1 (by have := HB.out.size; simpa using this) (by decide) rfl, (below_drewN HB.out _).alloc (by have := HB.out.size; simpa using this) _⟩
                      case measure => simp [intOf]; omega
                    · have t5 : decide (x.nu < m.nu) = false := by simpa using hless
                      have hnx2 : inK lv (ofL (L.take (i + 1)) lv) = R := by rw [HST2.out, hnx, hrm]; simp [hless]
                      have HNX := Lib.hid hnx2
                      clear hnx hnx2 hrm hless
                      go_wp2
                      go_quiet (fail)
                      go_wp2
                      go_roundw
                      case rel => exact ⟨i + 1, by omega, by go_num, by rw [HNX.out]; exact (tn_drewN (F := fun _ => False) wr _).row HO.out (fun _ _ e => e), below_drewN HB.out _⟩
                      case measure => simp [intOf]; omega
                · obtain rfl : lv = 0 := by omega
                  have hnx : inK 0 (ofL (L.take (i + 1)) 0) = R ++ [x] := by rw [HST2.out, inK_snoc0, ← HR.out.1]
                  have HNX := Lib.hid hnx
                  clear hnx
                  obtain ⟨W1, hW1⟩ : ∃ W1, wr.alloc (.cells #[.int .i64 x.lv, .int .i64 x.nu, .int .i64 x.ct, .int .i64 x.sz, .string x.f, .string x.l] 57) = W1 := ⟨_, rfl⟩
                  have hsrc : Src eFi W1 (.slice (some ⟨wr.heap.size, 0, none⟩) 1 1) [x] := by rw [← hW1]; exact src_fi wr x
                  have ho1 : Own eFi W1 w.heap.size (.slice av rn capv) R := by rw [← hW1]; exact World.ownsRow.alloc HO.out _
                  have hb1 : Below w.heap.size w W1 := by rw [← hW1]; exact HB.out.alloc HB.out.size _
                  have H1 := Lib.hid (And.intro ho1 (And.intro hb1 hsrc))
                  clear hsrc ho1 hb1
                  go_wp2_with (at_builtin; refine wpl_app eFi rfl _ _ rfl rfl rfl H1.out.1 H1.out.2.2 (by rw [← HR.out.2]; simp; omega) H1.out.2.1.size ?_; rw [← HR.out.2]; intro a3 cap3 w3 ho3 hb3 _ _; have H3 := Lib.hid (And.intro ho3 (H1.out.2.1.trans hb3)); clear ho3 hb3)
                  go_roundw
                  case rel => exact ⟨i + 1, by omega, by go_num, by rw [HNX.out]; exact H3.out.1, H3.out.2⟩
                  case measure => simp [intOf]; omega
              · have t3 : (x.lv != lv) = true := by simpa using he
                have hst2 : ofL (L.take (i + 1)) lv = ofL (L.take i) lv := by rw [HST.out, if_neg he, List.append_nil]
                have HST2 := Lib.hid hst2
                clear he hst2
                go_wp2
                go_roundw
                case rel => exact ⟨i + 1, by omega, by go_num, by rw [HST2.out, ← HR.out.1]; exact HO.out, HB.out⟩
                case measure => simp [intOf]; omega
            · obtain rfl : i = len := by omega
              have htk : L.take i = L := List.take_of_length_le (by have := HN.out; omega)
              have hRe : R = inK lv (x0 :: K) := by rw [HR.out.1, htk, ← HK.out]
              have hne : ∃ z t, R = z :: t := by
                rw [hRe, inKc]
                split
                · exact ⟨_, _, rfl⟩
                · exact ⟨_, _, rfl⟩
              obtain ⟨z, t, hzt⟩ := hne
              have hRw : ∀ y ∈ R, y.wf := fun y hy => HWF.out y (by
                have h1 := inK_sub (by rw [HR.out.1] at hy; exact hy)
                rw [htk] at h1
                unfold ofL at h1
                exact (List.mem_filter.1 h1).1)
              have hrn1 : rn = R.length := HR.out.2
              have hP : pickOf L base ratio = (lv, numsK L lv R, true) := by rw [HP.out, hRe]
              have hnk : numsK L lv R = R.map (·.nu) ++ ovL L (lv + 1) (loF z.f R) (hiF z.l R) := by rw [hzt]; rfl
              have HF := Lib.hid (And.intro hP (And.intro hnk (And.intro hRw (And.intro hrn1 hzt))))
              obtain ⟨g, cap', hv, hg, hz⟩ := own_fiAt (l := R) HO.out (i := 0) (show 0 < R.length by rw [hzt]; simp)
              injection hv with e1 e2 e3
              subst e1
              have hR0 : R[0]'(show 0 < R.length by rw [hzt]; simp) = z := by simp [hzt]
              rw [hR0] at hz
              obtain ⟨-, -, -, -, z4, z5⟩ := hz
              simp only [Nat.zero_mul, Nat.zero_add] at z4 z5
              have hrp : 0 < rn := by rw [hrn1, hzt]; simp
              have q1 : (0 : Int) < (rn : Int) := by omega
              clear e2 e3 hR0 htk hRe hzt hRw hrn1 hP hnk hbel
              obtain ⟨wd, rfl⟩ : ∃ wd, wd = wr := ⟨_, rfl⟩
              go_wp2
              go_quiet (fail)
              go_wp2
              go_loopw [14, 15, 16, 17] (fun v fv lvv y wr => ∃ j : Nat, j ≤ rn ∧ y = .int .i64 (j : Int) ∧ fv = .string (loF z.f (R.take j)) ∧ lvv = .string (hiF z.l (R.take j)) ∧ Own eInt wr wd.heap.size v ((R.take j).map (·.nu)) ∧ Below wd.heap.size wd wr) (fun _ _ _ y _ => rn - (intOf y).toNat)
              case atStart => exact ⟨0, by omega, rfl, rfl, rfl, World.ownsRow_nil _ _ _ _, below_drewN (Below.refl _ _) _⟩
              case round =>
                obtain ⟨j, hj, rfl, rfl, rfl, hown2, hbel2⟩ := hrel
                have hml : ((R.take j).map (·.nu)).length = j := by rw [List.length_map, List.length_take]; have := HF.out.2.2.2.1; omega
                obtain ⟨am, mc, rfl, _, _⟩ := row_form hown2
                rw [hml] at hown2 ⊢
                obtain ⟨fk, hfk⟩ : ∃ fk, fk = loF z.f (R.take j) := ⟨_, rfl⟩
                obtain ⟨lk, hlk⟩ : ∃ lk, lk = hiF z.l (R.take j) := ⟨_, rfl⟩
                have hzR : z ∈ R := by rw [HF.out.2.2.2.2]; exact List.mem_cons_self
                have hfs : fk.size ≤ maxLen := by rw [hfk]; exact loF_sz _ _ (HF.out.2.2.1 z hzR).2.2.2.2.1 (fun y hy => (HF.out.2.2.1 y (List.mem_of_mem_take hy)).2.2.2.2.1)
                have hls : lk.size ≤ maxLen := by rw [hlk]; exact hiF_sz _ _ (HF.out.2.2.1 z hzR).2.2.2.2.2 (fun y hy => (HF.out.2.2.1 y (List.mem_of_mem_take hy)).2.2.2.2.2)
                rw [← hfk, ← hlk]
                have HO2 := Lib.hid hown2
                have HB2 := Lib.hid hbel2
                have HML := Lib.hid hml
                have HKK := Lib.hid (And.intro hfk hlk)
                have HSZ := Lib.hid (And.intro hfs hls)
                clear hown2 hbel2 hml hfk hlk hzR hfs hls
                by_cases hlt2 : j < rn
                · have hjR : j < R.length := by have := HF.out.2.2.2.1; omega
                  obtain ⟨g', cap'', hv, hg', hx⟩ := own_fiAt (l := R) HO.out (i := j) hjR
                  injection hv with i1 i2 i3
                  injection i1 with i1
                  injection i1 with i1
                  subst i1
                  clear i2 i3
                  have hx2 := hx
                  have hs1 := loF_snoc R j hjR z.f
                  have hs2 := hiF_snoc R j hjR z.l
                  have hs3 : (R.take (j + 1)).map (·.nu) = (R.take j).map (·.nu) ++ [R[j].nu] := by rw [List.take_succ_eq_append_getElem hjR, List.map_append]; rfl
                  have hwx := HF.out.2.2.1 R[j] (List.getElem_mem hjR)
                  obtain ⟨x, hxx⟩ : ∃ x, R[j] = x := ⟨_, rfl⟩
                  rw [hxx] at hx2 hs1 hs2 hs3 hwx
                  rw [← HKK.out.1] at hs1
                  rw [← HKK.out.2] at hs2
                  obtain ⟨-, k1, -, -, k4, k5⟩ := hx2
                  have c1 := (HB2.out.cell (p := ⟨g, j * 6 + 1, none⟩) hg').trans k1
                  have HS3 := Lib.hid hs3
                  obtain ⟨m1, hm1⟩ : ∃ m1, kcmp x.f fk = m1 := ⟨_, rfl⟩
                  obtain ⟨m2, hm2⟩ : ∃ m2, kcmp x.l lk = m2 := ⟨_, rfl⟩
                  rw [hm1] at hs1
                  rw [hm2] at hs2
                  have hcall1 := fun W => refcompare_any x.f fk W hwx.2.2.2.2.1 HSZ.out.1
                  have hcall2 := fun W => refcompare_any x.l lk W hwx.2.2.2.2.2 HSZ.out.2
                  have e1 : Lib.compareBytes x.f.data.toList fk.data.toList = m1 := hm1
                  have e2 : Lib.compareBytes x.l.data.toList lk.data.toList = m2 := hm2
                  rw [e1] at hcall1
                  rw [e2] at hcall2
                  have HC1 := Lib.hid hcall1
                  have HC2 := Lib.hid hcall2
                  have hd1 : (decide (m1 < 0) = true ∧ Hid (loF z.f (R.take (j + 1)) = x.f)) ∨ (decide (m1 < 0) = false ∧ Hid (loF z.f (R.take (j + 1)) = fk)) := by
                    by_cases h : m1 < 0
                    · exact .inl ⟨by simpa using h, by unfold Hid; rw [hs1, if_pos h]⟩
                    · exact .inr ⟨by simpa using h, by unfold Hid; rw [hs1, if_neg h]⟩
                  have hd2 : (decide (0 < m2) = true ∧ Hid (hiF z.l (R.take (j + 1)) = x.l)) ∨ (decide (0 < m2) = false ∧ Hid (hiF z.l (R.take (j + 1)) = lk)) := by
                    by_cases h : 0 < m2
                    · exact .inl ⟨by simpa using h, by unfold Hid; rw [hs2, if_pos h]⟩
                    · exact .inr ⟨by simpa using h, by unfold Hid; rw [hs2, if_neg h]⟩
                  obtain ⟨xn, hxn⟩ : ∃ xn, x.nu = xn := ⟨_, rfl⟩
                  rw [hxn] at c1
                  have HXN := Lib.hid hxn
                  obtain ⟨W1, hW1⟩ : ∃ W1, wr.alloc (.cells #[.int .i64 xn] 3) = W1 := ⟨_, rfl⟩
                  have hsrc : Src eInt W1 (.slice (some ⟨wr.heap.size, 0, none⟩) 1 1) [xn] := by rw [← hW1]; exact src_one wr xn _ _ rfl 1
                  have ho1 : Own eInt W1 wd.heap.size (.slice am j mc) ((R.take j).map (·.nu)) := by rw [← hW1]; exact World.ownsRow.alloc HO2.out _
                  have hb1 : Below wd.heap.size wd W1 := by rw [← hW1]; exact HB2.out.alloc HB2.out.size _
                  have H1 := Lib.hid (And.intro ho1 (And.intro hb1 hsrc))
                  have HGD := Lib.hid hg'
                  have q2 : (j : Int) < (rn : Int) := by omega
                  clear hx hxx hs1 hs2 hs3 hwx hm1 hm2 hcall1 hcall2 hxn hsrc ho1 hb1 hg' k1 e1 e2
                  have HK45 := Lib.hid (And.intro k4 k5)
                  clear k4 k5
                  rcases hd1 with ⟨t7, HL1⟩ | ⟨t7, HL1⟩
                  all_goals
                    rcases hd2 with ⟨t8, HL2⟩ | ⟨t8, HL2⟩
                    all_goals
                      go_wp2_with (first
                        | (go_at_call 27; with_reducible refine (HC1.out _).mono ?_; rintro _ w7 ⟨rfl, hb7⟩; have HB7 := Lib.hid (HB6.out.trans (hb7.mono HB6.out.size)); have HO7 := Lib.hid (row_below HO6.out hb7); have f4 := (HB7.out.cell (p := ⟨g, j * 6 + 4, none⟩) HGD.out).trans HK45.out.1; have f5 := (HB7.out.cell (p := ⟨g, j * 6 + 5, none⟩) HGD.out).trans HK45.out.2; clear hb7; simp only [])
                        | (go_at_call 27; with_reducible refine (HC2.out _).mono ?_; rintro _ w8 ⟨rfl, hb8⟩; have HB8 := Lib.hid (HB7.out.trans (hb8.mono HB7.out.size)); have HO8 := Lib.hid (row_below HO7.out hb8); have y5 := (HB8.out.cell (p := ⟨g, j * 6 + 5, none⟩) HGD.out).trans HK45.out.2; clear hb8; simp only [])
                        | (at_builtin; refine wpl_app eInt rfl _ _ rfl rfl rfl H1.out.1 H1.out.2.2 (by rw [HML.out]; simp; omega) H1.out.2.1.size ?_; rw [HML.out]; intro a6 cap6 w6 ho6 hb6 _ _; have HO6 := Lib.hid ho6; have HB6 := Lib.hid (H1.out.2.1.trans hb6); have d4 := (HB6.out.cell (p := ⟨g, j * 6 + 4, none⟩) HGD.out).trans HK45.out.1; have d5 := (HB6.out.cell (p := ⟨g, j * 6 + 5, none⟩) HGD.out).trans HK45.out.2; clear ho6 hb6))
                      go_roundw
                      case rel => exact ⟨_, _, _, _, ⟨j + 1, by omega, rfl, by rw [HL1.out], by rw [HL2.out], by rw [← List.map_take, HS3.out, HXN.out]; exact HO8.out, HB8.out⟩, rfl, rfl, rfl, by go_num⟩
                      case measure => simp [intOf]; omega
                · obtain rfl : j = rn := by omega
                  have htk : R.take j = R := List.take_of_length_le (by have := HF.out.2.2.2.1; omega)
                  rw [htk] at HO2 HKK
                  have hnn : pickOf L base ratio = (lv, R.map (·.nu) ++ ovL L (lv + 1) fk lk, true) := by rw [HF.out.1, HF.out.2.1, HKK.out.1, HKK.out.2]
                  have HPP := Lib.hid hnn
                  have hbw : Below w.heap.size w wr := HB.out.trans (HB2.out.mono HB.out.size)
                  have hol := roverlap_any (HL.out.below hbw) (fun y hy => ⟨(HWF.out y hy).2.2.2.2.1, (HWF.out y hy).2.2.2.2.2⟩) cap HLN.out (lv + 1) fk lk HSZ.out.1 HSZ.out.2
                  rw [← HN.out] at hol
                  have HOL := Lib.hid hol
                  have HBW := Lib.hid hbw
                  have hml2 : (R.map (·.nu)).length = j := by rw [List.length_map]; exact HF.out.2.2.2.1.symm
                  have HML2 := Lib.hid hml2
                  have hovl := ovL_len L (lv + 1) fk lk
                  have HOVL := Lib.hid (show (ovL L (lv + 1) fk lk).length ≤ 100000 by have := HLN.out; omega)
                  obtain ⟨ovn, hovn⟩ : ∃ ovn, ovn = (ovL L (lv + 1) fk lk).length := ⟨_, rfl⟩
                  rw [← hovn] at HOL
                  have HOVN := Lib.hid hovn
                  clear htk hnn hbw hol hml2 hovl hovn
                  go_wp2_with (first
                    | (go_at_call 13; refine HOL.out.mono ?_; rintro _ w7 ⟨a7, cap7, rfl, ho7, hb7⟩; have HO7 := Lib.hid (And.intro ho7 hb7); have HR7 := Lib.hid (row_mono (row_below HO2.out hb7) HB.out.size); have HB7 := Lib.hid (HBW.out.trans (hb7.mono HBW.out.size)); clear ho7 hb7; simp only [])
                    | (at_builtin; refine wpl_app eInt rfl _ _ rfl rfl rfl (l := R.map (·.nu)) (l2 := ovL L (lv + 1) fk lk) HR7.out (Own.src HO7.out.1) (by rw [HML2.out]; have := HOVL.out; omega) HB7.out.size ?_; rw [HML2.out]; intro a8 cap8 w8 ho8 hb8 _ _; have H8 := Lib.hid (And.intro ho8 (HB7.out.trans hb8)); clear ho8 hb8))
                  go_ret3
                  rw [HPP.out]
                  have hfl : (R.map (·.nu) ++ ovL L (lv + 1) fk lk).length = j + (ovL L (lv + 1) fk lk).length := by rw [List.length_append, HML2.out]
                  refine ⟨a8, cap8, ?_, ?_, H8.out.2⟩
                  · simp only []
                    rw [hfl]
                    rfl
                  · simp only []
                    rw [hfl]
                    exact H8.out.1
end Go.Proofs.YtnfpnmfgppamgaaGreat
