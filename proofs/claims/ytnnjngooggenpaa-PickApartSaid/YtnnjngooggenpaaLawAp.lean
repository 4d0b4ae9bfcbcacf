/-
  The law PickApart's walk.
-/
import Derived.Test.YtnnjngooggenpaaApartP
import Derived.Deep.DeepCutAuto
namespace Go.Proofs.Ytnnjngooggenpaa
open Go.RowKit

theorem less2 (p q : ByteArray) : (∃ b, Op.bytesLess p.toList q.toList = b ∧ (p.toList == q.toList) = !b) ∨ (Op.bytesLess p.toList q.toList = false ∧ (p.toList == q.toList) = false) := by
  rcases less3 p q with ⟨_, h1, h2⟩ | ⟨_, h1, h2⟩ | ⟨_, h1, h2⟩
  · exact .inl ⟨true, h1, h2⟩
  · exact .inl ⟨false, h1, h2⟩
  · exact .inr ⟨h1, h2⟩
theorem pick_len (L : List Fi) (base ratio : Nat) : (pickOf L base ratio).2.1.length ≤ 2 * L.length := by
  unfold pickOf
  simp only []
  split
  · simp
  · show (numsK L _ (inK _ (ofL L _))).length ≤ _
    generalize (pkSt (sc L base ratio) 6).1 = lv
    obtain ⟨p, q, e, _⟩ := numsK_form L lv (inK lv (ofL L lv))
    rw [e, List.length_append, List.length_map]
    have h1 : (inK lv (ofL L lv)).length ≤ L.length := by
      have := ofL_len L lv
      cases h : ofL L lv with
      | nil => simp [inK]
      | cons y K =>
        rw [h] at this
        rw [inK_cons]
        split
        · simp at this ⊢; omega
        · exact this
    have h2 := ovL_len L (lv + 1) p q
    split <;> simp at * <;> omega
theorem picked_len (m : List Int) (n : Int) (L : List Fi) : (picked m n L).length ≤ L.length := List.length_filter_le _ _
/-- The first i have numbers apart. -/
def DistTo (L : List Fi) (i : Nat) : Prop := ∀ p q (hp : p < L.length) (hq : q < L.length), p < i → q < p → L[p].nu ≠ L[q].nu
theorem DistTo.all {L : List Fi} (h : DistTo L L.length) : Distinct L := by
  intro i k hi hk e
  rcases Nat.lt_trichotomy i k with h1 | h1 | h1
  · exact absurd e.symm (h k i hk hi hk h1)
  · exact h1
  · exact absurd e (h i k hi hk hi h1)
theorem DistTo.next {L : List Fi} {i : Nat} (h : DistTo L i) (hi : i < L.length) (hn : ∀ q (hq : q < L.length), q < i → L[i].nu ≠ L[q].nu) : DistTo L (i + 1) := by
  intro p q hp hq h1 h2
  rcases Nat.lt_or_ge p i with h3 | h3
  · exact h p q hp hq h3 h2
  · obtain rfl : p = i := by omega
    exact hn q hq h2

set_option maxRecDepth 100000 in
set_option maxHeartbeats 8000000 in
theorem apart_law (a : Option Addr) (len cap : Nat) (l : List Fi) (base ratio : Nat) {W : World} (hl : FilesIn W a len cap l) (hlen : len ≤ maxLen) (_ : (Lit.float .f64 base).wf = true) (_ : (Lit.float .f64 ratio).wf = true) (w : World) (hWw : W = w) :
    Calls Try.prog 3 #[.slice a len cap, .float .f64 base, .float .f64 ratio] w fun e w' => e = .returned (.bool true) ∧ Below w.heap.size w w' := by
  subst hWw
  unfold maxLen at hlen
  obtain ⟨hll, hat, _, _⟩ := hl
  generalize hw : W = w at *
  clear hw
  have HA := Lib.hid (And.intro hll hat)
  clear hll hat
  have hal : (∀ w', Calls Try.prog 6 #[] w' fun e w'' => e = .returned (.bool true) ∧ Below w'.heap.size w' w'') := alive_any
  have HAL := Lib.hid hal
  clear hal
  by_cases hbig : 60 < len
  · have t1 : decide ((60 : Int) < (len : Int)) = true := by simp; omega
    clear hbig
    go_enter Try.func3, Try.ntmps3
    go_wp2_with (go_at_call 6; refine (HAL.out _).mono ?_; rintro e w2 ⟨rfl, hb⟩; have HBZ := Lib.hid hb; clear hb)
    go_ret
    exact ⟨rfl, HBZ.out⟩
  · have t1 : decide ((60 : Int) < (len : Int)) = false := by simp; omega
    have hle : len ≤ 60 := by omega
    have hget : ∀ (W : World), Below w.heap.size w W → ∀ i (hi : i < l.length), ∃ b off, a = some ⟨b, off, none⟩ ∧ l[i].here W b (off + i * 6) := fun W hb i hi => by
      rcases HA.out.2 with h | ⟨b, off, h, hlt, hc⟩
      · rw [h] at hi; simp at hi
      · exact ⟨b, off, h, (hc i hi).below hb hlt⟩
    have HGET := Lib.hid hget
    have hpk : ∀ W, Below w.heap.size w W → Calls Try.prog 7 #[.slice a len cap, .float .f64 base, .float .f64 ratio] W fun e w' =>
      ∃ a' cap', e = .returned (.tuple #[.int .i64 (pickOf l base ratio).1, .slice a' (pickOf l base ratio).2.1.length cap', .bool (pickOf l base ratio).2.2]) ∧ OwnI w' W.heap.size (.slice a' (pickOf l base ratio).2.1.length cap') (pickOf l base ratio).2.1 ∧ Below W.heap.size W w' := fun W hb => by
      have h := pick_any (HA.out.2.below hb) cap (by rw [HA.out.1]; omega) base ratio
      rw [HA.out.1] at h
      exact h
    have HPK := Lib.hid hpk
    clear hbig hget hpk
    go_enter Try.func3, Try.ntmps3
    go_wp2
    go_loopw [7] (fun iv wr => ∃ i : Nat, i ≤ len ∧ iv = .int .i64 (i : Int) ∧ DistTo l i ∧ Below w.heap.size w wr) (fun iv _ => len - (intOf iv).toNat)
    case atStart => exact ⟨0, by omega, rfl, fun p q _ _ h => by omega, Below.refl _ _⟩
    case round =>
      obtain ⟨i, hi, rfl, hdist, hbel⟩ := hrel
      have HD := Lib.hid hdist
      have HB := Lib.hid hbel
      clear hdist hbel
      by_cases hlt : i < len
      · have hil : i < l.length := by rw [HA.out.1]; exact hlt
        obtain ⟨b, off, rfl, hx⟩ := HGET.out wr HB.out i hil
        obtain ⟨x, hxx⟩ : ∃ x, l[i] = x := ⟨_, rfl⟩
        rw [hxx] at hx
        have HX := Lib.hid hxx
        obtain ⟨c0, c1, c2, c3, c4, c5⟩ := hx
        have r1 : (i : Int) < (len : Int) := by omega
        clear hxx
        go_upto_region 6 with fail
        go_cut [53] (fun t wc => ∃ c, t = .bool c ∧ True ∧ Below w.heap.size w wc)
        case first =>
          rcases less2 x.f x.l with ⟨b1, s1, s2⟩ | ⟨s1, s2⟩
          rotate_left
          · as_aux_lemma =>
              go_wp2
              go_quiet (fail)
              go_wp2
              go_meet
              exact ⟨_, rfl, trivial, below_drewN HB.out _⟩
          by_cases h1 : x.lv < 0
          · have t1 : decide (x.lv < 0) = true := by simpa using h1
            clear h1
            as_aux_lemma =>
              go_wp2
              go_quiet (fail)
              go_wp2
              go_meet
              exact ⟨_, rfl, trivial, below_drewN HB.out _⟩
          · have t1 : decide (x.lv < 0) = false := by simpa using h1
            clear h1
            as_aux_lemma =>
              go_wp2
              go_quiet (fail)
              go_wp2
              go_meet
              exact ⟨_, rfl, trivial, below_drewN HB.out _⟩
        case rest =>
          obtain ⟨c, rfl, _, hbc⟩ := hcut
          have HB := Lib.hid hbc
          clear hbc c0 c1 c2 c3 c4 c5
          cases c with
          | true =>
            as_aux_lemma =>
              go_wp2_with (go_at_call 6; refine (HAL.out _).mono ?_; rintro e w2 ⟨rfl, hb⟩; have HBZ := Lib.hid hb; clear hb)
              go_ret
              exact ⟨rfl, HB.out.trans (HBZ.out.mono HB.out.size)⟩
          | false =>
            go_wp2
            go_loopw [8] (fun kv wr => ∃ k : Nat, k ≤ i ∧ kv = .int .i64 (k : Int) ∧ (∀ q (hq : q < l.length), q < k → x.nu ≠ l[q].nu) ∧ Below w.heap.size w wr) (fun kv _ => i - (intOf kv).toNat)
            case atStart => exact ⟨0, by omega, rfl, fun q _ h => by omega, HB.out⟩
            case round =>
              obtain ⟨k, hk, rfl, hdif, hbel⟩ := hrel
              have HDF := Lib.hid hdif
              have HB := Lib.hid hbel
              by_cases hlk : k < i
              · obtain ⟨b', off', hbo, hx⟩ := HGET.out _ HB.out i hil
                simp only [Option.some.injEq, Addr.mk.injEq, and_true] at hbo
                obtain ⟨rfl, rfl⟩ := hbo
                have hkl : k < l.length := by omega
                obtain ⟨b', off', hbo, hy⟩ := HGET.out _ HB.out k hkl
                simp only [Option.some.injEq, Addr.mk.injEq, and_true] at hbo
                obtain ⟨rfl, rfl⟩ := hbo
                rw [HX.out] at hx
                obtain ⟨y, hyy⟩ : ∃ y, l[k] = y := ⟨_, rfl⟩
                rw [hyy] at hy
                have HY := Lib.hid hyy
                obtain ⟨c0, c1, c2, c3, c4, c5⟩ := hx
                obtain ⟨d0, d1, d2, d3, d4, d5⟩ := hy
                have r2 : (k : Int) < (len : Int) := by omega
                clear hyy hdif hbel
                go_upto_region 11 with fail
                go_cut [117] (fun t wc => ∃ c, t = .bool c ∧ (c = false → x.nu ≠ y.nu) ∧ Below w.heap.size w wc)
                case first =>
                  by_cases e1 : x.nu = y.nu
                  · have t1 : (x.nu == y.nu) = true := by simpa using e1
                    clear e1
                    as_aux_lemma =>
                      go_wp2
                      go_quiet (fail)
                      go_wp2
                      go_meet
                      exact ⟨true, rfl, (fun h => by cases h), below_drewN HB.out _⟩
                  · have t1 : (x.nu == y.nu) = false := by simpa using e1
                    have HNE : Hid (x.nu ≠ y.nu) := e1
                    by_cases e2 : x.lv = y.lv
                    · have t2 : (x.lv == y.lv) = true := by simpa using e2
                      clear e1 e2
                      by_cases e3 : 0 < x.lv
                      · have t3 : decide (0 < x.lv) = true := by simpa using e3
                        clear e3
                        rcases less2 x.f y.l with ⟨b1, s1, s2⟩ | ⟨s1, s2⟩
                        · as_aux_lemma =>
                            go_wp2
                            go_quiet (fail)
                            go_wp2
                            go_meet
                            exact ⟨_, rfl, fun _ => HNE.out, below_drewN HB.out _⟩
                        · as_aux_lemma =>
                            go_wp2
                            go_quiet (fail)
                            go_wp2
                            go_meet
                            exact ⟨_, rfl, fun _ => HNE.out, below_drewN HB.out _⟩
                      · have t3 : decide (0 < x.lv) = false := by simpa using e3
                        clear e3
                        as_aux_lemma =>
                          go_wp2
                          go_quiet (fail)
                          go_wp2
                          go_meet
                          exact ⟨_, rfl, fun _ => HNE.out, below_drewN HB.out _⟩
                    · have t2 : (x.lv == y.lv) = false := by simpa using e2
                      clear e1 e2
                      as_aux_lemma =>
                        go_wp2
                        go_quiet (fail)
                        go_wp2
                        go_meet
                        exact ⟨_, rfl, fun _ => HNE.out, below_drewN HB.out _⟩
                case rest =>
                  obtain ⟨c, rfl, hne, hbc⟩ := hcut
                  have HB := Lib.hid hbc
                  have HNE := Lib.hid hne
                  clear hbc hne c0 c1 c2 c3 c4 c5 d0 d1 d2 d3 d4 d5
                  cases c with
                  | true =>
                    as_aux_lemma =>
                      go_wp2_with (go_at_call 6; refine (HAL.out _).mono ?_; rintro e w2 ⟨rfl, hb⟩; have HBZ := Lib.hid hb; clear hb)
                      go_ret
                      exact ⟨rfl, HB.out.trans (HBZ.out.mono HB.out.size)⟩
                  | false =>
                    have hdn : ∀ q (hq : q < l.length), q < k + 1 → x.nu ≠ l[q].nu := fun q hq h => by
                      rcases Nat.lt_or_ge q k with h1 | h1
                      · exact HDF.out q hq h1
                      · obtain rfl : q = k := by omega
                        rw [HY.out]
                        exact HNE.out rfl
                    have HDN := Lib.hid hdn
                    clear hdn
                    go_wp2
                    go_roundw
                    case rel => exact ⟨k + 1, by omega, by go_num, HDN.out, HB.out⟩
                    case measure => simp [intOf]; omega
              · obtain rfl : k = i := by omega
                have hnx : DistTo l (k + 1) := HD.out.next hil (fun q hq h => by rw [HX.out]; exact HDF.out q hq h)
                have HNX := Lib.hid hnx
                clear hdif hbel hnx
                go_wp2
                go_roundw
                case rel => exact ⟨k + 1, by omega, by go_num, HNX.out, HB.out⟩
                case measure => simp [intOf]; omega
      · obtain rfl : i = len := by omega
        have hdd : Distinct l := by have h := HD.out; rw [← HA.out.1] at h; exact h.all
        have HDD := Lib.hid hdd
        clear hdd
        go_wp2_with fail
        refine (HPK.out _ HB.out).mono ?_
        rintro _ w3 ⟨am, capm, rfl, hom, hb3⟩
        simp only []
        have HB3 := Lib.hid (HB.out.trans (hb3.mono HB.out.size))
        have hsay := fun h => apart_says (base := base) (ratio := ratio) HDD.out h
        have hnone := fun h => pick_false (L := l) (base := base) (ratio := ratio) h
        obtain ⟨n, hn⟩ : ∃ n, n = (pickOf l base ratio).1 := ⟨_, rfl⟩
        obtain ⟨m, hm⟩ : ∃ m, m = (pickOf l base ratio).2.1 := ⟨_, rfl⟩
        obtain ⟨ok, hok⟩ : ∃ ok, ok = (pickOf l base ratio).2.2 := ⟨_, rfl⟩
        rw [← hn, ← hm, ← hok] at hsay hnone
        rw [← hm] at hom
        rw [← hn, ← hm, ← hok]
        obtain ⟨mn, hmn⟩ : ∃ mn, mn = m.length := ⟨_, rfl⟩
        rw [← hmn] at hom ⊢
        have HOM := Lib.hid hom
        have HMN := Lib.hid hmn
        have hml : m.length ≤ 1000000 := by rw [hm]; have := pick_len l base ratio; have := HA.out.1; omega
        have HML := Lib.hid hml
        clear hb3 hn hm hok hom hmn hml
        cases ok with
        | false =>
          obtain ⟨rfl, rfl⟩ := hnone rfl
          obtain rfl : mn = 0 := HMN.out
          clear hsay hnone
          as_aux_lemma =>
            go_wp2_with (go_at_call 6; refine (HAL.out _).mono ?_; rintro e w2 ⟨rfl, hb⟩; have HBZ := Lib.hid hb; clear hb)
            go_ret
            exact ⟨rfl, HB3.out.trans (HBZ.out.mono HB3.out.size)⟩
        | true =>
          have hs := hsay rfl
          have HS := Lib.hid hs
          clear hsay hnone hs
          have ham : ∀ W, Below w3.heap.size w3 W → ∀ v, Calls Try.prog 8 #[.slice am mn capm, .int .i64 v] W fun e w' => e = .returned (.bool (decide (v ∈ m))) ∧ W = w' := fun W hb v => among_any (row_below HOM.out hb) HMN.out HML.out v
          have HAM := Lib.hid ham
          have hwi : ∀ W, Below w3.heap.size w3 W → ∀ f : Fi, Calls Try.prog 9 #[.slice a i cap, .slice am mn capm, .int .i64 n, f.val] W fun e w' => e = .returned (.bool (inRange (stOf (picked m n l)) f)) ∧ Below W.heap.size W w' := fun W hb f =>
            within_any (HA.out.2.below (HB3.out.trans (hb.mono HB3.out.size))) HA.out.1.symm (by omega) (row_below HOM.out hb) HMN.out HML.out n f
          have HWI := Lib.hid hwi
          have hn0 := HS.out.lo
          have hn6 := HS.out.hi
          clear ham hwi
          go_wp2
          go_loop [12, 13, 14, 15] (fun p q c iv => ∃ (j : Nat) (sp sq : ByteArray), j ≤ i ∧ iv = .int .i64 (j : Int) ∧ p = .string sp ∧ q = .string sq ∧ c = .int .i64 ((picked m n (l.take j)).length : Int)) (fun _ _ _ iv => i - (intOf iv).toNat)
          case atStart => exact ⟨0, _, _, by omega, rfl, rfl, rfl, rfl⟩
          case round =>
            obtain ⟨j, sp, sq, hj, rfl, rfl, rfl, rfl⟩ := hrel
            have hcl := picked_len m n (l.take j)
            rw [List.length_take, HA.out.1] at hcl
            obtain ⟨cn, hcn⟩ : ∃ cn, cn = (picked m n (l.take j)).length := ⟨_, rfl⟩
            rw [← hcn] at hcl ⊢
            have hcn2 : cn ≤ 60 := by omega
            have HCN := Lib.hid hcn
            clear hcl hcn
            by_cases hlj : j < i
            · have hjl : j < l.length := by rw [HA.out.1]; exact hlj
              obtain ⟨b, off, rfl, hx⟩ := HGET.out w3 HB3.out j hjl
              have hps := picked_snoc m n l j hjl
              obtain ⟨x, hxx⟩ : ∃ x, l[j] = x := ⟨_, rfl⟩
              have hxm : x ∈ l := by rw [← hxx]; exact List.getElem_mem _
              rw [hxx] at hx hps
              obtain ⟨c0, c1, c2, c3, c4, c5⟩ := hx
              have HPS := Lib.hid hps
              have hcall := HAM.out w3 (Below.refl _ _) x.nu
              have r1 : (j : Int) < (i : Int) := by omega
              clear hxx hps
              by_cases hmem : x.nu ∈ m
              · rw [decide_eq_true hmem] at hcall
                have HCALL := Lib.hid hcall
                clear hcall
                rcases HS.out.level x hxm hmem with hlv | hlv
                · have t1 : (x.lv != n) = false := by simpa using hlv
                  have t2 : (x.lv == n) = true := by simpa using hlv
                  have HNX : Hid ((picked m n (l.take (j + 1))).length = cn + 1) := by unfold Hid; rw [HPS.out, if_pos ⟨hlv, hmem⟩, List.length_append, ← HCN.out]; rfl
                  clear hlv hmem hxm
                  as_aux_lemma =>
                    go_upto_region 26 with (go_at_call 8; refine HCALL.out.mono ?_; rintro e w' ⟨rfl, rfl⟩)
                    go_cut [189] (fun t wd => (∃ c, t = .bool c) ∧ wd = w3)
                    case first =>
                      go_wp2
                      all_goals
                        go_meet
                        exact ⟨⟨_, rfl⟩, rfl⟩
                    case rest =>
                      obtain ⟨⟨c, rfl⟩, rfl⟩ := hcut
                      go_upto_if 189 with fail
                      go_cut [12] (fun t wd => (∃ s, t = .string s) ∧ wd = wc)
                      case first =>
                        cases c
                        all_goals
                          go_wp2
                          go_meet
                          exact ⟨⟨_, rfl⟩, rfl⟩
                      case rest =>
                        obtain ⟨⟨s1, rfl⟩, rfl⟩ := hcut
                        go_upto_region 28 with fail
                        go_cut [205] (fun t wd => (∃ c, t = .bool c) ∧ wd = wc)
                        case first =>
                          go_wp2
                          all_goals
                            go_meet
                            exact ⟨⟨_, rfl⟩, rfl⟩
                        case rest =>
                          obtain ⟨⟨cb, rfl⟩, rfl⟩ := hcut
                          cases cb
                          all_goals
                            go_wp2
                            go_round
                            case rel => exact ⟨j + 1, _, _, by omega, by go_num, rfl, rfl, by rw [HNX.out]; go_num⟩
                            case measure => simp [intOf]; omega
                · have t1 : (x.lv != n) = true := by simp; omega
                  have t2 : (x.lv == n) = false := by simp; omega
                  have t3 : (x.lv != n + 1) = false := by simpa using hlv
                  have HNX : Hid ((picked m n (l.take (j + 1))).length = cn) := by unfold Hid; rw [HPS.out, if_neg (by omega), List.append_nil, ← HCN.out]
                  clear hlv hmem hxm
                  as_aux_lemma =>
                    go_upto_region 26 with (go_at_call 8; refine HCALL.out.mono ?_; rintro e w' ⟨rfl, rfl⟩)
                    go_cut [189] (fun t wd => (∃ c, t = .bool c) ∧ wd = w3)
                    case first =>
                      go_wp2
                      all_goals
                        go_meet
                        exact ⟨⟨_, rfl⟩, rfl⟩
                    case rest =>
                      obtain ⟨⟨c, rfl⟩, rfl⟩ := hcut
                      go_upto_if 189 with fail
                      go_cut [12] (fun t wd => (∃ s, t = .string s) ∧ wd = wc)
                      case first =>
                        cases c
                        all_goals
                          go_wp2
                          go_meet
                          exact ⟨⟨_, rfl⟩, rfl⟩
                      case rest =>
                        obtain ⟨⟨s1, rfl⟩, rfl⟩ := hcut
                        go_upto_region 28 with fail
                        go_cut [205] (fun t wd => (∃ c, t = .bool c) ∧ wd = wc)
                        case first =>
                          go_wp2
                          all_goals
                            go_meet
                            exact ⟨⟨_, rfl⟩, rfl⟩
                        case rest =>
                          obtain ⟨⟨cb, rfl⟩, rfl⟩ := hcut
                          cases cb
                          all_goals
                            go_wp2
                            go_round
                            case rel => exact ⟨j + 1, _, _, by omega, by go_num, rfl, rfl, by rw [HNX.out]⟩
                            case measure => simp [intOf]; omega
              · rw [decide_eq_false hmem] at hcall
                have HCALL := Lib.hid hcall
                have HNX : Hid ((picked m n (l.take (j + 1))).length = cn) := by unfold Hid; rw [HPS.out, if_neg (fun h => hmem h.2), List.append_nil, ← HCN.out]
                clear hcall hmem hxm
                as_aux_lemma =>
                  go_wp2_with (go_at_call 8; refine HCALL.out.mono ?_; rintro e w' ⟨rfl, rfl⟩)
                  go_round
                  case rel => exact ⟨j + 1, _, _, by omega, by go_num, rfl, rfl, by rw [HNX.out]⟩
                  case measure => simp [intOf]; omega
            · obtain rfl : j = i := by omega
              have hce : cn = (picked m n l).length := by rw [HCN.out, List.take_of_length_le (by rw [HA.out.1]; omega)]
              have hc0 : 0 < cn := by rw [hce]; exact HS.out.some_
              have hc1 : 0 < n → cn = 1 := fun h => by rw [hce]; exact HS.out.one h
              have t1 : ((cn : Int) == 0) = false := by simp; omega
              have t1b : (cn == 0) = false := by simp; omega
              have HCE := Lib.hid hce
              clear hce hlj
              have t4 : ∃ bn : Bool, decide (0 < n) = bn ∧ ((cn : Int) != 1) = !bn ∨ decide (0 < n) = false := by
                by_cases h : 0 < n
                · exact ⟨true, .inl ⟨by simpa using h, by have := hc1 h; simp; omega⟩⟩
                · exact ⟨false, .inr (by simpa using h)⟩
              clear t4
              go_upto_region 30 with fail
              go_cut [220] (fun t wc => t = .bool false ∧ wc = w3)
              case first =>
                by_cases h : 0 < n
                · have t2 : decide (0 < n) = true := by simpa using h
                  have t3 : ((cn : Int) != 1) = false := by have := hc1 h; simp; omega
                  have t3b : (cn != 1) = false := by have := hc1 h; simp; omega
                  clear hc1 h
                  go_wp2
                  go_meet
                  exact ⟨rfl, rfl⟩
                · have t2 : decide (0 < n) = false := by simpa using h
                  clear hc1 h
                  go_wp2
                  go_meet
                  exact ⟨rfl, rfl⟩
              case rest =>
                obtain ⟨rfl, rfl⟩ := hcut
                clear hc0 hc1 t1 t1b
                go_wp2
                go_loopw [16] (fun iv wr => ∃ k : Nat, k ≤ j ∧ iv = .int .i64 (k : Int) ∧ Below wc.heap.size wc wr) (fun iv _ => j - (intOf iv).toNat)
                case atStart => exact ⟨0, by omega, rfl, Below.refl _ _⟩
                case round =>
                  obtain ⟨k, hk, rfl, hbel⟩ := hrel
                  have HBR := Lib.hid hbel
                  clear hbel
                  by_cases hlk : k < j
                  · have hkl : k < l.length := by rw [HA.out.1]; exact hlk
                    obtain ⟨b, off, rfl, hx⟩ := HGET.out wr (HB3.out.trans (HBR.out.mono HB3.out.size)) k hkl
                    obtain ⟨x, hxx⟩ : ∃ x, l[k] = x := ⟨_, rfl⟩
                    have hxm : x ∈ l := by rw [← hxx]; exact List.getElem_mem _
                    rw [hxx] at hx
                    obtain ⟨c0, c1, c2, c3, c4, c5⟩ := hx
                    have hcall := HAM.out wr HBR.out x.nu
                    have hwcall := HWI.out wr HBR.out x
                    unfold Fi.val at hwcall
                    have r1 : (k : Int) < (j : Int) := by omega
                    clear hxx
                    by_cases hlv : x.lv = n
                    · have t2 : (x.lv == n) = true := by simpa using hlv
                      have t3 : (x.lv == n + 1) = false := by simp; omega
                      by_cases hmem : x.nu ∈ m
                      · rw [decide_eq_true hmem] at hcall
                        have HCALL := Lib.hid hcall
                        clear hcall hwcall hmem hlv hxm
                        as_aux_lemma =>
                          go_wp2_with (go_at_call 8; refine HCALL.out.mono ?_; rintro e w' ⟨rfl, rfl⟩)
                          go_roundw
                          case rel => exact ⟨k + 1, by omega, by go_num, HBR.out⟩
                          case measure => simp [intOf]; omega
                      · have t4 : (n == 0) = false := by
                          rw [beq_eq_false_iff_ne]
                          intro h0
                          exact hmem (HS.out.all h0 x hxm (by omega))
                        rw [decide_eq_false hmem] at hcall
                        have HCALL := Lib.hid hcall
                        clear hcall hwcall hmem hlv hxm
                        as_aux_lemma =>
                          go_wp2_with (go_at_call 8; refine HCALL.out.mono ?_; rintro e w' ⟨rfl, rfl⟩)
                          go_roundw
                          case rel => exact ⟨k + 1, by omega, by go_num, HBR.out⟩
                          case measure => simp [intOf]; omega
                    · have t2 : (x.lv == n) = false := by simpa using hlv
                      by_cases hlv2 : x.lv = n + 1
                      · have t3 : (x.lv == n + 1) = true := by simpa using hlv2
                        by_cases hmem : x.nu ∈ m
                        · rw [decide_eq_true hmem] at hcall
                          have HCALL := Lib.hid hcall
                          clear hcall hwcall hmem hlv hlv2 hxm
                          as_aux_lemma =>
                            go_wp2_with (go_at_call 8; refine HCALL.out.mono ?_; rintro e w' ⟨rfl, rfl⟩)
                            go_roundw
                            case rel => exact ⟨k + 1, by omega, by go_num, HBR.out⟩
                            case measure => simp [intOf]; omega
                        · rw [decide_eq_false hmem] at hcall
                          have HCALL := Lib.hid hcall
                          by_cases h0 : n = 0
                          · have t4 : (n == 0) = true := by simpa using h0
                            rw [HS.out.rest h0 x hxm (by omega) hmem] at hwcall
                            have HWC := Lib.hid hwcall
                            clear hcall hwcall hmem hlv hlv2 hxm h0
                            rcases less2 x.f sq with ⟨b1, s1, s2⟩ | ⟨s1, s2⟩
                            · rcases Bool.eq_false_or_eq_true (Op.bytesLess x.l.toList sp.toList) with s3 | s3
                              all_goals
                                as_aux_lemma =>
                                  go_wp2_with (first | (go_at_call 8; refine HCALL.out.mono ?_; rintro e w' ⟨rfl, rfl⟩) | (go_at_call 9; refine HWC.out.mono ?_; rintro e w5 ⟨rfl, hb5⟩; have HBR := Lib.hid (HBR.out.trans (hb5.mono HBR.out.size)); clear hb5))
                                  go_roundw
                                  case rel => exact ⟨k + 1, by omega, by go_num, HBR.out⟩
                                  case measure => simp [intOf]; omega
                            · as_aux_lemma =>
                                go_wp2_with (go_at_call 8; refine HCALL.out.mono ?_; rintro e w' ⟨rfl, rfl⟩)
                                go_roundw
                                case rel => exact ⟨k + 1, by omega, by go_num, HBR.out⟩
                                case measure => simp [intOf]; omega
                          · have t4 : (n == 0) = false := by simpa using h0
                            clear hcall hwcall hmem hlv hlv2 hxm h0
                            as_aux_lemma =>
                              go_wp2_with (go_at_call 8; refine HCALL.out.mono ?_; rintro e w' ⟨rfl, rfl⟩)
                              go_roundw
                              case rel => exact ⟨k + 1, by omega, by go_num, HBR.out⟩
                              case measure => simp [intOf]; omega
                      · have t3 : (x.lv == n + 1) = false := by simpa using hlv2
                        clear hcall hwcall hlv hlv2 hxm
                        as_aux_lemma =>
                          go_wp2
                          go_roundw
                          case rel => exact ⟨k + 1, by omega, by go_num, HBR.out⟩
                          case measure => simp [intOf]; omega
                  · obtain rfl : k = j := by omega
                    have HBE := Lib.hid (HB3.out.trans (HBR.out.mono HB3.out.size))
                    as_aux_lemma =>
                      go_wp2_with (go_at_call 6; refine (HAL.out _).mono ?_; rintro e w2 ⟨rfl, hb⟩; have HBZ := Lib.hid hb; clear hb)
                      go_ret
                      exact ⟨rfl, HBE.out.trans (HBZ.out.mono HBE.out.size)⟩
end Go.Proofs.Ytnnjngooggenpaa
