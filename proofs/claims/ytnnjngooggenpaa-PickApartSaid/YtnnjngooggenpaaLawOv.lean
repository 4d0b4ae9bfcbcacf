/-
  The law PickOverlap's walk.
-/
import Derived.Test.YtnnjngooggenpaaOpenFiles
import Derived.Deep.DeepCutAuto
namespace Go.Proofs.Ytnnjngooggenpaa
open Go.RowKit

theorem filter_sub {α : Type} {p q : α → Bool} (h : ∀ x, p x = true → q x = true) : ∀ l : List α, (l.filter p).Sublist (l.filter q)
  | [] => .slnil
  | x :: l => by
    rw [List.filter_cons, List.filter_cons]
    by_cases hp : p x = true
    · rw [if_pos hp, if_pos (h x hp)]; exact (filter_sub h l).cons_cons x
    · rw [if_neg hp]
      split
      · exact (filter_sub h l).cons x
      · exact filter_sub h l
theorem ov_sub (L : List Fi) (lv : Int) {p q r : ByteArray} (h : kcmp q r ≤ 0) : (ovL L lv p q).Sublist (ovL L lv p r) := by
  unfold ovL
  refine List.Sublist.map _ (filter_sub (fun x hx => ?_) _)
  unfold meets at hx ⊢
  simp only [Bool.and_eq_true, decide_eq_true_eq] at hx ⊢
  exact ⟨kcmp_le hx.1 h, hx.2⟩
theorem sub_step {x y : List Int} {i t : Nat} (h : (x.drop t).Sublist (y.drop i)) (hi : i < y.length) (ht : t < x.length) : (x.drop (if y[i] = x[t] then t + 1 else t)).Sublist (y.drop (i + 1)) := by
  rw [List.drop_eq_getElem_cons hi, List.drop_eq_getElem_cons ht] at h
  split
  · rename_i e
    rw [e] at h
    exact List.cons_sublist_cons.1 h
  · rename_i e
    rw [List.drop_eq_getElem_cons ht]
    rw [List.sublist_cons_iff] at h
    rcases h with h | ⟨r, h1, h2⟩
    · exact h
    · injection h1 with h3 _
      exact absurd h3.symm e
theorem gt_cases (p q : ByteArray) : (Op.bytesLess p.toList q.toList = false ∧ (p.toList == q.toList) = false) ∨ (kcmp p q ≤ 0 ∧ Op.bytesLess p.toList q.toList = true) ∨ (kcmp p q ≤ 0 ∧ Op.bytesLess p.toList q.toList = false ∧ (p.toList == q.toList) = true) := by
  rw [less_k]
  by_cases h : p = q
  · subst h
    exact .inr (.inr ⟨by rw [kcmp_self]; omega, by rw [kcmp_self]; rfl, str_eq p⟩)
  · have hs := str_ne h
    rcases (Int.lt_or_le (kcmp p q) 0) with h1 | h1
    · exact .inr (.inl ⟨by omega, by simpa using h1⟩)
    · exact .inl ⟨by simpa using h1, hs⟩

theorem OwnI.cell {w : World} {B n cap : Nat} {a : Option Addr} {l : List Int} (h : OwnI w B (.slice a n cap) l) : l = [] ∨ ∃ g, a = some ⟨g, 0, none⟩ ∧ g < w.heap.size ∧ B ≤ g ∧ ∀ j (hj : j < l.length), w.cell? ⟨g, j, none⟩ = some (.int .i64 l[j]) := by
  have h0 := h
  obtain ⟨h1, h2⟩ := h
  rcases h2 with ⟨_, h3⟩ | ⟨g, cap', cur, h2, hg, hh, hn', hc, hcl, htk⟩
  · exact .inl (List.eq_nil_of_length_eq_zero h3)
  · cases h2
    refine .inr ⟨g, rfl, (Array.getElem?_eq_some_iff.1 hh).1, hg, fun j hj => ?_⟩
    rw [h0.cellAt j (by omega)]
    simp [iCells, hj]

set_option maxRecDepth 100000 in
set_option maxHeartbeats 1000000 in
theorem overlap_law (a : Option Addr) (len cap : Nat) (l : List Fi) (lv : Int) (p q r : ByteArray) {W : World} (hl : FilesIn W a len cap l) (hlen : len ≤ maxLen) (_ : (Lit.int .i64 lv).wf = true) (_ : p.size ≤ maxLen) (_ : q.size ≤ maxLen) (_ : r.size ≤ maxLen) (w : World) (hWw : W = w) :
    Calls Try.prog 5 #[.slice a len cap, .int .i64 lv, .string p, .string q, .string r] w fun e w' => e = .returned (.bool true) ∧ Below w.heap.size w w' := by
  subst hWw
  unfold maxLen at hlen
  obtain ⟨hll, hat, _, _⟩ := hl
  generalize hw : W = w at *
  clear hw
  have HA := Lib.hid (And.intro hll hat)
  clear hll hat
  by_cases hbig : 200 < len
  · have t1 : decide ((200 : Int) < (len : Int)) = true := by simp; omega
    clear hbig
    go_enter Try.func5, Try.ntmps5
    go_wp2_with (go_at_call 6; refine (alive_any _).mono ?_; rintro e w1 ⟨rfl, hb⟩; have HB := Lib.hid hb; clear hb)
    go_ret
    exact ⟨rfl, HB.out⟩
  · have t1 : decide ((200 : Int) < (len : Int)) = false := by simp; omega
    have hl2 : l.length ≤ 200 := by rw [HA.out.1]; omega
    have HL2 := Lib.hid hl2
    clear hbig hl2
    have hal : (∀ w', Calls Try.prog 6 #[] w' fun e w'' => e = .returned (.bool true) ∧ Below w'.heap.size w' w'') := alive_any
    have HAL := Lib.hid hal
    clear hal
    rcases gt_cases p q with ⟨s1, s2⟩ | hpq
    · go_enter Try.func5, Try.ntmps5
      go_wp2_with (go_at_call 6; refine (HAL.out _).mono ?_; rintro e w1 ⟨rfl, hb⟩; have HB := Lib.hid hb; clear hb)
      go_ret
      exact ⟨rfl, HB.out⟩
    rcases gt_cases q r with ⟨s3, s4⟩ | hqr
    · rcases hpq with ⟨_, s1⟩ | ⟨_, s1, s2⟩
      all_goals
        go_enter Try.func5, Try.ntmps5
        go_wp2_with (go_at_call 6; refine (HAL.out _).mono ?_; rintro e w1 ⟨rfl, hb⟩; have HB := Lib.hid hb; clear hb)
        go_ret
        exact ⟨rfl, HB.out⟩
    have hk : kcmp q r ≤ 0 := by rcases hqr with h | h <;> exact h.1
    have hsub := ov_sub l lv (p := p) hk
    have HSUB := Lib.hid hsub
    have hov : ∀ (w' : World), Below w.heap.size w w' → ∀ p q, Calls Try.prog 11 #[.slice a len cap, .int .i64 lv, .string p, .string q] w' fun e w'' => ∃ a' cap', e = .returned (.slice a' (ovL l lv p q).length cap') ∧ OwnI w'' w'.heap.size (.slice a' (ovL l lv p q).length cap') (ovL l lv p q) ∧ Below w'.heap.size w' w'' := fun w' hb p q => by
      have h := overlap_any (HA.out.2.below hb) cap (by have := HL2.out; omega) lv p q
      rw [HA.out.1] at h
      exact h
    have HOV := Lib.hid hov
    have hlen2 : ∀ p q, (ovL l lv p q).length ≤ len := fun p q => by have := ovL_len l lv p q; rw [HA.out.1] at this; exact this
    have HOL := Lib.hid hlen2
    clear hov hsub hk hlen2
    have hc1 : ∃ b1 b2, Op.bytesLess p.toList q.toList = b1 ∧ (p.toList == q.toList) = b2 ∧ (b1 = true ∨ b1 = false ∧ b2 = true) := ⟨_, _, rfl, rfl, by rcases hpq with ⟨_, h⟩ | ⟨_, h1, h2⟩; exact .inl h; exact .inr ⟨h1, h2⟩⟩
    have hc2 : ∃ b1 b2, Op.bytesLess q.toList r.toList = b1 ∧ (q.toList == r.toList) = b2 ∧ (b1 = true ∨ b1 = false ∧ b2 = true) := ⟨_, _, rfl, rfl, by rcases hqr with ⟨_, h⟩ | ⟨_, h1, h2⟩; exact .inl h; exact .inr ⟨h1, h2⟩⟩
    clear hpq hqr
    obtain ⟨b1, b2, s1, s2, s3⟩ := hc1
    obtain ⟨b3, b4, s4, s5, s6⟩ := hc2
    go_enter Try.func5, Try.ntmps5
    go_upto_region 1 with fail
    go_cut [28] (fun t wc => wc = w ∧ t = .bool false)
    case first =>
      rcases s3 with rfl | ⟨rfl, rfl⟩
      all_goals
        rcases s6 with rfl | ⟨rfl, rfl⟩
        all_goals
          go_wp2
          go_meet
          exact ⟨rfl, rfl⟩
    case rest =>
      obtain ⟨rfl, rfl⟩ := hcut
      clear s1 s2 s3 s4 s5 s6
      go_wp2_with fail
      refine (HOV.out _ (Below.refl _ _) p q).mono ?_
      rintro _ w1 ⟨a1, cap1, rfl, ho1, hb1⟩
      simp only []
      have HO1 := Lib.hid (And.intro ho1 hb1)
      clear ho1 hb1
      go_wp2_with fail
      refine (HOV.out _ HO1.out.2 p r).mono ?_
      rintro _ w2 ⟨a2, cap2, rfl, ho2, hb2⟩
      simp only []
      obtain ⟨x, hx⟩ : ∃ x, x = ovL l lv p q := ⟨_, rfl⟩
      obtain ⟨y, hy⟩ : ∃ y, y = ovL l lv p r := ⟨_, rfl⟩
      have HLX : Hid (x.length ≤ len ∧ y.length ≤ len) := by rw [hx, hy]; exact ⟨HOL.out p q, HOL.out p r⟩
      have HO2 : Hid (OwnI w1 wc.heap.size (.slice a1 x.length cap1) x) := by rw [hx]; exact HO1.out.1
      have HO3 : Hid (OwnI w2 w1.heap.size (.slice a2 y.length cap2) y) := by rw [hy]; exact ho2
      have HB2 := Lib.hid (HO1.out.2.trans (hb2.mono HO1.out.2.size))
      have HB12 := Lib.hid hb2
      rw [← hx, ← hy]
      rw [← hx, ← hy] at HSUB
      obtain ⟨m, hm⟩ : ∃ m, m = x.length := ⟨_, rfl⟩
      obtain ⟨n, hn⟩ : ∃ n, n = y.length := ⟨_, rfl⟩
      rw [← hm, ← hn]
      have hmn : m ≤ 200 ∧ n ≤ 200 := by have := HLX.out; have := HL2.out; have := HA.out.1; omega
      obtain ⟨hm2, hn2⟩ := hmn
      have HMN := Lib.hid (And.intro hm hn)
      clear ho2 hb2 hx hy hm hn
      go_wp2
      go_loopw [13, 14] (fun tv iv wr => ∃ t i : Nat, t ≤ m ∧ i ≤ n ∧ tv = .int .i64 (t : Int) ∧ iv = .int .i64 (i : Int) ∧ (x.drop t).Sublist (y.drop i) ∧ Below w2.heap.size w2 wr) (fun _ iv _ => n - (intOf iv).toNat)
      case atStart => exact ⟨0, 0, by omega, by omega, rfl, rfl, by simpa using HSUB.out, Below.refl _ _⟩
      case round =>
        obtain ⟨t, i, ht, hi, rfl, rfl, hsub, hbel⟩ := hrel
        have HS := Lib.hid hsub
        have HB := Lib.hid hbel
        clear hsub hbel
        by_cases hlt : t < m ∧ i < n
        · obtain ⟨htm, hin⟩ := hlt
          obtain ⟨g1, rfl, hg1, _, hc1⟩ := HO2.out.cell.resolve_left (fun e => by have := HMN.out.1; rw [e] at this; simp at this; omega)
          obtain ⟨g2, rfl, hg2, _, hc2⟩ := HO3.out.cell.resolve_left (fun e => by have := HMN.out.2; rw [e] at this; simp at this; omega)
          have htx : t < x.length := by rw [← HMN.out.1]; exact htm
          have hiy : i < y.length := by rw [← HMN.out.2]; exact hin
          have c1 := (HB.out.cell (p := ⟨g1, t, none⟩) (Nat.lt_of_lt_of_le hg1 HB12.out.size)).trans ((HB12.out.cell (p := ⟨g1, t, none⟩) hg1).trans (hc1 t htx))
          have c2 := (HB.out.cell (p := ⟨g2, i, none⟩) hg2).trans (hc2 i hiy)
          have hst := sub_step HS.out hiy htx
          obtain ⟨u, hu⟩ : ∃ u, x[t] = u := ⟨_, rfl⟩
          obtain ⟨v, hv⟩ : ∃ v, y[i] = v := ⟨_, rfl⟩
          rw [hu] at c1
          rw [hv] at c2
          rw [hu, hv] at hst
          have HST := Lib.hid hst
          have r1 : (t : Int) < (m : Int) := by omega
          have r2 : (i : Int) < (n : Int) := by omega
          clear hc1 hc2 hst hu hv htx hiy
          by_cases he : v = u
          · have e1 : (v == u) = true := by simpa using he
            have HN : Hid ((x.drop (t + 1)).Sublist (y.drop (i + 1))) := by have := HST.out; rwa [if_pos he] at this
            clear he
            go_wp2
            go_quiet (fail)
            go_wp2
            go_roundw
            case rel => exact ⟨t + 1, i + 1, by omega, by omega, by go_num, by go_num, HN.out, below_drewN HB.out _⟩
            case measure => simp [intOf]; omega
          · have e1 : (v == u) = false := by simpa using he
            have HN : Hid ((x.drop t).Sublist (y.drop (i + 1))) := by have := HST.out; rwa [if_neg he] at this
            clear he
            go_wp2
            go_quiet (fail)
            go_wp2
            go_roundw
            case rel => exact ⟨t, i + 1, by omega, by omega, by go_num, by go_num, HN.out, below_drewN HB.out _⟩
            case measure => simp [intOf]; omega
        · have hend : t = m := by
            by_cases hin : i < n
            · omega
            · obtain rfl : i = n := by omega
              have h := HS.out
              rw [HMN.out.2, List.drop_length] at h
              have := h.length_le
              rw [List.length_drop, ← HMN.out.1] at this
              simp at this
              omega
          subst hend
          have HBW := Lib.hid (HB2.out.trans (HB.out.mono HB2.out.size))
          have hov3 := HOV.out wr HBW.out ⟨#[]⟩ ⟨#[255, 255, 255, 255]⟩
          have hol3 := HOL.out ⟨#[]⟩ ⟨#[255, 255, 255, 255]⟩
          obtain ⟨k, hk⟩ : ∃ k, k = (ovL l lv ⟨#[]⟩ ⟨#[255, 255, 255, 255]⟩).length := ⟨_, rfl⟩
          rw [← hk] at hov3 hol3
          have HOV3 := Lib.hid hov3
          have hln : n ≤ len := by have := HLX.out.2; have := HMN.out.2; omega
          have r3 : decide (n ≤ len) = true := by simpa using hln
          have r4 : decide (k ≤ len) = true := by simpa using hol3
          clear hov3 hk hlt
          by_cases hin : i < n
          · go_wp2_with fail
            refine HOV3.out.mono ?_
            rintro _ w4 ⟨a4, cap4, rfl, _, hb4⟩
            simp only []
            have HB4 := Lib.hid (HBW.out.trans (hb4.mono HBW.out.size))
            clear hb4
            go_wp2_with (go_at_call 6; refine (HAL.out _).mono ?_; rintro e w5 ⟨rfl, hb5⟩; have HB5 := Lib.hid hb5; clear hb5)
            go_ret
            exact ⟨rfl, HB4.out.trans (HB5.out.mono HB4.out.size)⟩
          · go_wp2_with fail
            refine HOV3.out.mono ?_
            rintro _ w4 ⟨a4, cap4, rfl, _, hb4⟩
            simp only []
            have HB4 := Lib.hid (HBW.out.trans (hb4.mono HBW.out.size))
            clear hb4
            go_wp2_with (go_at_call 6; refine (HAL.out _).mono ?_; rintro e w5 ⟨rfl, hb5⟩; have HB5 := Lib.hid hb5; clear hb5)
            go_ret
            exact ⟨rfl, HB4.out.trans (HB5.out.mono HB4.out.size)⟩
end Go.Proofs.Ytnnjngooggenpaa
