/-
  MergeGroups: its walk.
-/
import Derived.Test.YtalhobkhhgggeaaMgO
namespace Go.Proofs.Ytalhobkhhgggeaa
open Go.RowKit

theorem lenS_eq (L : List (List KV)) : lenS L = (L.map List.length).sum := rfl
theorem lenS_app (A B : List (List KV)) : lenS (A ++ B) = lenS A + lenS B := by unfold lenS; rw [List.map_append, List.sum_append]
theorem RdL.take {w : World} {a : Option Addr} {L : List (List KV)} (h : RdL w a L) (k : Nat) : RdL w a (L.take k) := by
  rcases h with rfl | ⟨b, off, h1, h2⟩
  · exact .inl (by simp)
  · exact .inr ⟨b, off, h1, fun i hi => by
      rw [List.length_take] at hi
      obtain ⟨ai, ci, q0, q1⟩ := h2 i (by omega)
      exact ⟨ai, ci, by rw [List.getElem_take]; exact q0, by rw [List.getElem_take]; exact q1⟩⟩
theorem RdL.drop {w : World} {b off : Nat} {L : List (List KV)} (h : ∀ i (hi : i < L.length), ∃ ai ci, w.cell? ⟨b, off + i, none⟩ = some (.slice ai L[i].length ci) ∧ RdP w ai ci L[i]) (k : Nat) : RdL w (some ⟨b, off + k, none⟩) (L.drop k) := by
  refine .inr ⟨b, off + k, rfl, fun i hi => ?_⟩
  rw [List.length_drop] at hi
  obtain ⟨ai, ci, q0, q1⟩ := h (k + i) (by omega)
  refine ⟨ai, ci, ?_, ?_⟩
  · rw [List.getElem_drop, Nat.add_assoc]; exact q0
  · rw [List.getElem_drop]; exact q1
theorem drop_rd {w : World} {a : Option Addr} {L : List (List KV)} (h : RdL w a L) (k : Nat) : RdL w (a.map (fun x => x.add k)) (L.drop k) := by
  rcases h with rfl | ⟨b, off, rfl, h2⟩
  · exact .inl (by simp)
  · have := RdL.drop h2 k
    rw [← add_off] at this
    exact this
set_option maxRecDepth 100000 in
set_option maxHeartbeats 4000000 in
theorem groups_walk (a : Option Addr) (len cap : Nat) (L : List (List KV)) (k : Int) {W : World} (hl : LsIn W a len cap L) (hk : (Lit.int IntKind.i64 k).wf = true) (w : World) (hW : W = w) :
    Calls Try.prog 3 #[.slice a len cap, .int .i64 k] w fun e w' => e = .returned (.bool true) ∧ Below w.heap.size w w' := by
  subst hW
  obtain ⟨hl1, hrd, hsz, hl6, hcap, hcap2⟩ := hl
  have hlt := light_any (c := cap) hrd hsz (by omega)
  rw [hl1] at hlt
  have HL := Lib.hid (And.intro hlt (And.intro hl1 hrd))
  clear hlt hl1 hrd hsz
  by_cases hout : lightL L = false ∨ k < 0 ∨ (len : Int) < k
  · cases hb : lightL L with
    | false =>
      have hlt := HL.out.1
      rw [hb] at hlt
      have HLT := Lib.hid hlt
      clear hlt hb hout HL
      go_enter Try.func3, Try.ntmps3
      go_wp2_with fail
      refine HLT.out.mono ?_
      rintro e w1 ⟨rfl, hb1⟩
      have H1 := Lib.hid hb1
      clear hb1
      go_wp2_with fail
      refine (alive_any _).mono ?_
      rintro e w2 ⟨rfl, hb2⟩
      have H2 := Lib.hid hb2
      clear hb2
      go_wp2_with fail
      go_ret
      exact ⟨rfl, H1.out.trans (H2.out.mono H1.out.size)⟩
    | true =>
      have hlt := HL.out.1
      rw [hb] at hlt
      have HLT := Lib.hid hlt
      have hkk : k < 0 ∨ (len : Int) < k := by
        rcases hout with h | h
        · rw [hb] at h; cases h
        · exact h
      clear hlt hb hout HL
      by_cases h0 : k < 0
      · go_enter Try.func3, Try.ntmps3
        go_wp2_with fail
        refine HLT.out.mono ?_
        rintro e w1 ⟨rfl, hb1⟩
        have H1 := Lib.hid hb1
        clear hb1
        go_wp2_with fail
        refine (alive_any _).mono ?_
        rintro e w2 ⟨rfl, hb2⟩
        have H2 := Lib.hid hb2
        clear hb2
        go_wp2_with fail
        go_ret
        exact ⟨rfl, H1.out.trans (H2.out.mono H1.out.size)⟩
      · have h1 : (len : Int) < k := by omega
        clear hkk
        go_enter Try.func3, Try.ntmps3
        go_wp2_with fail
        refine HLT.out.mono ?_
        rintro e w1 ⟨rfl, hb1⟩
        have H1 := Lib.hid hb1
        clear hb1
        go_wp2_with fail
        refine (alive_any _).mono ?_
        rintro e w2 ⟨rfl, hb2⟩
        have H2 := Lib.hid hb2
        clear hb2
        go_wp2_with fail
        go_ret
        exact ⟨rfl, H1.out.trans (H2.out.mono H1.out.size)⟩
  · have hb : lightL L = true := by
      cases h : lightL L with
      | true => rfl
      | false => exact absurd (.inl h) hout
    have h0 : ¬ k < 0 := fun h => hout (.inr (.inl h))
    have h1 : ¬ (len : Int) < k := fun h => hout (.inr (.inr h))
    obtain ⟨j, rfl⟩ : ∃ j : Nat, k = (j : Int) := ⟨k.toNat, by omega⟩
    have hlt := HL.out.1
    rw [hb] at hlt
    have h40 : len ≤ 40 ∧ lenS L ≤ 2000 := by
      unfold lightL at hb
      simp only [Bool.and_eq_true, decide_eq_true_eq] at hb
      exact ⟨by have := hb.1.2; rw [HL.out.2.1] at this; exact this, hb.2⟩
    obtain ⟨h40, h2000⟩ := h40
    have HLT := Lib.hid (And.intro hlt h2000)
    clear hlt hb hout h2000
    go_enter Try.func3, Try.ntmps3
    go_wp2_with fail
    refine HLT.out.1.mono ?_
    rintro e w1 ⟨rfl, hb1⟩
    have hm1 := merge_any (c := cap) (HL.out.2.2.below hb1) (by rw [HL.out.2.1]; omega) (by have := HLT.out.2; unfold lenS at this; omega)
    rw [HL.out.2.1] at hm1
    have H1 := Lib.hid (And.intro hb1 hm1)
    clear hb1 hm1
    go_wp2_with fail
    refine H1.out.2.mono ?_
    rintro e w2 ⟨hb2, ⟨hr, all, va, rfl, ho, hla, hlo⟩ | ⟨hr, rfl⟩⟩
    · have hlo5 : all.length ≤ 2000 := by have := HLT.out.2; unfold lenS at this; omega
      obtain ⟨aa, ac, rfl, hrp⟩ := rdP_own ho
      have hb02 := H1.out.1.trans (hb2.mono H1.out.1.size)
      have hrd2 := HL.out.2.2.below hb02
      have hjl : j ≤ L.length := by rw [HL.out.2.1]; omega
      have htl : (L.take j).length = j := by rw [List.length_take]; omega
      have hm2 := merge_any (c := cap) (hrd2.take j) (by rw [htl]; omega) (by have := HLT.out.2; have := lenS_app (L.take j) (L.drop j); rw [List.take_append_drop] at this; unfold lenS at *; omega)
      rw [htl] at hm2
      have H2 := Lib.hid (And.intro hb2 (And.intro hr (And.intro hla (And.intro hlo5 (And.intro hrp (And.intro hb02 (And.intro hm2 hjl)))))))
      clear hb2 hr ho hla hlo hrp hb02 hrd2 hm2 hjl htl
      have hj2 : (j : Int) ≤ (cap : Int) := by omega
      have hj3 : (j : Int) ≤ (len : Int) := by omega
      go_wp2_with fail
      refine H2.out.2.2.2.2.2.2.1.mono ?_
      rintro e w3 ⟨hb3, ⟨_, la, va, rfl, hoa, hlaa, hloa⟩ | ⟨hr, rfl⟩⟩
      · obtain ⟨ba, bc, rfl, hrpa⟩ := rdP_own hoa
        have hb03 := H2.out.2.2.2.2.2.1.trans (hb3.mono (Nat.le_trans H1.out.1.size H2.out.1.size))
        have hA2000 : la.length ≤ 2000 := by have := HLT.out.2; have := lenS_app (L.take j) (L.drop j); rw [List.take_append_drop] at this; unfold lenS at *; omega
        have H3 := Lib.hid (And.intro hb3 (And.intro hlaa (And.intro hrpa hb03)))
        clear hb3 hoa hlaa hloa hrpa hb03
        have hQ : ∀ (a' : Option Addr) (c' : Nat), RdL w3 a' (L.drop j) → Calls Try.prog 8 #[.slice a' (len - j) c'] w3 (MergeAns (L.drop j) w3) := fun a' c' hr => by
          have h1 := merge_any (c := c') hr (by rw [List.length_drop, HL.out.2.1]; omega) (by have := HLT.out.2; have := lenS_app (L.take j) (L.drop j); rw [List.take_append_drop] at this; unfold lenS at *; omega)
          rw [List.length_drop, HL.out.2.1] at h1
          exact h1
        have HQ := Lib.hid hQ
        clear hQ
        go_wp2_with fail
        · refine (HQ.out _ _ (.inl (List.drop_eq_nil_of_le (by rw [HL.out.2.1]; omega)))).mono ?_
          rintro e w4 ⟨hb4, ⟨_, lb, vb, rfl, hob, hlab, hlob⟩ | ⟨hr, rfl⟩⟩
          · obtain ⟨ca, cc, rfl, hrpb⟩ := rdP_own hob
            have hB2000 : lb.length ≤ 2000 := by have := HLT.out.2; have := lenS_app (L.take j) (L.drop j); rw [List.take_append_drop] at this; unfold lenS at *; omega
            have hb04 := H3.out.2.2.2.trans (hb4.mono H3.out.2.2.2.size)
            have H4 := Lib.hid (And.intro hb4 (And.intro hlab (And.intro hrpb hb04)))
            clear hb4 hob hlab hlob hrpb hb04
            go_wp2_with fail
            obtain ⟨w5, hw5⟩ : ∃ w5, w5 = w4.alloc (.cells #[.slice ba la.length bc, .slice ca lb.length cc] 25) := ⟨_, rfl⟩
            have hb5 : Below w4.heap.size w4 w5 := by rw [hw5]; exact (Below.refl _ _).alloc (Nat.le_refl _) _
            have hrA5 : RdP w5 ba bc la := (H3.out.2.2.1.below (n := 0) H4.out.1).below (n := 0) hb5
            have hrB5 : RdP w5 ca cc lb := H4.out.2.2.1.below (n := 0) hb5
            have hrd5 : RdL w5 (some ⟨w4.heap.size, 0, none⟩) [la, lb] := by
              refine .inr ⟨_, 0, rfl, fun i hi => ?_⟩
              rcases (by simp at hi; omega : i = 0 ∨ i = 1) with rfl | rfl
              · exact ⟨ba, bc, by rw [hw5]; simp [go_sem], hrA5⟩
              · exact ⟨ca, cc, by rw [hw5]; simp [go_sem], hrB5⟩
            have hris2 : ∀ l ∈ [la, lb], Ris l := fun l hl => by
              simp only [List.mem_cons, List.not_mem_nil, or_false] at hl
              rcases hl with rfl | rfl
              · exact H3.out.2.1.ris
              · exact H4.out.2.1.ris
            have hm5 := merge_any (c := 2) hrd5 (by simp) (by simp; omega)
            have hm5 : Calls Try.prog 8 #[.slice (some ⟨w4.heap.size, 0, none⟩) 2 2] w5 (MergeAns [la, lb] w5) := hm5
            rw [← hw5]
            have H5 := Lib.hid (And.intro hm5 (And.intro hris2 (And.intro hb5 (H4.out.2.2.2.trans (hb5.mono H4.out.2.2.2.size)))))
            clear hm5 hris2 hb5 hw5 hrA5 hrB5 hrd5
            refine H5.out.1.mono ?_
            rintro e w6 ⟨hb6, ⟨_, lc, vc, rfl, hoc, hlac, hloc⟩ | ⟨hr, rfl⟩⟩
            · obtain ⟨da, dc, rfl, hrpc⟩ := rdP_own hoc
              have hall5 := H2.out.2.2.2.2.1
              have hrall6 : RdP w6 aa ac all := (((hall5.below (n := 0) H3.out.1).below (n := 0) H4.out.1).below (n := 0) H5.out.2.2.1).below (n := 0) hb6
              have heq : lc = all := Laid.uniq H2.out.2.1 (Laid.groups H3.out.2.1 H4.out.2.1 hlac H2.out.2.2.2.2.2.2.2) H2.out.2.2.1
              subst heq
              have hb06 := H5.out.2.2.2.trans (hb6.mono H5.out.2.2.2.size)
              have H6 := Lib.hid (And.intro hb6 (And.intro hrall6 (And.intro hrpc hb06)))
              clear hb6 hoc hlac hloc hrpc hall5 hrall6 hb06
              go_wp2_with fail
              obtain ⟨w7, hw7⟩ : ∃ w7, w7 = w6.alloc (.cells #[.slice aa lc.length ac, .slice aa lc.length ac, .slice none 0 0] 25) := ⟨_, rfl⟩
              have hb7 : Below w6.heap.size w6 w7 := by rw [hw7]; exact (Below.refl _ _).alloc (Nat.le_refl _) _
              have hr7 : RdP w7 aa ac lc := H6.out.2.1.below (n := 0) hb7
              have hrd7 : RdL w7 (some ⟨w6.heap.size, 0, none⟩) [lc, lc, []] := by
                refine .inr ⟨_, 0, rfl, fun i hi => ?_⟩
                rcases (by simp at hi; omega : i = 0 ∨ i = 1 ∨ i = 2) with rfl | rfl | rfl
                · exact ⟨aa, ac, by rw [hw7]; simp [go_sem], hr7⟩
                · exact ⟨aa, ac, by rw [hw7]; simp [go_sem], hr7⟩
                · exact ⟨none, 0, by rw [hw7]; simp [go_sem], ⟨by simp, by omega, .inl rfl⟩⟩
              have hris7 : ∀ l ∈ [lc, lc, []], Ris l := fun l hl => by
                simp only [List.mem_cons, List.not_mem_nil, or_false] at hl
                rcases hl with rfl | rfl | rfl
                · exact H2.out.2.2.1.ris
                · exact H2.out.2.2.1.ris
                · exact List.Pairwise.nil
              have hm7 := merge_any (c := 3) hrd7 (by simp) (by simp; omega)
              have hm7 : Calls Try.prog 8 #[.slice (some ⟨w6.heap.size, 0, none⟩) 3 3] w7 (MergeAns [lc, lc, []] w7) := hm7
              rw [← hw7]
              have H7 := Lib.hid (And.intro hm7 (And.intro hris7 (And.intro hb7 (And.intro hr7 (H6.out.2.2.2.trans (hb7.mono H6.out.2.2.2.size))))))
              clear hm7 hris7 hb7 hw7 hr7 hrd7
              refine H7.out.1.mono ?_
              rintro e w8 ⟨hb8, ⟨_, ld, vd, rfl, hod, hlad, hlod⟩ | ⟨hr, rfl⟩⟩
              · obtain ⟨fa, fc, rfl, hrpd⟩ := rdP_own hod
                have heq : ld = lc := Laid.uniq H7.out.2.1 hlad (Laid.self H2.out.2.2.1)
                subst heq
                have hb08 := H7.out.2.2.2.2.trans (hb8.mono H7.out.2.2.2.2.size)
                have hrc8 : RdP w8 da dc ld := (H6.out.2.2.1.below (n := 0) H7.out.2.2.1).below (n := 0) hb8
                have hra8 : RdP w8 aa ac ld := H7.out.2.2.2.1.below (n := 0) hb8
                have H8 := Lib.hid (And.intro hb08 (And.intro hrpd (And.intro hrc8 hra8)))
                clear hb8 hod hlad hlod hrpd hb08 hrc8 hra8
                go_wp2_with fail
                refine (alive_any _).mono ?_
                rintro e w9 ⟨rfl, hb9⟩
                have hs9 := samekeys_any (H8.out.2.2.1.below (n := 0) hb9) (H8.out.2.2.2.below (n := 0) hb9) (by omega) (by omega)
                have hd9 : decide (ld = ld) = true := decide_eq_true rfl
                rw [hd9] at hs9
                have H9 := Lib.hid (And.intro hs9 hb9)
                clear hs9 hd9 hb9
                go_wp2_with fail
                refine H9.out.1.mono ?_
                rintro e w10 ⟨rfl, hb10⟩
                have hs10 := samekeys_any ((H8.out.2.1.below (n := 0) H9.out.2).below (n := 0) hb10) ((H8.out.2.2.2.below (n := 0) H9.out.2).below (n := 0) hb10) (by omega) (by omega)
                have hd9 : decide (ld = ld) = true := decide_eq_true rfl
                rw [hd9] at hs10
                have H10 := Lib.hid (And.intro hs10 hb10)
                clear hs10 hd9 hb10
                go_wp2_with fail
                refine H10.out.1.mono ?_
                rintro e w11 ⟨rfl, hb11⟩
                have H11 := Lib.hid hb11
                clear hb11
                go_wp2_with fail
                go_ret
                have f1 := H8.out.1.trans (H9.out.2.mono H8.out.1.size)
                have f2 := f1.trans (H10.out.2.mono f1.size)
                exact ⟨rfl, f2.trans (H11.out.mono f2.size)⟩
              · exact absurd H7.out.2.1 hr
            · exact absurd H5.out.2.1 hr
          · exact absurd (fun l hl => H2.out.2.1 l (List.mem_of_mem_drop hl)) hr
        · refine (HQ.out _ _ (drop_rd (HL.out.2.2.below H3.out.2.2.2) j)).mono ?_
          rintro e w4 ⟨hb4, ⟨_, lb, vb, rfl, hob, hlab, hlob⟩ | ⟨hr, rfl⟩⟩
          · obtain ⟨ca, cc, rfl, hrpb⟩ := rdP_own hob
            have hB2000 : lb.length ≤ 2000 := by have := HLT.out.2; have := lenS_app (L.take j) (L.drop j); rw [List.take_append_drop] at this; unfold lenS at *; omega
            have hb04 := H3.out.2.2.2.trans (hb4.mono H3.out.2.2.2.size)
            have H4 := Lib.hid (And.intro hb4 (And.intro hlab (And.intro hrpb hb04)))
            clear hb4 hob hlab hlob hrpb hb04
            go_wp2_with fail
            obtain ⟨w5, hw5⟩ : ∃ w5, w5 = w4.alloc (.cells #[.slice ba la.length bc, .slice ca lb.length cc] 25) := ⟨_, rfl⟩
            have hb5 : Below w4.heap.size w4 w5 := by rw [hw5]; exact (Below.refl _ _).alloc (Nat.le_refl _) _
            have hrA5 : RdP w5 ba bc la := (H3.out.2.2.1.below (n := 0) H4.out.1).below (n := 0) hb5
            have hrB5 : RdP w5 ca cc lb := H4.out.2.2.1.below (n := 0) hb5
            have hrd5 : RdL w5 (some ⟨w4.heap.size, 0, none⟩) [la, lb] := by
              refine .inr ⟨_, 0, rfl, fun i hi => ?_⟩
              rcases (by simp at hi; omega : i = 0 ∨ i = 1) with rfl | rfl
              · exact ⟨ba, bc, by rw [hw5]; simp [go_sem], hrA5⟩
              · exact ⟨ca, cc, by rw [hw5]; simp [go_sem], hrB5⟩
            have hris2 : ∀ l ∈ [la, lb], Ris l := fun l hl => by
              simp only [List.mem_cons, List.not_mem_nil, or_false] at hl
              rcases hl with rfl | rfl
              · exact H3.out.2.1.ris
              · exact H4.out.2.1.ris
            have hm5 := merge_any (c := 2) hrd5 (by simp) (by simp; omega)
            have hm5 : Calls Try.prog 8 #[.slice (some ⟨w4.heap.size, 0, none⟩) 2 2] w5 (MergeAns [la, lb] w5) := hm5
            rw [← hw5]
            have H5 := Lib.hid (And.intro hm5 (And.intro hris2 (And.intro hb5 (H4.out.2.2.2.trans (hb5.mono H4.out.2.2.2.size)))))
            clear hm5 hris2 hb5 hw5 hrA5 hrB5 hrd5
            refine H5.out.1.mono ?_
            rintro e w6 ⟨hb6, ⟨_, lc, vc, rfl, hoc, hlac, hloc⟩ | ⟨hr, rfl⟩⟩
            · obtain ⟨da, dc, rfl, hrpc⟩ := rdP_own hoc
              have hall5 := H2.out.2.2.2.2.1
              have hrall6 : RdP w6 aa ac all := (((hall5.below (n := 0) H3.out.1).below (n := 0) H4.out.1).below (n := 0) H5.out.2.2.1).below (n := 0) hb6
              have heq : lc = all := Laid.uniq H2.out.2.1 (Laid.groups H3.out.2.1 H4.out.2.1 hlac H2.out.2.2.2.2.2.2.2) H2.out.2.2.1
              subst heq
              have hb06 := H5.out.2.2.2.trans (hb6.mono H5.out.2.2.2.size)
              have H6 := Lib.hid (And.intro hb6 (And.intro hrall6 (And.intro hrpc hb06)))
              clear hb6 hoc hlac hloc hrpc hall5 hrall6 hb06
              go_wp2_with fail
              obtain ⟨w7, hw7⟩ : ∃ w7, w7 = w6.alloc (.cells #[.slice aa lc.length ac, .slice aa lc.length ac, .slice none 0 0] 25) := ⟨_, rfl⟩
              have hb7 : Below w6.heap.size w6 w7 := by rw [hw7]; exact (Below.refl _ _).alloc (Nat.le_refl _) _
              have hr7 : RdP w7 aa ac lc := H6.out.2.1.below (n := 0) hb7
              have hrd7 : RdL w7 (some ⟨w6.heap.size, 0, none⟩) [lc, lc, []] := by
                refine .inr ⟨_, 0, rfl, fun i hi => ?_⟩
                rcases (by simp at hi; omega : i = 0 ∨ i = 1 ∨ i = 2) with rfl | rfl | rfl
                · exact ⟨aa, ac, by rw [hw7]; simp [go_sem], hr7⟩
                · exact ⟨aa, ac, by rw [hw7]; simp [go_sem], hr7⟩
                · exact ⟨none, 0, by rw [hw7]; simp [go_sem], ⟨by simp, by omega, .inl rfl⟩⟩
              have hris7 : ∀ l ∈ [lc, lc, []], Ris l := fun l hl => by
                simp only [List.mem_cons, List.not_mem_nil, or_false] at hl
                rcases hl with rfl | rfl | rfl
                · exact H2.out.2.2.1.ris
                · exact H2.out.2.2.1.ris
                · exact List.Pairwise.nil
              have hm7 := merge_any (c := 3) hrd7 (by simp) (by simp; omega)
              have hm7 : Calls Try.prog 8 #[.slice (some ⟨w6.heap.size, 0, none⟩) 3 3] w7 (MergeAns [lc, lc, []] w7) := hm7
              rw [← hw7]
              have H7 := Lib.hid (And.intro hm7 (And.intro hris7 (And.intro hb7 (And.intro hr7 (H6.out.2.2.2.trans (hb7.mono H6.out.2.2.2.size))))))
              clear hm7 hris7 hb7 hw7 hr7 hrd7
              refine H7.out.1.mono ?_
              rintro e w8 ⟨hb8, ⟨_, ld, vd, rfl, hod, hlad, hlod⟩ | ⟨hr, rfl⟩⟩
              · obtain ⟨fa, fc, rfl, hrpd⟩ := rdP_own hod
                have heq : ld = lc := Laid.uniq H7.out.2.1 hlad (Laid.self H2.out.2.2.1)
                subst heq
                have hb08 := H7.out.2.2.2.2.trans (hb8.mono H7.out.2.2.2.2.size)
                have hrc8 : RdP w8 da dc ld := (H6.out.2.2.1.below (n := 0) H7.out.2.2.1).below (n := 0) hb8
                have hra8 : RdP w8 aa ac ld := H7.out.2.2.2.1.below (n := 0) hb8
                have H8 := Lib.hid (And.intro hb08 (And.intro hrpd (And.intro hrc8 hra8)))
                clear hb8 hod hlad hlod hrpd hb08 hrc8 hra8
                go_wp2_with fail
                refine (alive_any _).mono ?_
                rintro e w9 ⟨rfl, hb9⟩
                have hs9 := samekeys_any (H8.out.2.2.1.below (n := 0) hb9) (H8.out.2.2.2.below (n := 0) hb9) (by omega) (by omega)
                have hd9 : decide (ld = ld) = true := decide_eq_true rfl
                rw [hd9] at hs9
                have H9 := Lib.hid (And.intro hs9 hb9)
                clear hs9 hd9 hb9
                go_wp2_with fail
                refine H9.out.1.mono ?_
                rintro e w10 ⟨rfl, hb10⟩
                have hs10 := samekeys_any ((H8.out.2.1.below (n := 0) H9.out.2).below (n := 0) hb10) ((H8.out.2.2.2.below (n := 0) H9.out.2).below (n := 0) hb10) (by omega) (by omega)
                have hd9 : decide (ld = ld) = true := decide_eq_true rfl
                rw [hd9] at hs10
                have H10 := Lib.hid (And.intro hs10 hb10)
                clear hs10 hd9 hb10
                go_wp2_with fail
                refine H10.out.1.mono ?_
                rintro e w11 ⟨rfl, hb11⟩
                have H11 := Lib.hid hb11
                clear hb11
                go_wp2_with fail
                go_ret
                have f1 := H8.out.1.trans (H9.out.2.mono H8.out.1.size)
                have f2 := f1.trans (H10.out.2.mono f1.size)
                exact ⟨rfl, f2.trans (H11.out.mono f2.size)⟩
              · exact absurd H7.out.2.1 hr
            · exact absurd H5.out.2.1 hr
          · exact absurd (fun l hl => H2.out.2.1 l (List.mem_of_mem_drop hl)) hr
      · exact absurd (fun l hl => H2.out.2.1 l (List.mem_of_mem_take hl)) hr
    · have H2 := Lib.hid (And.intro hb2 hr)
      clear hb2 hr
      go_wp2_with fail
      refine (alive_any _).mono ?_
      rintro e w3 ⟨rfl, hb3⟩
      have H3 := Lib.hid hb3
      clear hb3
      go_wp2_with fail
      go_ret
      have f1 := H1.out.1.trans (H2.out.1.mono H1.out.1.size)
      exact ⟨rfl, f1.trans (H3.out.mono f1.size)⟩
end Go.Proofs.Ytalhobkhhgggeaa
