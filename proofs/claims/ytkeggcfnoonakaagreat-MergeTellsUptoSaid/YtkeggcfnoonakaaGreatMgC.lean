
/-
  Merge: heap.Init, heap.Fix, heap.Pop.
-/
import Derived.Test.YtkeggcfnoonakaaGreatMgB
set_option linter.unusedSimpArgs false
set_option linter.unusedVariables false
namespace Go.Proofs.YtkeggcfnoonakaaGreat
open Go.RowKit

set_option maxHeartbeats 1000000 in
theorem init_any {W w : World} {hb : Nat} {v : Value} {ms : List Hd} (h : HsAt W w hb v ms) (hne : ∀ k, k < ms.length → (at_ ms k).l ≠ []) :
    Calls Tryz.prog 90 #[.iface 93 (.pointer (some ⟨hb, 0, none⟩))] w fun e w' => e = .returned (.tuple #[]) ∧ ∃ ms', HsAt W w' hb v ms' ∧ ms'.Perm ms ∧ Hp 0 ms.length ms' ∧ Tn (Foot hb v) w w' := by
  obtain ⟨a, cap, rfl, _, _⟩ := row_form h.own
  obtain ⟨n, hn⟩ : ∃ n, ms.length = n := ⟨_, rfl⟩
  have hn6 := h.few
  rw [hn] at hne hn6 h ⊢
  have hm := m_len h.cell
  have H := Lib.hid (And.intro h (And.intro hn hne))
  clear h hn hne
  go_enter Tryz.func90, Tryz.ntmps90
  go_wp2_with fail
  refine (len_any _ _ _ _).mono ?_
  rintro e w' ⟨rfl, rfl⟩
  clear hm
  go_wp2_with fail
  go_loopw [3] (fun y wr => ∃ (j : Nat) (m1 : List Hd), j ≤ n ∧ y = .int .i64 ((j : Int) - 1) ∧ HsAt W wr hb (.slice a n cap) m1 ∧ m1.Perm ms ∧ Hp j n m1 ∧ Tn (Foot hb (.slice a n cap)) w wr) (fun y _ => (intOf y + 1).toNat)
  case atStart => exact ⟨n / 2, ms, by omega, by first | rfl | (congr 1), H.out.1, List.Perm.refl _, fun c h0 h1 h2 => by omega, Tn.refl _ _⟩
  case round =>
    obtain ⟨j, m1, hj, rfl, h1, hp1, hh1, ht1⟩ := hrel
    have hl1 : m1.length = n := hp1.length_eq.trans H.out.2.1
    by_cases c1 : 1 ≤ j
    · have hne1 : ∀ k, k < n → (at_ m1 k).l ≠ [] := by
        intro k hk
        rw [at_get (by omega)]
        have hm : m1[k]'(by omega) ∈ ms := hp1.mem_iff.1 (List.getElem_mem _)
        obtain ⟨q, hq, e⟩ := List.mem_iff_getElem.1 hm
        rw [← e, ← at_get hq]
        exact H.out.2.2 q (by rw [← H.out.2.1]; exact hq)
      have hd := down_any h1 (s := j - 1) (n := n) (by omega) (by omega) hne1 (by rw [show j - 1 + 1 = j by omega]; exact hh1)
      rw [show ((j - 1 : Nat) : Int) = (j : Int) - 1 by omega] at hd
      have HD := Lib.hid (And.intro hd (And.intro hp1 ht1))
      clear hd h1 hp1 hh1 ht1 hl1 hne1
      have r1 : (0 : Int) ≤ (j : Int) - 1 := by omega
      have r2 : (1 : Int) ≤ (j : Int) := by omega
      go_wp2_with fail
      refine HD.out.1.mono ?_
      rintro e w2 ⟨⟨b, rfl⟩, m2, h2, p2, hh2, _, t2⟩
      have H2 := Lib.hid (And.intro h2 (And.intro p2 (And.intro hh2 t2)))
      clear h2 p2 hh2 t2
      go_wp2_with fail
      go_roundw
      case rel => exact ⟨j - 1, m2, by omega, by congr 1; omega, H2.out.1, H2.out.2.1.trans HD.out.2.1, H2.out.2.2.1, HD.out.2.2.trans H2.out.2.2.2⟩
      case measure => simp [intOf]; omega
    · obtain rfl : j = 0 := by omega
      have HD := Lib.hid (And.intro h1 (And.intro hp1 (And.intro hh1 ht1)))
      clear h1 hp1 hh1 ht1
      go_wp2_with fail
      go_end0
      exact ⟨rfl, m1, HD.out.1, HD.out.2.1, HD.out.2.2.1, HD.out.2.2.2⟩
theorem up_zero (w : World) (x : Value) : Calls Tryz.prog 124 #[x, .int .i64 0] w fun e w' => e = .returned (.tuple #[]) ∧ w = w' := by
  go_enter Tryz.func124, Tryz.ntmps124
  go_wp2_with fail
  go_loop [1] (fun y => y = .int .i64 0) (fun _ => 0)
  case atStart => rfl
  case round =>
    obtain rfl := hrel
    go_wp2_with fail
    go_end0
    exact ⟨rfl, rfl⟩
set_option maxHeartbeats 1000000 in
theorem fix_any {W w : World} {hb : Nat} {v : Value} {ms : List Hd} (h : HsAt W w hb v ms) (hne : ∀ k, k < ms.length → (at_ ms k).l ≠ []) (hp : Hp 1 ms.length ms) :
    Calls Tryz.prog 92 #[.iface 93 (.pointer (some ⟨hb, 0, none⟩)), .int .i64 0] w fun e w' => e = .returned (.tuple #[]) ∧ ∃ ms', HsAt W w' hb v ms' ∧ ms'.Perm ms ∧ Hp 0 ms.length ms' ∧ Tn (Foot hb v) w w' := by
  obtain ⟨a, cap, rfl, _, _⟩ := row_form h.own
  have hd := down_any h (s := 0) (n := ms.length) (Nat.le_refl _) (Nat.zero_le _) hne hp
  obtain ⟨n, hn⟩ : ∃ n, ms.length = n := ⟨_, rfl⟩
  rw [hn] at hd h ⊢
  have hm := m_len h.cell
  have HD := Lib.hid hd
  clear hd hn hne hp h
  go_enter Tryz.func92, Tryz.ntmps92
  go_wp2_with fail
  refine (len_any _ _ _ _).mono ?_
  rintro e w' ⟨rfl, rfl⟩
  clear hm
  go_wp2_with fail
  refine HD.out.mono ?_
  rintro e w2 ⟨⟨b, rfl⟩, m2, h2, p2, hh2, _, t2⟩
  have H2 := Lib.hid (And.intro h2 (And.intro p2 (And.intro hh2 t2)))
  clear h2 p2 hh2 t2
  cases b with
  | true =>
    go_wp2_with fail
    go_end0
    exact ⟨rfl, m2, H2.out.1, H2.out.2.1, H2.out.2.2.1, H2.out.2.2.2⟩
  | false =>
    go_wp2_with fail
    refine (up_zero _ _).mono ?_
    rintro e w3 ⟨rfl, rfl⟩
    go_wp2_with fail
    go_end0
    exact ⟨rfl, m2, H2.out.1, H2.out.2.1, H2.out.2.2.1, H2.out.2.2.2⟩
theorem foot_eq {hb : Nat} {v v' : Value} (h : v'.ownBlock = v.ownBlock) : Foot hb v' = Foot hb v := by
  unfold Foot
  rw [h]
set_option maxHeartbeats 1000000 in
theorem hpop_any {W w : World} {hb n : Nat} {v : Value} {ms : List Hd} (h : HsAt W w hb v ms) (hn : ms.length = n + 1) (hne : ∀ k, 0 < k → k < n + 1 → (at_ ms k).l ≠ []) (hp : Hp 1 (n + 1) ms) :
    Calls Tryz.prog 91 #[.iface 93 (.pointer (some ⟨hb, 0, none⟩))] w fun e w' => (∃ y, e = .returned y) ∧ ∃ ms' v', HsAt W w' hb v' ms' ∧ (ms' ++ [at_ ms 0]).Perm ms ∧ Hp 0 n ms' ∧ ms'.length = n ∧ v'.ownBlock = v.ownBlock ∧ Tn (Foot hb v) w w' := by
  obtain ⟨a, cap, rfl, _, _⟩ := row_form h.own
  have hsw := swap_hs h (i := 0) (k := n) (by omega) (by omega) (x := 0) (y := (n : Int)) rfl rfl
  have hat := at_swp (l := ms) (i := 0) (j := n) (by omega) (by omega)
  have hn6 := h.few
  rw [hn] at hsw hn6 h ⊢
  have hm := m_len h.cell
  have hm2 := m_swap h.cell
  have HS := Lib.hid (And.intro hsw (And.intro hat (And.intro hn (And.intro hne hp))))
  clear hsw hat hn hne hp h
  have r0 : ((n + 1 : Nat) : Int) - 1 = (n : Int) := by omega
  go_enter Tryz.func91, Tryz.ntmps91
  go_wp2_with fail
  refine (len_any _ _ _ _).mono ?_
  rintro e w' ⟨rfl, rfl⟩
  clear hm r0
  go_wp2_with fail
  refine HS.out.1.mono ?_
  rintro e w2 ⟨rfl, h2, t2⟩
  have hl2 : (swp ms 0 n).length = n + 1 := by rw [swp_len]; exact HS.out.2.2.1
  have hd := down_any h2 (s := 0) (n := n) (by omega) (Nat.zero_le _) (fun k hk => by
    rw [HS.out.2.1]
    split
    · omega
    · split
      · exact HS.out.2.2.2.1 n (by omega) (by omega)
      · exact HS.out.2.2.2.1 k (by omega) (by omega)) (fun c h0 hc hs => by
    rw [HS.out.2.1, HS.out.2.1, if_neg (by omega), if_neg (by omega), if_neg (by omega), if_neg (by omega)]
    exact HS.out.2.2.2.2 c h0 (by omega) (by omega))
  have H2 := Lib.hid (And.intro hd t2)
  clear hd h2 t2 hl2 hm2
  go_wp2_with fail
  refine H2.out.1.mono ?_
  rintro e w3 ⟨⟨b, rfl⟩, m3, h3, p3, hh3, f3, t3⟩
  have hl3 : m3.length = n + 1 := by rw [p3.length_eq, swp_len]; exact HS.out.2.2.1
  obtain ⟨m4, x, rfl⟩ : ∃ m4 x, m3 = m4 ++ [x] := by
    rcases List.eq_nil_or_concat m3 with h | ⟨l, y, h⟩
    · rw [h] at hl3; simp at hl3
    · exact ⟨l, y, by rw [h, List.concat_eq_append]⟩
  have hl4 : m4.length = n := by simpa using hl3
  have hx : x = at_ ms 0 := by
    have h1 := f3 n (Nat.le_refl _)
    rw [HS.out.2.1, if_pos rfl, at_get (by omega)] at h1
    rw [← h1]
    simp [← hl4]
  have hmp := m_pop w3 hb
  have H3 := Lib.hid (And.intro (pop_any h3) (And.intro p3 (And.intro hh3 (And.intro (H2.out.2.trans t3) (And.intro hl4 hx)))))
  clear h3 p3 hh3 f3 t3 hl3 hl4 hx
  go_wp2_with fail
  refine H3.out.1.mono ?_
  rintro e w4 ⟨⟨y, rfl⟩, v', h4, t4, hv4⟩
  have H4 := Lib.hid (And.intro h4 (And.intro t4 hv4))
  clear h4 t4 hv4 hmp
  go_wp2_with fail
  go_ret
  refine ⟨⟨_, rfl⟩, m4, v', H4.out.1, ?_, ?_, H3.out.2.2.2.2.1, H4.out.2.2, H3.out.2.2.2.1.trans H4.out.2.1⟩
  · have h1 := H3.out.2.1.trans (swp_perm (l := ms) (i := 0) (j := n) (by have := HS.out.2.2.1; omega) (by have := HS.out.2.2.1; omega))
    rw [← H3.out.2.2.2.2.2]
    exact h1
  · intro c h0 hc hs
    have hl := H3.out.2.2.2.2.1
    have h1 := H3.out.2.2.1 c h0 hc hs
    have e : ∀ k, k < n → at_ (m4 ++ [x]) k = at_ m4 k := fun k hk => by
      rw [at_get (by simp; omega), at_get (by omega), List.getElem_append_left]
    rw [e c hc, e _ (by omega)] at h1
    exact h1
end Go.Proofs.YtkeggcfnoonakaaGreat
