
/-
  Merge: container/heap over the heap of heads.
-/
import Derived.Test.YtkeggcfnoonakaaGreatMgA
set_option linter.unusedSimpArgs false
set_option linter.unusedVariables false
namespace Go.Proofs.YtkeggcfnoonakaaGreat
open Go.RowKit

set_option maxRecDepth 100000 in
theorem m_of {w : World} {hb : Nat} {v : Value} (hc : w.cell? ⟨hb, 0, none⟩ = some v) (name : String) (f : Nat) (n : Nat)
    (hm : (Tryz.prog.info? 93).map (fun i => (i.methods.find? (·.name == name)).map (fun m => (m.path.toList, m.func))) = some (some ([], some (f, false)))) :
    (method (n + 1) 93 (.pointer (some ⟨hb, 0, none⟩)) name).run Tryz.prog w = .ok (f, v) w := by
  have h1 : ∀ nm, (Builtin.ssaWrapNilChk_ #[93] 93 #[.pointer (some ⟨hb, 0, none⟩), strVal "", strVal nm]).run Tryz.prog w = .ok (.pointer (some ⟨hb, 0, none⟩)) w := by intro nm; kernel_rfl
  obtain ⟨i, hi⟩ : ∃ i, Tryz.prog.info? 93 = some i := Option.isSome_iff_exists.1 (by kernel_rfl)
  rw [hi] at hm
  simp only [Option.map_some, Option.some.injEq] at hm
  obtain ⟨m, hm1, hm2⟩ := Option.map_eq_some_iff.1 hm
  injection hm2 with hm2 hm3
  have h2 : m.path = #[] := by rw [← Array.toList_eq_nil_iff]; exact hm2
  have hg : ∀ ptr, (Place.get 93 (Place.val ptr)).run Tryz.prog w = .ok ptr w := by intro ptr; rfl
  have hag : (isAgg 89).run Tryz.prog w = .ok false w := by kernel_rfl
  unfold method
  simp [go_sem, typeInfo, hi, hm1, hm3, follow, h2, receiverAt, hc, loadVar, hg, h1, Result.andThen, hag]
theorem m_less {w : World} {hb : Nat} {v : Value} (hc : w.cell? ⟨hb, 0, none⟩ = some v) : (method 303 93 (.pointer (some ⟨hb, 0, none⟩)) "Less").run Tryz.prog w = .ok (166, v) w := m_of hc "Less" _ 302 (by kernel_rfl)
theorem m_swap {w : World} {hb : Nat} {v : Value} (hc : w.cell? ⟨hb, 0, none⟩ = some v) : (method 303 93 (.pointer (some ⟨hb, 0, none⟩)) "Swap").run Tryz.prog w = .ok (167, v) w := m_of hc "Swap" _ 302 (by kernel_rfl)
theorem m_len {w : World} {hb : Nat} {v : Value} (hc : w.cell? ⟨hb, 0, none⟩ = some v) : (method 303 93 (.pointer (some ⟨hb, 0, none⟩)) "Len").run Tryz.prog w = .ok (165, v) w := m_of hc "Len" _ 302 (by kernel_rfl)
theorem m_pop (w : World) (hb : Nat) : (method 303 93 (.pointer (some ⟨hb, 0, none⟩)) "Pop").run Tryz.prog w = .ok (168, .pointer (some ⟨hb, 0, none⟩)) w := by kernel_rfl
theorem tn_drewN {F : Nat → Prop} (w : World) (d : Nat) : Tn F w (w.drewN d) := ⟨rfl, rfl, rfl, Nat.le_refl _, fun _ _ _ => rfl⟩
theorem HsAt.drewN {W w : World} {hb : Nat} {v : Value} {ms : List Hd} (h : HsAt W w hb v ms) (d : Nat) : HsAt W (w.drewN d) hb v ms :=
  ⟨h.bel.trans ((tn_drewN (F := fun _ => False) w d).below h.sz (fun _ e => e.elim)), h.sz, h.cell, h.fz, h.lo, h.own, h.apart, h.rd, h.few⟩
/-- Less, as the heap calls it. -/
theorem less_hs {W w : World} {hb : Nat} {v : Value} {ms : List Hd} (h : HsAt W w hb v ms) {n i k : Nat} (hn : n ≤ ms.length) (hne : ∀ k, k < n → (at_ ms k).l ≠ []) (hi : i < n) (hk : k < n) {x y : Int} (hx : x = (i : Int)) (hy : y = (k : Int)) {b : Bool} (hb : lessH (at_ ms i) (at_ ms k) = b) :
    Calls Tryz.prog 166 #[v, .int .i64 x, .int .i64 y] w fun e w' => e = .returned (.bool b) ∧ ∃ n, w' = w.drewN n := by
  subst hx hy hb
  have hr : ∀ j, j < n → RdP w (at_ ms j).a (at_ ms j).c (at_ ms j).l := fun j hj => by
    have hjl : j < ms.length := by omega
    rw [at_get hjl]
    have := h.rd ms[j] (List.getElem_mem hjl)
    exact ⟨this.1, this.2.1, this.2.2.imp id (fun ⟨b, off, e1, e2⟩ => ⟨b, off, e1, fun q hq => by
      have k := e2 q hq
      exact ⟨(h.bel.cell (p := ⟨b, off + q * 2, none⟩) (World.block_lt_of_cell? _ _ k.1)).trans k.1, (h.bel.cell (p := ⟨b, off + q * 2 + 1, none⟩) (World.block_lt_of_cell? _ _ k.2)).trans k.2⟩⟩)⟩
  exact less_any h.own h.few (by omega) (by omega) (hr i hi) (hr k hk) (hne i hi) (hne k hk)
theorem swap_hs {W w : World} {hb : Nat} {v : Value} {ms : List Hd} (h : HsAt W w hb v ms) {i k : Nat} (hi : i < ms.length) (hk : k < ms.length) {x y : Int} (hx : x = (i : Int)) (hy : y = (k : Int)) :
    Calls Tryz.prog 167 #[v, .int .i64 x, .int .i64 y] w fun e w' => e = .returned (.tuple #[]) ∧ HsAt W w' hb v (swp ms i k) ∧ Tn (Foot hb v) w w' := by
  subst hx hy
  exact swap_any h hi hk
set_option maxRecDepth 100000 in
set_option maxHeartbeats 4000000 in
theorem down_any {W w : World} {hb : Nat} {v : Value} {ms : List Hd} (h : HsAt W w hb v ms) {s n : Nat} (hn : n ≤ ms.length) (hs : s ≤ n) (hne : ∀ k, k < n → (at_ ms k).l ≠ []) (hp : Hp (s + 1) n ms) :
    Calls Tryz.prog 123 #[.iface 93 (.pointer (some ⟨hb, 0, none⟩)), .int .i64 (s : Int), .int .i64 (n : Int)] w fun e w' => (∃ b, e = .returned (.bool b)) ∧ ∃ ms', HsAt W w' hb v ms' ∧ ms'.Perm ms ∧ Hp s n ms' ∧ (∀ k, n ≤ k → at_ ms' k = at_ ms k) ∧ Tn (Foot hb v) w w' := by
  have hn6 : n ≤ 1000000 := Nat.le_trans hn h.few
  have H := Lib.hid (And.intro h (And.intro hn (And.intro hne hp)))
  clear h hn hne hp
  go_enter Tryz.func123, Tryz.ntmps123
  go_wp2
  go_loopw [7] (fun y wr => ∃ (i : Nat) (m1 : List Hd), i ≤ n ∧ y = .int .i64 (i : Int) ∧ HsAt W wr hb v m1 ∧ m1.Perm ms ∧ Sift s n m1 i ∧ (∀ k, n ≤ k → at_ m1 k = at_ ms k) ∧ (∀ k, k < n → (at_ m1 k).l ≠ []) ∧ Tn (Foot hb v) w wr) (fun y _ => n - (intOf y).toNat)
  case atStart => exact ⟨s, ms, hs, rfl, H.out.1, List.Perm.refl _, Sift.start H.out.2.2.2, fun _ _ => rfl, H.out.2.2.1, Tn.refl _ _⟩
  case round =>
    obtain ⟨i, m1, hi, rfl, h1, hp1, hs1, hf1, hn1, ht1⟩ := hrel
    have hlen : n ≤ m1.length := by rw [hp1.length_eq]; exact H.out.2.1
    have H1 := Lib.hid (And.intro h1 (And.intro hp1 (And.intro hs1 (And.intro hf1 (And.intro hn1 ht1)))))
    have hm0 := m_less h1.cell
    have hm1 : ∀ d, (method 303 93 (.pointer (some ⟨hb, 0, none⟩)) "Less").run Tryz.prog (wr.drewN d) = .ok (166, v) (wr.drewN d) := fun d => m_less (h1.drewN d).cell
    have hm2 : ∀ d, (method 303 93 (.pointer (some ⟨hb, 0, none⟩)) "Swap").run Tryz.prog (wr.drewN d) = .ok (167, v) (wr.drewN d) := fun d => m_swap (h1.drewN d).cell
    clear h1 hp1 hs1 hf1 hn1 ht1
    have r0 : (0 : Int) ≤ 2 * (i : Int) + 1 := by omega
    by_cases c1 : 2 * i + 1 < n
    · have r1 : ¬ (n : Int) ≤ 2 * (i : Int) + 1 := by omega
      have r1' : decide ((n : Int) ≤ 2 * (i : Int) + 1) = false := decide_eq_false (by omega)
      have i0 : i < n := by omega
      by_cases c2 : 2 * i + 2 < n
      · have r2 : 2 * (i : Int) + 1 + 1 < (n : Int) := by omega
        cases b1 : lessH (at_ m1 (2 * i + 2)) (at_ m1 (2 * i + 1)) with
        | false =>
          have B1 := Lib.hid b1
          clear b1
          have hso : son n m1 i = 2 * i + 1 := by unfold son; rw [if_neg (by rw [B1.out]; simp)]
          have HSO := Lib.hid hso
          clear hso
          cases b2 : lessH (at_ m1 (2 * i + 1)) (at_ m1 i) with
          | false =>
            have B2 := Lib.hid b2
            clear b2
            go_wp2_with fail
            refine (less_hs H1.out.1 hlen H1.out.2.2.2.2.1 (i := 2 * i + 2) (k := 2 * i + 1) c2 c1 (by omega) (by omega) B1.out).mono ?_
            rintro e _ ⟨rfl, d1, rfl⟩
            go_wp2_with fail
            refine (less_hs (H1.out.1.drewN d1) hlen H1.out.2.2.2.2.1 (i := 2 * i + 1) (k := i) c1 i0 (by omega) rfl B2.out).mono ?_
            rintro e _ ⟨rfl, d2, rfl⟩
            go_wp2_with fail
            go_ret
            exact ⟨⟨_, rfl⟩, m1, by first | exact H1.out.1.drewN _ | exact (H1.out.1.drewN _).drewN _, H1.out.2.1, H1.out.2.2.1.stop (by rw [HSO.out]; exact B2.out), H1.out.2.2.2.1, H1.out.2.2.2.2.2.trans (tn_drewN _ _)⟩
          | true =>
            have B2 := Lib.hid b2
            clear b2
            go_wp2_with fail
            refine (less_hs H1.out.1 hlen H1.out.2.2.2.2.1 (i := 2 * i + 2) (k := 2 * i + 1) c2 c1 (by omega) (by omega) B1.out).mono ?_
            rintro e _ ⟨rfl, d1, rfl⟩
            go_wp2_with fail
            refine (less_hs (H1.out.1.drewN d1) hlen H1.out.2.2.2.2.1 (i := 2 * i + 1) (k := i) c1 i0 (by omega) rfl B2.out).mono ?_
            rintro e _ ⟨rfl, d2, rfl⟩
            go_wp2_with fail
            refine (swap_hs (H1.out.1.drewN _) (i := i) (k := 2 * i + 1) (by omega) (by omega) rfl (by omega)).mono ?_
            rintro e w2 ⟨rfl, h2, t2⟩
            have H2 := Lib.hid (And.intro h2 t2)
            clear h2 t2 hm0 hm1 hm2
            go_wp2_with fail
            go_roundw
            case rel =>
              have hsw := fun k => at_swp (l := m1) (i := i) (j := 2 * i + 1) (by omega) (by omega) k
              refine ⟨2 * i + 1, swp m1 i (2 * i + 1), by omega, by first | go_num | (congr 1; omega), H2.out.1, (swp_perm (by omega) (by omega)).trans H1.out.2.1, by have := H1.out.2.2.1.step hlen c1 (by rw [HSO.out]; exact B2.out); rwa [HSO.out] at this, fun k hk => ?_, fun k hk => ?_, (H1.out.2.2.2.2.2.trans (tn_drewN _ _)).trans H2.out.2⟩
              · rw [hsw, if_neg (by omega), if_neg (by omega)]; exact H1.out.2.2.2.1 k hk
              · rw [hsw]; split; exact H1.out.2.2.2.2.1 _ i0; split; exact H1.out.2.2.2.2.1 _ (by omega); exact H1.out.2.2.2.2.1 _ hk
            case measure => simp [intOf]; omega
        | true =>
          have B1 := Lib.hid b1
          clear b1
          have hso : son n m1 i = 2 * i + 2 := by unfold son; rw [if_pos ⟨c2, B1.out⟩]
          have HSO := Lib.hid hso
          clear hso
          cases b2 : lessH (at_ m1 (2 * i + 2)) (at_ m1 i) with
          | false =>
            have B2 := Lib.hid b2
            clear b2
            go_wp2_with fail
            refine (less_hs H1.out.1 hlen H1.out.2.2.2.2.1 (i := 2 * i + 2) (k := 2 * i + 1) c2 c1 (by omega) (by omega) B1.out).mono ?_
            rintro e _ ⟨rfl, d1, rfl⟩
            go_wp2_with fail
            refine (less_hs (H1.out.1.drewN d1) hlen H1.out.2.2.2.2.1 (i := 2 * i + 2) (k := i) c2 i0 (by omega) rfl B2.out).mono ?_
            rintro e _ ⟨rfl, d2, rfl⟩
            go_wp2_with fail
            go_ret
            exact ⟨⟨_, rfl⟩, m1, by first | exact H1.out.1.drewN _ | exact (H1.out.1.drewN _).drewN _, H1.out.2.1, H1.out.2.2.1.stop (by rw [HSO.out]; exact B2.out), H1.out.2.2.2.1, H1.out.2.2.2.2.2.trans (tn_drewN _ _)⟩
          | true =>
            have B2 := Lib.hid b2
            clear b2
            go_wp2_with fail
            refine (less_hs H1.out.1 hlen H1.out.2.2.2.2.1 (i := 2 * i + 2) (k := 2 * i + 1) c2 c1 (by omega) (by omega) B1.out).mono ?_
            rintro e _ ⟨rfl, d1, rfl⟩
            go_wp2_with fail
            refine (less_hs (H1.out.1.drewN d1) hlen H1.out.2.2.2.2.1 (i := 2 * i + 2) (k := i) c2 i0 (by omega) rfl B2.out).mono ?_
            rintro e _ ⟨rfl, d2, rfl⟩
            go_wp2_with fail
            refine (swap_hs (H1.out.1.drewN _) (i := i) (k := 2 * i + 2) (by omega) (by omega) rfl (by omega)).mono ?_
            rintro e w2 ⟨rfl, h2, t2⟩
            have H2 := Lib.hid (And.intro h2 t2)
            clear h2 t2 hm0 hm1 hm2
            go_wp2_with fail
            go_roundw
            case rel =>
              have hsw := fun k => at_swp (l := m1) (i := i) (j := 2 * i + 2) (by omega) (by omega) k
              refine ⟨2 * i + 2, swp m1 i (2 * i + 2), by omega, by first | go_num | (congr 1; omega), H2.out.1, (swp_perm (by omega) (by omega)).trans H1.out.2.1, by have := H1.out.2.2.1.step hlen c1 (by rw [HSO.out]; exact B2.out); rwa [HSO.out] at this, fun k hk => ?_, fun k hk => ?_, (H1.out.2.2.2.2.2.trans (tn_drewN _ _)).trans H2.out.2⟩
              · rw [hsw, if_neg (by omega), if_neg (by omega)]; exact H1.out.2.2.2.1 k hk
              · rw [hsw]; split; exact H1.out.2.2.2.2.1 _ i0; split; exact H1.out.2.2.2.2.1 _ (by omega); exact H1.out.2.2.2.2.1 _ hk
            case measure => simp [intOf]; omega
      · have r2 : ¬ 2 * (i : Int) + 1 + 1 < (n : Int) := by omega
        have r2' : decide (2 * (i : Int) + 1 + 1 < (n : Int)) = false := decide_eq_false (by omega)
        have hso : son n m1 i = 2 * i + 1 := by unfold son; rw [if_neg (fun e => c2 e.1)]
        have HSO := Lib.hid hso
        clear hso
        cases b2 : lessH (at_ m1 (2 * i + 1)) (at_ m1 i) with
        | false =>
          have B2 := Lib.hid b2
          clear b2
          go_wp2_with fail
          refine (less_hs H1.out.1 hlen H1.out.2.2.2.2.1 (i := 2 * i + 1) (k := i) c1 i0 (by omega) rfl B2.out).mono ?_
          rintro e _ ⟨rfl, d1, rfl⟩
          go_wp2_with fail
          go_ret
          exact ⟨⟨_, rfl⟩, m1, by first | exact H1.out.1.drewN _ | exact (H1.out.1.drewN _).drewN _, H1.out.2.1, H1.out.2.2.1.stop (by rw [HSO.out]; exact B2.out), H1.out.2.2.2.1, H1.out.2.2.2.2.2.trans (tn_drewN _ _)⟩
        | true =>
          have B2 := Lib.hid b2
          clear b2
          go_wp2_with fail
          refine (less_hs H1.out.1 hlen H1.out.2.2.2.2.1 (i := 2 * i + 1) (k := i) c1 i0 (by omega) rfl B2.out).mono ?_
          rintro e _ ⟨rfl, d1, rfl⟩
          go_wp2_with fail
          refine (swap_hs (H1.out.1.drewN _) (i := i) (k := 2 * i + 1) (by omega) (by omega) rfl (by omega)).mono ?_
          rintro e w2 ⟨rfl, h2, t2⟩
          have H2 := Lib.hid (And.intro h2 t2)
          clear h2 t2 hm0 hm1 hm2
          go_wp2_with fail
          go_roundw
          case rel =>
            have hsw := fun k => at_swp (l := m1) (i := i) (j := 2 * i + 1) (by omega) (by omega) k
            refine ⟨2 * i + 1, swp m1 i (2 * i + 1), by omega, by first | go_num | (congr 1; omega), H2.out.1, (swp_perm (by omega) (by omega)).trans H1.out.2.1, by have := H1.out.2.2.1.step hlen c1 (by rw [HSO.out]; exact B2.out); rwa [HSO.out] at this, fun k hk => ?_, fun k hk => ?_, (H1.out.2.2.2.2.2.trans (tn_drewN _ _)).trans H2.out.2⟩
            · rw [hsw, if_neg (by omega), if_neg (by omega)]; exact H1.out.2.2.2.1 k hk
            · rw [hsw]; split; exact H1.out.2.2.2.2.1 _ i0; split; exact H1.out.2.2.2.2.1 _ (by omega); exact H1.out.2.2.2.2.1 _ hk
          case measure => simp [intOf]; omega
    · have r1 : (n : Int) ≤ 2 * (i : Int) + 1 := by omega
      go_wp2_with fail
      go_ret
      exact ⟨⟨_, rfl⟩, m1, H1.out.1, H1.out.2.1, H1.out.2.2.1.leaf (by omega), H1.out.2.2.2.1, H1.out.2.2.2.2.2⟩
end Go.Proofs.YtkeggcfnoonakaaGreat
