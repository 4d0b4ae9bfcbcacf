/-
  DiskPlays, DiskAll: play's walk. (Printed by genlpd.py.)
-/
import Derived.Test.YtceamkcaokdgaaaGreatDoorLPlC
import Derived.Deep.CutBlock
import Derived.Deep.CutRange
set_option linter.unusedSimpArgs false
set_option linter.unusedVariables false
namespace Go.Proofs.YtceamkcaokdgaaaGreatDoor
open Go.RowKit
variable {w w' w0 : World}

def bookCells : Array Value := #[.slice none 0 0, .slice none 0 0, .slice none 0 0, .slice none 0 0, .slice none 0 0, .slice none 0 0, .slice none 0 0, .slice none 0 0, .slice none 0 0, .slice none 0 0, .slice none 0 0, .slice none 0 0, .slice none 0 0, .slice none 0 0, .slice none 0 0, .slice none 0 0, .slice none 0 0, .slice none 0 0, .slice none 0 0, .slice none 0 0, .slice none 0 0, .slice none 0 0, .slice none 0 0, .slice none 0 0, .slice none 0 0, .slice none 0 0, .slice none 0 0, .slice none 0 0, .slice none 0 0, .slice none 0 0]
theorem book_cell (w : World) (t : TypeId) (o : Nat) (h : o < 30) : (w.alloc (.cells bookCells t)).cell? ⟨w.heap.size, o, none⟩ = some (.slice none 0 0) := by
  rw [World.cell?_alloc_mark]
  have e : bookCells = (List.replicate 30 (Value.slice none 0 0)).toArray := rfl
  rw [e, List.getElem?_toArray, List.getElem?_replicate, if_pos h]
set_option maxRecDepth 100000 in
set_option maxHeartbeats 8000000 in
theorem play_any (each : Bool) (a : Option Addr) (len cap : Nat) (l : List LOp) {W : World} (hl : OpsAt W a len l) (hlen : len ≤ maxLen) (w : World) (hWw : W = w) :
    Calls Tryz.prog 5 #[.slice a len cap, .bool each] w fun e w' => e = .returned (.bool true) ∧ Below w.heap.size w w' := by
  subst hWw
  unfold maxLen at hlen
  obtain ⟨hll, hcells, hwf⟩ := hl
  generalize hw : W = w at *
  clear hw
  by_cases hbig : 300 < len
  · have t1 : (300 : Int) < (len : Int) := by omega
    clear hcells hwf hll hbig
    go_enter Tryz.func5, Tryz.ntmps5
    go_wp2_with fail
    refine (alive_any w).mono ?_
    rintro e w1 ⟨rfl, b1⟩
    go_wp2
    go_ret
    exact ⟨rfl, b1⟩
  · have HC := Lib.hid hcells
    have HLL := Lib.hid hll
    have HWF : Hid (∀ o ∈ l, o.wf w) := hwf
    have h2 : len ≤ 300 := by omega
    have t1 : ¬ (300 : Int) < (len : Int) := by omega
    clear hcells hll hwf hbig hlen
    go_enter Tryz.func5, Tryz.ntmps5
    go_wp2_with fail
    refine (alive_any w).mono ?_
    rintro _ w1 ⟨rfl, hb1⟩
    have HB1 := Lib.hid hb1
    obtain ⟨w2, hw2⟩ : ∃ w2, w1.alloc (.cells bookCells 42) = w2 := ⟨_, rfl⟩
    have hb12 : Below w1.heap.size w1 w2 := by rw [← hw2]; exact (Below.refl _ _).alloc (Nat.le_refl _) _
    have hz2 : w2.heap.size = w1.heap.size + 1 := by rw [← hw2]; simp
    have HBK := Lib.hid (show (∀ o, o < 30 → w2.cell? ⟨w1.heap.size, o, none⟩ = some (.slice none 0 0)) ∧ ∀ j, w2.frozen? ⟨w1.heap.size, j, none⟩ = false from ⟨fun o ho => by rw [← hw2]; exact book_cell _ _ o ho, fun j => by rw [← hw2]; exact fz_new _ _ _ _⟩)
    have HB2 := Lib.hid (And.intro hb12 hz2)
    unfold bookCells at hw2
    clear hb1 hb12 hz2
    go_upto_region 6 with fail
    clear hw2
    go_cut [6, 7] from 16 (fun x6 x7 wx => ∃ lA mA x y, x6 = .pointer (some ⟨lA, 0, none⟩) ∧ x7 = .pointer (some ⟨mA, 0, none⟩) ∧ PL lA mA 0 w wx x y w1.heap.size 0)
    case first =>
      go_wp2_with fail
      refine (new_any w2).mono ?_
      rintro _ w3 ⟨rfl, hd3, hb3, hz3⟩
      have H3 := Lib.hid (And.intro hd3 (And.intro hb3 hz3))
      clear hd3 hb3 hz3
      go_wp2_with fail
      refine (new_any w3).mono ?_
      rintro _ w4 ⟨rfl, hd4, hb4, hz4⟩
      have H4 := Lib.hid (And.intro hd4 (And.intro hb4 hz4))
      clear hd4 hb4 hz4
      go_wp2_with fail
      refine (rnew_any w4).mono ?_
      rintro _ w5 ⟨rfl, hd5, hb5, hz5⟩
      have H5 := Lib.hid (And.intro hd5 (And.intro hb5 hz5))
      clear hd5 hb5 hz5
      go_wp2_with fail
      refine (rnew_any w5).mono ?_
      rintro _ w6 ⟨rfl, hd6, hb6, hz6⟩
      have H6 := Lib.hid (And.intro hd6 (And.intro hb6 hz6))
      clear hd6 hb6 hz6
      have hz2 := HB2.out.2
      have hz3 := H3.out.2.2
      have hz4 := H4.out.2.2
      have hz5 := H5.out.2.2
      have hz6 := H6.out.2.2
      have z2 : w2.heap.size = w1.heap.size + 1 := by omega
      have z3 : w3.heap.size = w1.heap.size + 3 := by omega
      have z4 : w4.heap.size = w1.heap.size + 5 := by omega
      have z5 : w5.heap.size = w1.heap.size + 6 := by omega
      have z6 : w6.heap.size = w1.heap.size + 7 := by omega
      have hd1 := H3.out.1
      have hd2 := H4.out.1
      have hr1 := H5.out.1
      have hr2 := H6.out.1
      have hbk := HBK.out
      have hb45 := H5.out.2.1
      have hb46 : Below w4.heap.size w4 w6 := hb45.trans (H6.out.2.1.mono hb45.size)
      have hb36 : Below w3.heap.size w3 w6 := H4.out.2.1.trans (hb46.mono H4.out.2.1.size)
      have hb26 : Below w2.heap.size w2 w6 := H3.out.2.1.trans (hb36.mono H3.out.2.1.size)
      have hb16 : Below w1.heap.size w1 w6 := HB2.out.1.trans (hb26.mono HB2.out.1.size)
      have hb06 : Below w.heap.size w w6 := HB1.out.trans (hb16.mono HB1.out.size)
      have D1 := hd1.below hb36
      have D2 := hd2.below hb46
      have R1 := fun F => (hr1 F).below H6.out.2.1
      have B0 : ∀ o, o < 30 → w6.cell? ⟨w1.heap.size, o, none⟩ = some (.slice none 0 0) := fun o ho => by
        have h := hbk.1 o ho
        exact (hb26.cell (p := ⟨w1.heap.size, o, none⟩) (by show w1.heap.size < w2.heap.size; omega)).trans h
      have BF : ∀ j, w6.frozen? ⟨w1.heap.size, j, none⟩ = false := fun j => by
        have h := hbk.2 j
        exact (hb26.frozen (p := ⟨w1.heap.size, j, none⟩) (by show w1.heap.size < w2.heap.size; omega)).trans h
      rw [z2] at D1
      rw [z3] at D2
      rw [z4] at R1
      rw [z5] at hr2
      have hNW : w.heap.size ≤ w1.heap.size := by have := HB1.out.size; omega
      have hst := pst_start (w0 := w) hNW (by omega) D1 D2 R1 hr2 B0 BF hb06
      have HST := Lib.hid hst
      rw [z2, z3, z4, z5]
      clear hz2 hz3 hz4 hz5 hz6 hd1 hd2 hr1 hr2 hbk hb45 hb46 hb36 hb26 hb16 D1 D2 R1 B0 BF hst z2 z3 z4 z5
      go_wp2_with fail
      go_meet
      case rel =>
        have hfin := pl_start HST.out sim_fresh sim_fresh rfl rfl 45 48
        rw [z6] at hfin
        exact ⟨_, _, _, _, rfl, rfl, hfin⟩
    case rest =>
    obtain ⟨lA, mA, x0, y0, hx6, hx7, hpl0⟩ := hcut
    subst hx6 hx7
    obtain ⟨bk, hbk⟩ : ∃ bk, bk = w1.heap.size := ⟨_, rfl⟩
    rw [← hbk] at hpl0 ⊢
    clear HBK HB2 HB1
    have HPL0 := Lib.hid hpl0
    clear hbk hpl0
    go_wp2_with fail
    go_loopw [8] (fun v wr => ∃ (i : Nat) (x y : PV), i ≤ len ∧ v = .int .i64 (i : Int) ∧ PL lA mA 0 w wr x y bk i) (fun v _ => len - (intOf v).toNat)
    case atStart => exact ⟨0, x0, y0, by omega, rfl, HPL0.out⟩
    case round =>
      obtain ⟨i, x, y, hi, rfl, hpl⟩ := hrel
      clear HPL0
      have HPL := Lib.hid hpl
      by_cases hlt : i < len
      · obtain ⟨b, off, rfl, hb, hc⟩ : ∃ b off, a = some ⟨b, off, none⟩ ∧ b < w.heap.size ∧ ∀ i (hi : i < l.length), l[i].here w b (off + i * 7) := by
          rcases HC.out with h | h
          · omega
          · exact h
        have hil : i < l.length := by have := HLL.out; omega
        obtain ⟨q0, q1, q2, q3, q4, q5, q6⟩ := hc i hil
        have hwfo := HWF.out l[i] (List.getElem_mem hil)
        obtain ⟨o, ho⟩ : ∃ o, l[i] = o := ⟨_, rfl⟩
        rw [ho] at q0 q1 q2 q3 q4 q5 q6 hwfo
        have HWO := Lib.hid hwfo
        have hbel := hpl.st.bel
        obtain ⟨ob, hob⟩ : ∃ ob, off + i * 7 = ob := ⟨_, rfl⟩
        rw [hob] at q0 q1 q2 q3 q4 q5 q6
        have p0 := (hbel.cell (p := ⟨b, ob, none⟩) hb).trans q0
        have p1 := (hbel.cell (p := ⟨b, ob + 1, none⟩) hb).trans q1
        have p2 := (hbel.cell (p := ⟨b, ob + 2, none⟩) hb).trans q2
        have p3 := (hbel.cell (p := ⟨b, ob + 3, none⟩) hb).trans q3
        have p4 := (hbel.cell (p := ⟨b, ob + 4, none⟩) hb).trans q4
        have p5 := (hbel.cell (p := ⟨b, ob + 5, none⟩) hb).trans q5
        have p6 := (hbel.cell (p := ⟨b, ob + 6, none⟩) hb).trans q6
        have r1 : (i : Int) < (len : Int) := by omega
        clear hpl hc ho hwfo hbel
        have HQC := Lib.hid (show ∀ W, Below w.heap.size w W → W.cell? ⟨b, ob, none⟩ = some (.int .i64 o.k) ∧ W.cell? ⟨b, ob + 1, none⟩ = some (.int .i64 o.wh) ∧ W.cell? ⟨b, ob + 2, none⟩ = some (.int .i64 o.a) ∧ W.cell? ⟨b, ob + 3, none⟩ = some (.int .i64 o.b) ∧ W.cell? ⟨b, ob + 4, none⟩ = some (.slice o.ca o.cn o.cc) ∧ W.cell? ⟨b, ob + 5, none⟩ = some (.string o.nm) ∧ W.cell? ⟨b, ob + 6, none⟩ = some (.string o.dt) from fun W hW => ⟨(hW.cell (p := ⟨b, ob, none⟩) hb).trans q0, (hW.cell (p := ⟨b, ob + 1, none⟩) hb).trans q1, (hW.cell (p := ⟨b, ob + 2, none⟩) hb).trans q2, (hW.cell (p := ⟨b, ob + 3, none⟩) hb).trans q3, (hW.cell (p := ⟨b, ob + 4, none⟩) hb).trans q4, (hW.cell (p := ⟨b, ob + 5, none⟩) hb).trans q5, (hW.cell (p := ⟨b, ob + 6, none⟩) hb).trans q6⟩)
        clear q0 q1 q2 q3 q4 q5 q6
        by_cases hdt : 9000 < o.dt.size
        · have t3 : (9000 : Int) < (o.dt.size : Int) := by omega
          go_wp2
          go_ret
          exact ⟨rfl, HPL.out.st.bel⟩
        by_cases hcn : 60 < o.cn
        · have t3 : ¬ (9000 : Int) < (o.dt.size : Int) := by omega
          have t4 : (60 : Int) < (o.cn : Int) := by omega
          go_wp2
          go_ret
          exact ⟨rfl, HPL.out.st.bel⟩
        have HSZ := Lib.hid (show o.cn ≤ 60 ∧ o.dt.size ≤ 9000 from ⟨by omega, by omega⟩)
        have t3 : ¬ (9000 : Int) < (o.dt.size : Int) := by omega
        have t4 : ¬ (60 : Int) < (o.cn : Int) := by omega
        clear hdt hcn
        obtain ⟨b13, h13⟩ : ∃ b13, (o.k == 13) = b13 := ⟨_, rfl⟩
        rcases (by have := bit_one o.wh; omega : bits .and .i64 o.wh 1 = 0 ∨ bits .and .i64 o.wh 1 = 1) with hbit | hbit
        · obtain ⟨x1, y1, hq⟩ : ∃ x1 y1, PL lA mA 0 w wr x1 y1 bk i := ⟨_, _, HPL.out⟩
          have HQ := Lib.hid hq
          have k0 : wr.cell? ⟨lA, 0, none⟩ = some (.pointer (some ⟨x1.db, 0, none⟩)) := hq.l0
          have k1 : wr.cell? ⟨lA, 1, none⟩ = some (.pointer (some ⟨y1.db, 0, none⟩)) := hq.l1
          have k2 : wr.cell? ⟨mA, 0, none⟩ = some (.pointer (some ⟨x1.rb, 0, none⟩)) := hq.m0
          have k3 : wr.cell? ⟨mA, 1, none⟩ = some (.pointer (some ⟨y1.rb, 0, none⟩)) := hq.m1
          have llt := World.block_lt_of_cell? _ _ k0
          have mlt := World.block_lt_of_cell? _ _ k2
          simp only at llt mlt
          clear hq
          go_upto_if 57 with fail
          go_cut [] from 24 to 103 (fun wx => ∃ x y, PL lA mA 0 w wx x y bk (i + 1))
          case first =>
            cases b13 with
            | true =>
              have hwr1 : IntKind.i64.wrap 1 = 1 := by decide
              have hwr0 : IntKind.i64.wrap 0 = 0 := by decide
              have k2' : wr.drew.cell? ⟨lA, 0, none⟩ = some (.pointer (some ⟨x1.db, 0, none⟩)) := k0
              have k3' : wr.drew.cell? ⟨mA, 0, none⟩ = some (.pointer (some ⟨x1.rb, 0, none⟩)) := k2
              go_wp2_with fail
              refine wp_region_K (fun w' => w'.cell? ⟨lA, 0, none⟩ = some (.pointer (some ⟨x1.db, 0, none⟩)) ∧ w'.cell? ⟨mA, 0, none⟩ = some (.pointer (some ⟨x1.rb, 0, none⟩))) 15 16 (by kernel_rfl) (by kernel_rfl) ⟨k2', k3'⟩ (fun hH => ?_)
              refine wpAnyK_take (i := 0) [15] (v := ?v1) rfl (by kernel_rfl) (by kernel_rfl) (by kernel_rfl) (by kernel_rfl) (fun _ _ _ h => h) (Or.inl ⟨by rfl, ?hy1⟩) hH ?rest1
              case hy1 => (intro w hSw; (try dsimp only at hSw); go_simp; with_reducible rfl)
              try simp only [Act.put, List.setIfInBounds_toArray, List.set_cons_zero, List.set_cons_succ]
              refine wpAnyK_take (i := 1) [15] (v := ?v2) rfl (by kernel_rfl) (by kernel_rfl) (by kernel_rfl) (by kernel_rfl) (fun _ _ _ h => h) (Or.inl ⟨by rfl, ?hy2⟩) hH ?rest2
              case hy2 => (intro w hSw; (try dsimp only at hSw); go_simp; with_reducible rfl)
              try simp only [Act.put, List.setIfInBounds_toArray, List.set_cons_zero, List.set_cons_succ]
              refine wpAnyK_take (i := 2) [15] (v := ?v3) rfl (by kernel_rfl) (by kernel_rfl) (by kernel_rfl) (by kernel_rfl) (fun _ _ _ h => h) (Or.inl ⟨by rfl, ?hy3⟩) hH ?rest3
              case hy3 => (intro w hSw; (try dsimp only at hSw); go_simp; with_reducible rfl)
              try simp only [Act.put, List.setIfInBounds_toArray, List.set_cons_zero, List.set_cons_succ]
              refine wpAnyK_take (i := 3) [15] (v := ?v4) rfl (by kernel_rfl) (by kernel_rfl) (by kernel_rfl) (by kernel_rfl) (fun _ _ _ h => h) (Or.inl ⟨by rfl, ?hy4⟩) hH ?rest4
              case hy4 => (intro w hSw; (try dsimp only at hSw); go_simp; with_reducible rfl)
              try simp only [Act.put, List.setIfInBounds_toArray, List.set_cons_zero, List.set_cons_succ]
              refine wpAnyK_take (i := 4) [15] (v := ?v5) rfl (by kernel_rfl) (by kernel_rfl) (by kernel_rfl) (by kernel_rfl) (fun _ _ _ h => h) (Or.inl ⟨by rfl, ?hy5⟩) hH ?rest5
              case hy5 => (intro w hSw; (try dsimp only at hSw); go_simp; with_reducible rfl)
              try simp only [Act.put, List.setIfInBounds_toArray, List.set_cons_zero, List.set_cons_succ]
              refine wpAnyK_take (i := 5) [15] (v := ?v6) rfl (by kernel_rfl) (by kernel_rfl) (by kernel_rfl) (by kernel_rfl) (fun _ _ _ h => h) (Or.inl ⟨by rfl, ?hy6⟩) hH ?rest6
              case hy6 => (intro w hSw; (try dsimp only at hSw); go_simp; with_reducible rfl)
              try simp only [Act.put, List.setIfInBounds_toArray, List.set_cons_zero, List.set_cons_succ]
              refine wpAnyK_take (i := 6) [15] (v := ?v7) rfl (by kernel_rfl) (by kernel_rfl) (by kernel_rfl) (by kernel_rfl) (fun _ _ _ h => h) (Or.inl ⟨by rfl, ?hy7⟩) hH ?rest7
              case hy7 => (intro w hSw; (try dsimp only at hSw); go_simp; with_reducible rfl)
              try simp only [Act.put, List.setIfInBounds_toArray, List.set_cons_zero, List.set_cons_succ]
              refine wpAnyK_take (i := 8) [15] (v := ?v8) rfl (by kernel_rfl) (by kernel_rfl) (by kernel_rfl) (by kernel_rfl) (fun _ _ _ h => h) (Or.inl ⟨by rfl, ?hy8⟩) hH ?rest8
              case hy8 => (intro w hSw; (try dsimp only at hSw); go_simp; with_reducible rfl)
              try simp only [Act.put, List.setIfInBounds_toArray, List.set_cons_zero, List.set_cons_succ]
              refine wpAnyK_take (i := 9) [15] (v := ?v9) rfl (by kernel_rfl) (by kernel_rfl) (by kernel_rfl) (by kernel_rfl) (fun _ _ _ h => h) (Or.inl ⟨by rfl, ?hy9⟩) hH ?rest9
              case hy9 => (intro w hSw; (try dsimp only at hSw); go_simp; with_reducible rfl)
              try simp only [Act.put, List.setIfInBounds_toArray, List.set_cons_zero, List.set_cons_succ]
              refine wpAnyK_take (i := 10) [15] (v := ?v10) rfl (by kernel_rfl) (by kernel_rfl) (by kernel_rfl) (by kernel_rfl) (fun _ _ _ h => h) (Or.inl ⟨by rfl, ?hy10⟩) hH ?rest10
              case hy10 => (intro w hSw; (try dsimp only at hSw); go_simp; with_reducible rfl)
              try simp only [Act.put, List.setIfInBounds_toArray, List.set_cons_zero, List.set_cons_succ]
              refine wpAnyK_one (i := 7) (by kernel_rfl) rfl (fun K hK => ?_) (by kernel_rfl)
              go_simp
              go_at_call 9
              refine (pst_twin (HQ.out.st.below (Below.refl _ wr).drew)).mono ?_
              rintro _ w6 ⟨nb, rfl, hp6, hb6⟩
              simp only []
              have HP6 := Lib.hid hp6
              have hbr6 : Below wr.heap.size wr w6 := ((Below.refl _ wr).drew).trans (hb6.mono (Nat.le_refl _))
              have HB6 := Lib.hid hbr6
              have e0 := (hbr6.cell (p := ⟨lA, 0, none⟩) llt).trans k0
              have e2 := (hbr6.cell (p := ⟨mA, 0, none⟩) mlt).trans k2
              clear hp6 hb6 hbr6
              refine hK.out _ _ ⟨e0, e2⟩ (fun hH => ?_)
              clear hK K
              try simp only [Act.put, List.setIfInBounds_toArray, List.set_cons_zero, List.set_cons_succ]
              refine wpAnyK_take (i := 12) [15] (v := ?v11) rfl (by kernel_rfl) (by kernel_rfl) (by kernel_rfl) (by kernel_rfl) (fun _ _ _ h => h) (Or.inl ⟨by rfl, ?hy11⟩) hH ?rest11
              case hy11 => (intro w hSw; (try dsimp only at hSw); go_simp; with_reducible rfl)
              try simp only [Act.put, List.setIfInBounds_toArray, List.set_cons_zero, List.set_cons_succ]
              refine wpAnyK_one (i := 11) (by kernel_rfl) rfl (fun K hK => ?_) (by kernel_rfl)
              go_simp
              go_at_call 10
              refine (pst_rtwin HP6.out).mono ?_
              rintro _ w7 ⟨nm, rfl, hp7, hb7⟩
              simp only []
              have HP7 := Lib.hid hp7
              have hbr7 : Below wr.heap.size wr w7 := HB6.out.trans (hb7.mono HB6.out.size)
              have HB7 := Lib.hid hbr7
              have e0 := (hbr7.cell (p := ⟨lA, 0, none⟩) llt).trans k0
              have e1 := (hbr7.cell (p := ⟨lA, 1, none⟩) llt).trans k1
              have e2 := (hbr7.cell (p := ⟨mA, 0, none⟩) mlt).trans k2
              have e3 := (hbr7.cell (p := ⟨mA, 1, none⟩) mlt).trans k3
              have z0 := (hbr7.frozen (p := ⟨lA, 1, none⟩) llt).trans (HQ.out.fl 1)
              have z1 := (hbr7.frozen (p := ⟨mA, 1, none⟩) mlt).trans (HQ.out.fm 1)
              have g0 : (w7.setCell ⟨lA, 1, none⟩ (.pointer (some ⟨nb, 0, none⟩))).cell? ⟨lA, 0, none⟩ = some (.pointer (some ⟨x1.db, 0, none⟩)) := by rw [World.cell?_setCell_other _ _ _ _ (by intro e; injection e with _ e; cases e)]; exact e0
              have g2 : (w7.setCell ⟨lA, 1, none⟩ (.pointer (some ⟨nb, 0, none⟩))).cell? ⟨mA, 0, none⟩ = some (.pointer (some ⟨x1.rb, 0, none⟩)) := by rw [World.cell?_setCell_other _ _ _ _ (by intro e; injection e with e; exact HQ.out.ne e)]; exact e2
              have g3 : (w7.setCell ⟨lA, 1, none⟩ (.pointer (some ⟨nb, 0, none⟩))).cell? ⟨mA, 1, none⟩ = some (.pointer (some ⟨y1.rb, 0, none⟩)) := by rw [World.cell?_setCell_other _ _ _ _ (by intro e; injection e with e; exact HQ.out.ne e)]; exact e3
              have z3 : (w7.setCell ⟨lA, 1, none⟩ (.pointer (some ⟨nb, 0, none⟩))).frozen? ⟨mA, 1, none⟩ = false := by rw [World.frozen?_setCell]; exact z1
              clear hp7 hb7 hbr7
              refine hK.out _ _ ⟨e0, e2⟩ (fun hH => ?_)
              clear hK K
              try simp only [Act.put, List.setIfInBounds_toArray, List.set_cons_zero, List.set_cons_succ]
              refine wpAnyK_one (i := 13) (by kernel_rfl) rfl (fun K hK => ?_) (by kernel_rfl)
              go_simp
              refine hK.out _ _ ⟨g0, g2⟩ (fun hH => ?_)
              clear hK K
              try simp only [Act.put, List.setIfInBounds_toArray, List.set_cons_zero, List.set_cons_succ]
              refine wpAnyK_take (i := 14) [15] (v := ?v12) rfl (by kernel_rfl) (by kernel_rfl) (by kernel_rfl) (by kernel_rfl) (fun _ _ _ h => h) (Or.inl ⟨by rfl, ?hy12⟩) hH ?rest12
              case hy12 => (intro w hSw; (try dsimp only at hSw); go_simp; with_reducible rfl)
              try simp only [Act.put, List.setIfInBounds_toArray, List.set_cons_zero, List.set_cons_succ]
              refine wpAnyK_last (by kernel_rfl) rfl (fun K hK => ?_) (by kernel_rfl)
              go_simp
              refine hK.out _ _ (wpAnyK_done (by kernel_rfl) ?_ _)
              clear hK K hH k2' k3' e0 e1 e2 e3 z0 z1 g0 g2 g3 z3
              go_wp2_with fail
              go_meet
              case rel =>
                obtain ⟨x9, y9, h9⟩ := (HQ.out.tw (by decide) HP7.out HB7.out).up.zero (by decide)
                exact ⟨x9, y9, h9⟩
            | false =>
              have hdr : Below wr.heap.size wr wr.drew := (Below.refl _ wr).drew
              obtain ⟨d0, d1, d2, d3, d4, d5, d6⟩ := HQC.out wr.drew (HQ.out.st.bel.trans (hdr.mono HQ.out.st.bel.size))
              have k2' : wr.drew.cell? ⟨lA, 0, none⟩ = some (.pointer (some ⟨x1.db, 0, none⟩)) := k0
              have k3' : wr.drew.cell? ⟨mA, 0, none⟩ = some (.pointer (some ⟨x1.rb, 0, none⟩)) := k2
              go_wp2_with fail
              refine wp_region_K (fun w' => w'.cell? ⟨lA, 0, none⟩ = some (.pointer (some ⟨x1.db, 0, none⟩)) ∧ w'.cell? ⟨mA, 0, none⟩ = some (.pointer (some ⟨x1.rb, 0, none⟩)) ∧ w'.cell? ⟨b, ob, none⟩ = some (.int .i64 o.k) ∧ w'.cell? ⟨b, ob + 1, none⟩ = some (.int .i64 o.wh) ∧ w'.cell? ⟨b, ob + 2, none⟩ = some (.int .i64 o.a) ∧ w'.cell? ⟨b, ob + 3, none⟩ = some (.int .i64 o.b) ∧ w'.cell? ⟨b, ob + 4, none⟩ = some (.slice o.ca o.cn o.cc) ∧ w'.cell? ⟨b, ob + 5, none⟩ = some (.string o.nm) ∧ w'.cell? ⟨b, ob + 6, none⟩ = some (.string o.dt)) 12 13 (by kernel_rfl) (by kernel_rfl) ⟨k2', k3', d0, d1, d2, d3, d4, d5, d6⟩ (fun hH => ?_)
              refine wpAnyK_take (i := 0) [1, 2, 11, 12] (v := ?v13) rfl (by kernel_rfl) (by kernel_rfl) (by kernel_rfl) (by kernel_rfl) (fun _ _ _ h => h) (Or.inl ⟨by rfl, ?hy13⟩) hH ?rest13
              case hy13 => (intro w hSw; (try dsimp only at hSw); go_simp; with_reducible rfl)
              try simp only [Act.put, List.setIfInBounds_toArray, List.set_cons_zero, List.set_cons_succ]
              refine wpAnyK_take (i := 1) [2, 11, 12] (v := ?v14) rfl (by kernel_rfl) (by kernel_rfl) (by kernel_rfl) (by kernel_rfl) (fun _ _ _ h => h) (Or.inl ⟨by rfl, ?hy14⟩) hH ?rest14
              case hy14 => (intro w hSw; (try dsimp only at hSw); go_simp; with_reducible rfl)
              try simp only [Act.put, List.setIfInBounds_toArray, List.set_cons_zero, List.set_cons_succ]
              refine wpAnyK_take (i := 2) [11, 12] (v := ?v15) rfl (by kernel_rfl) (by kernel_rfl) (by kernel_rfl) (by kernel_rfl) (fun _ _ _ h => h) (Or.inl ⟨by rfl, ?hy15⟩) hH ?rest15
              case hy15 => (intro w hSw; (try dsimp only at hSw); go_simp; with_reducible rfl)
              try simp only [Act.put, List.setIfInBounds_toArray, List.set_cons_zero, List.set_cons_succ]
              refine wpAnyK_take (i := 3) [4, 5, 11, 12] (v := ?v16) rfl (by kernel_rfl) (by kernel_rfl) (by kernel_rfl) (by kernel_rfl) (fun _ _ _ h => h) (Or.inl ⟨by rfl, ?hy16⟩) hH ?rest16
              case hy16 => (intro w hSw; (try dsimp only at hSw); go_simp; with_reducible rfl)
              try simp only [Act.put, List.setIfInBounds_toArray, List.set_cons_zero, List.set_cons_succ]
              refine wpAnyK_take (i := 4) [5, 11, 12] (v := ?v17) rfl (by kernel_rfl) (by kernel_rfl) (by kernel_rfl) (by kernel_rfl) (fun _ _ _ h => h) (Or.inl ⟨by rfl, ?hy17⟩) hH ?rest17
              case hy17 => (intro w hSw; (try dsimp only at hSw); go_simp; with_reducible rfl)
              try simp only [Act.put, List.setIfInBounds_toArray, List.set_cons_zero, List.set_cons_succ]
              refine wpAnyK_take (i := 5) [11, 12] (v := ?v18) rfl (by kernel_rfl) (by kernel_rfl) (by kernel_rfl) (by kernel_rfl) (fun _ _ _ h => h) (Or.inl ⟨by rfl, ?hy18⟩) hH ?rest18
              case hy18 => (intro w hSw; (try dsimp only at hSw); go_simp; with_reducible rfl)
              try simp only [Act.put, List.setIfInBounds_toArray, List.set_cons_zero, List.set_cons_succ]
              refine wpAnyK_take (i := 6) [8, 9, 11, 12] (v := ?v19) rfl (by kernel_rfl) (by kernel_rfl) (by kernel_rfl) (by kernel_rfl) (fun _ _ _ h => h) (Or.inl ⟨by rfl, ?hy19⟩) hH ?rest19
              case hy19 => (intro w hSw; (try dsimp only at hSw); go_simp; with_reducible rfl)
              try simp only [Act.put, List.setIfInBounds_toArray, List.set_cons_zero, List.set_cons_succ]
              refine wpAnyK_take (i := 7) [8, 9, 11, 12] (v := ?v20) rfl (by kernel_rfl) (by kernel_rfl) (by kernel_rfl) (by kernel_rfl) (fun _ _ _ h => h) (Or.inl ⟨by rfl, ?hy20⟩) hH ?rest20
              case hy20 => (intro w hSw; (try dsimp only at hSw); go_simp; with_reducible rfl)
              try simp only [Act.put, List.setIfInBounds_toArray, List.set_cons_zero, List.set_cons_succ]
              refine wpAnyK_take (i := 8) [9, 11, 12] (v := ?v21) rfl (by kernel_rfl) (by kernel_rfl) (by kernel_rfl) (by kernel_rfl) (fun _ _ _ h => h) (Or.inl ⟨by rfl, ?hy21⟩) hH ?rest21
              case hy21 => (intro w hSw; (try dsimp only at hSw); go_simp; with_reducible rfl)
              try simp only [Act.put, List.setIfInBounds_toArray, List.set_cons_zero, List.set_cons_succ]
              refine wpAnyK_take (i := 9) [11, 12] (v := ?v22) rfl (by kernel_rfl) (by kernel_rfl) (by kernel_rfl) (by kernel_rfl) (fun _ _ _ h => h) (Or.inl ⟨by rfl, ?hy22⟩) hH ?rest22
              case hy22 => (intro w hSw; (try dsimp only at hSw); go_simp; with_reducible rfl)
              try simp only [Act.put, List.setIfInBounds_toArray, List.set_cons_zero, List.set_cons_succ]
              refine wpAnyK_take (i := 10) [11, 12] (v := ?v23) rfl (by kernel_rfl) (by kernel_rfl) (by kernel_rfl) (by kernel_rfl) (fun _ _ _ h => h) (Or.inl ⟨by rfl, ?hy23⟩) hH ?rest23
              case hy23 => (intro w hSw; (try dsimp only at hSw); go_simp; with_reducible rfl)
              try simp only [Act.put, List.setIfInBounds_toArray, List.set_cons_zero, List.set_cons_succ]
              refine wpAnyK_one (i := 11) (by kernel_rfl) rfl (fun K hK => ?_) (by kernel_rfl)
              go_simp
              go_at_call 11
              refine (pl_step (HQ.out.below hdr) (by omega) HWO.out HSZ.out.1 HSZ.out.2).mono ?_
              rintro _ w6 ⟨rfl, D6, R6, hp6⟩
              simp only []
              have HP6 := Lib.hid hp6
              obtain ⟨c0, c1, c2, c3, c4, c5, c6⟩ := HQC.out w6 hp6.st.bel
              have e0 := hp6.l0
              have e2 := hp6.m0
              simp only at e0 e2
              clear hp6
              refine hK.out _ _ ⟨e0, e2, c0, c1, c2, c3, c4, c5, c6⟩ (fun hH => ?_)
              clear hK K
              try simp only [Act.put, List.setIfInBounds_toArray, List.set_cons_zero, List.set_cons_succ]
              refine wpAnyK_last (by kernel_rfl) rfl (fun K hK => ?_) (by kernel_rfl)
              go_simp
              refine hK.out _ _ (wpAnyK_done (by kernel_rfl) ?_ _)
              clear hK K hH k2' k3' e0 e2 c0 c1 c2 c3 c4 c5 c6 d0 d1 d2 d3 d4 d5 d6
              go_wp2_with fail
              go_meet
              case rel =>
                obtain ⟨x9, y9, h9⟩ := HP6.out.zero (by decide)
                exact ⟨x9, y9, h9⟩
          case rest =>
            obtain ⟨x9, y9, h9⟩ := hcut
            have H9 := Lib.hid h9
            have c0 : wc.cell? ⟨lA, 0, none⟩ = some (.pointer (some ⟨x9.db, 0, none⟩)) := h9.l0
            have c2 : wc.cell? ⟨mA, 0, none⟩ = some (.pointer (some ⟨x9.rb, 0, none⟩)) := h9.m0
            clear h9 k0 k1 k2 k3 llt mlt p0 p1 p2 p3 p4 p5 p6
            cases each with
            | false =>
              go_wp2_with fail
              go_roundw
              case rel => exact ⟨i + 1, x9, y9, by omega, by go_num, H9.out⟩
              case measure => simp [intOf]; omega
            | true =>
              go_wp2_with (first
                | (go_at_call 12; have tok := H10; refine (pl_looks1 H10.out).mono ?_; rintro _ w11 ⟨rfl, h11⟩; have H11 := Lib.hid h11; clear h11; simp only [])
                | (go_at_call 12; refine (pl_looks H9.out).mono ?_; rintro _ w10 ⟨rfl, h10⟩; have H10 := Lib.hid h10; have d0 : w10.cell? ⟨lA, 1, none⟩ = some (.pointer (some ⟨y9.db, 0, none⟩)) := h10.l1; have d2 : w10.cell? ⟨mA, 1, none⟩ = some (.pointer (some ⟨y9.rb, 0, none⟩)) := h10.m1; clear h10; simp only []))
              go_roundw
              case rel => exact ⟨i + 1, x9, y9, by omega, by go_num, H11.out⟩
              case measure => simp [intOf]; omega
        · obtain ⟨x1, y1, hq⟩ : ∃ x1 y1, PL lA mA 1 w wr x1 y1 bk i := ⟨_, _, (HPL.out.swap (by decide))⟩
          have HQ := Lib.hid hq
          have k0 : wr.cell? ⟨lA, 1, none⟩ = some (.pointer (some ⟨x1.db, 0, none⟩)) := hq.l0
          have k1 : wr.cell? ⟨lA, 0, none⟩ = some (.pointer (some ⟨y1.db, 0, none⟩)) := hq.l1
          have k2 : wr.cell? ⟨mA, 1, none⟩ = some (.pointer (some ⟨x1.rb, 0, none⟩)) := hq.m0
          have k3 : wr.cell? ⟨mA, 0, none⟩ = some (.pointer (some ⟨y1.rb, 0, none⟩)) := hq.m1
          have llt := World.block_lt_of_cell? _ _ k0
          have mlt := World.block_lt_of_cell? _ _ k2
          simp only at llt mlt
          clear hq
          go_upto_if 57 with fail
          go_cut [] from 24 to 103 (fun wx => ∃ x y, PL lA mA 0 w wx x y bk (i + 1))
          case first =>
            cases b13 with
            | true =>
              have hwr1 : IntKind.i64.wrap 1 = 1 := by decide
              have hwr0 : IntKind.i64.wrap 0 = 0 := by decide
              have k2' : wr.drew.cell? ⟨lA, 1, none⟩ = some (.pointer (some ⟨x1.db, 0, none⟩)) := k0
              have k3' : wr.drew.cell? ⟨mA, 1, none⟩ = some (.pointer (some ⟨x1.rb, 0, none⟩)) := k2
              go_wp2_with fail
              refine wp_region_K (fun w' => w'.cell? ⟨lA, 1, none⟩ = some (.pointer (some ⟨x1.db, 0, none⟩)) ∧ w'.cell? ⟨mA, 1, none⟩ = some (.pointer (some ⟨x1.rb, 0, none⟩))) 15 16 (by kernel_rfl) (by kernel_rfl) ⟨k2', k3'⟩ (fun hH => ?_)
              refine wpAnyK_take (i := 0) [15] (v := ?v24) rfl (by kernel_rfl) (by kernel_rfl) (by kernel_rfl) (by kernel_rfl) (fun _ _ _ h => h) (Or.inl ⟨by rfl, ?hy24⟩) hH ?rest24
              case hy24 => (intro w hSw; (try dsimp only at hSw); go_simp; with_reducible rfl)
              try simp only [Act.put, List.setIfInBounds_toArray, List.set_cons_zero, List.set_cons_succ]
              refine wpAnyK_take (i := 1) [15] (v := ?v25) rfl (by kernel_rfl) (by kernel_rfl) (by kernel_rfl) (by kernel_rfl) (fun _ _ _ h => h) (Or.inl ⟨by rfl, ?hy25⟩) hH ?rest25
              case hy25 => (intro w hSw; (try dsimp only at hSw); go_simp; with_reducible rfl)
              try simp only [Act.put, List.setIfInBounds_toArray, List.set_cons_zero, List.set_cons_succ]
              refine wpAnyK_take (i := 2) [15] (v := ?v26) rfl (by kernel_rfl) (by kernel_rfl) (by kernel_rfl) (by kernel_rfl) (fun _ _ _ h => h) (Or.inl ⟨by rfl, ?hy26⟩) hH ?rest26
              case hy26 => (intro w hSw; (try dsimp only at hSw); go_simp; with_reducible rfl)
              try simp only [Act.put, List.setIfInBounds_toArray, List.set_cons_zero, List.set_cons_succ]
              refine wpAnyK_take (i := 3) [15] (v := ?v27) rfl (by kernel_rfl) (by kernel_rfl) (by kernel_rfl) (by kernel_rfl) (fun _ _ _ h => h) (Or.inl ⟨by rfl, ?hy27⟩) hH ?rest27
              case hy27 => (intro w hSw; (try dsimp only at hSw); go_simp; with_reducible rfl)
              try simp only [Act.put, List.setIfInBounds_toArray, List.set_cons_zero, List.set_cons_succ]
              refine wpAnyK_take (i := 4) [15] (v := ?v28) rfl (by kernel_rfl) (by kernel_rfl) (by kernel_rfl) (by kernel_rfl) (fun _ _ _ h => h) (Or.inl ⟨by rfl, ?hy28⟩) hH ?rest28
              case hy28 => (intro w hSw; (try dsimp only at hSw); go_simp; with_reducible rfl)
              try simp only [Act.put, List.setIfInBounds_toArray, List.set_cons_zero, List.set_cons_succ]
              refine wpAnyK_take (i := 5) [15] (v := ?v29) rfl (by kernel_rfl) (by kernel_rfl) (by kernel_rfl) (by kernel_rfl) (fun _ _ _ h => h) (Or.inl ⟨by rfl, ?hy29⟩) hH ?rest29
              case hy29 => (intro w hSw; (try dsimp only at hSw); go_simp; with_reducible rfl)
              try simp only [Act.put, List.setIfInBounds_toArray, List.set_cons_zero, List.set_cons_succ]
              refine wpAnyK_take (i := 6) [15] (v := ?v30) rfl (by kernel_rfl) (by kernel_rfl) (by kernel_rfl) (by kernel_rfl) (fun _ _ _ h => h) (Or.inl ⟨by rfl, ?hy30⟩) hH ?rest30
              case hy30 => (intro w hSw; (try dsimp only at hSw); go_simp; with_reducible rfl)
              try simp only [Act.put, List.setIfInBounds_toArray, List.set_cons_zero, List.set_cons_succ]
              refine wpAnyK_take (i := 8) [15] (v := ?v31) rfl (by kernel_rfl) (by kernel_rfl) (by kernel_rfl) (by kernel_rfl) (fun _ _ _ h => h) (Or.inl ⟨by rfl, ?hy31⟩) hH ?rest31
              case hy31 => (intro w hSw; (try dsimp only at hSw); go_simp; with_reducible rfl)
              try simp only [Act.put, List.setIfInBounds_toArray, List.set_cons_zero, List.set_cons_succ]
              refine wpAnyK_take (i := 9) [15] (v := ?v32) rfl (by kernel_rfl) (by kernel_rfl) (by kernel_rfl) (by kernel_rfl) (fun _ _ _ h => h) (Or.inl ⟨by rfl, ?hy32⟩) hH ?rest32
              case hy32 => (intro w hSw; (try dsimp only at hSw); go_simp; with_reducible rfl)
              try simp only [Act.put, List.setIfInBounds_toArray, List.set_cons_zero, List.set_cons_succ]
              refine wpAnyK_take (i := 10) [15] (v := ?v33) rfl (by kernel_rfl) (by kernel_rfl) (by kernel_rfl) (by kernel_rfl) (fun _ _ _ h => h) (Or.inl ⟨by rfl, ?hy33⟩) hH ?rest33
              case hy33 => (intro w hSw; (try dsimp only at hSw); go_simp; with_reducible rfl)
              try simp only [Act.put, List.setIfInBounds_toArray, List.set_cons_zero, List.set_cons_succ]
              refine wpAnyK_one (i := 7) (by kernel_rfl) rfl (fun K hK => ?_) (by kernel_rfl)
              go_simp
              go_at_call 9
              refine (pst_twin (HQ.out.st.below (Below.refl _ wr).drew)).mono ?_
              rintro _ w6 ⟨nb, rfl, hp6, hb6⟩
              simp only []
              have HP6 := Lib.hid hp6
              have hbr6 : Below wr.heap.size wr w6 := ((Below.refl _ wr).drew).trans (hb6.mono (Nat.le_refl _))
              have HB6 := Lib.hid hbr6
              have e0 := (hbr6.cell (p := ⟨lA, 1, none⟩) llt).trans k0
              have e2 := (hbr6.cell (p := ⟨mA, 1, none⟩) mlt).trans k2
              clear hp6 hb6 hbr6
              refine hK.out _ _ ⟨e0, e2⟩ (fun hH => ?_)
              clear hK K
              try simp only [Act.put, List.setIfInBounds_toArray, List.set_cons_zero, List.set_cons_succ]
              refine wpAnyK_take (i := 12) [15] (v := ?v34) rfl (by kernel_rfl) (by kernel_rfl) (by kernel_rfl) (by kernel_rfl) (fun _ _ _ h => h) (Or.inl ⟨by rfl, ?hy34⟩) hH ?rest34
              case hy34 => (intro w hSw; (try dsimp only at hSw); go_simp; with_reducible rfl)
              try simp only [Act.put, List.setIfInBounds_toArray, List.set_cons_zero, List.set_cons_succ]
              refine wpAnyK_one (i := 11) (by kernel_rfl) rfl (fun K hK => ?_) (by kernel_rfl)
              go_simp
              go_at_call 10
              refine (pst_rtwin HP6.out).mono ?_
              rintro _ w7 ⟨nm, rfl, hp7, hb7⟩
              simp only []
              have HP7 := Lib.hid hp7
              have hbr7 : Below wr.heap.size wr w7 := HB6.out.trans (hb7.mono HB6.out.size)
              have HB7 := Lib.hid hbr7
              have e0 := (hbr7.cell (p := ⟨lA, 1, none⟩) llt).trans k0
              have e1 := (hbr7.cell (p := ⟨lA, 0, none⟩) llt).trans k1
              have e2 := (hbr7.cell (p := ⟨mA, 1, none⟩) mlt).trans k2
              have e3 := (hbr7.cell (p := ⟨mA, 0, none⟩) mlt).trans k3
              have z0 := (hbr7.frozen (p := ⟨lA, 0, none⟩) llt).trans (HQ.out.fl 0)
              have z1 := (hbr7.frozen (p := ⟨mA, 0, none⟩) mlt).trans (HQ.out.fm 0)
              have g0 : (w7.setCell ⟨lA, 0, none⟩ (.pointer (some ⟨nb, 0, none⟩))).cell? ⟨lA, 1, none⟩ = some (.pointer (some ⟨x1.db, 0, none⟩)) := by rw [World.cell?_setCell_other _ _ _ _ (by intro e; injection e with _ e; cases e)]; exact e0
              have g2 : (w7.setCell ⟨lA, 0, none⟩ (.pointer (some ⟨nb, 0, none⟩))).cell? ⟨mA, 1, none⟩ = some (.pointer (some ⟨x1.rb, 0, none⟩)) := by rw [World.cell?_setCell_other _ _ _ _ (by intro e; injection e with e; exact HQ.out.ne e)]; exact e2
              have g3 : (w7.setCell ⟨lA, 0, none⟩ (.pointer (some ⟨nb, 0, none⟩))).cell? ⟨mA, 0, none⟩ = some (.pointer (some ⟨y1.rb, 0, none⟩)) := by rw [World.cell?_setCell_other _ _ _ _ (by intro e; injection e with e; exact HQ.out.ne e)]; exact e3
              have z3 : (w7.setCell ⟨lA, 0, none⟩ (.pointer (some ⟨nb, 0, none⟩))).frozen? ⟨mA, 0, none⟩ = false := by rw [World.frozen?_setCell]; exact z1
              clear hp7 hb7 hbr7
              refine hK.out _ _ ⟨e0, e2⟩ (fun hH => ?_)
              clear hK K
              try simp only [Act.put, List.setIfInBounds_toArray, List.set_cons_zero, List.set_cons_succ]
              refine wpAnyK_one (i := 13) (by kernel_rfl) rfl (fun K hK => ?_) (by kernel_rfl)
              go_simp
              refine hK.out _ _ ⟨g0, g2⟩ (fun hH => ?_)
              clear hK K
              try simp only [Act.put, List.setIfInBounds_toArray, List.set_cons_zero, List.set_cons_succ]
              refine wpAnyK_take (i := 14) [15] (v := ?v35) rfl (by kernel_rfl) (by kernel_rfl) (by kernel_rfl) (by kernel_rfl) (fun _ _ _ h => h) (Or.inl ⟨by rfl, ?hy35⟩) hH ?rest35
              case hy35 => (intro w hSw; (try dsimp only at hSw); go_simp; with_reducible rfl)
              try simp only [Act.put, List.setIfInBounds_toArray, List.set_cons_zero, List.set_cons_succ]
              refine wpAnyK_last (by kernel_rfl) rfl (fun K hK => ?_) (by kernel_rfl)
              go_simp
              refine hK.out _ _ (wpAnyK_done (by kernel_rfl) ?_ _)
              clear hK K hH k2' k3' e0 e1 e2 e3 z0 z1 g0 g2 g3 z3
              go_wp2_with fail
              go_meet
              case rel =>
                obtain ⟨x9, y9, h9⟩ := (HQ.out.tw (by decide) HP7.out HB7.out).up.zero (by decide)
                exact ⟨x9, y9, h9⟩
            | false =>
              have hdr : Below wr.heap.size wr wr.drew := (Below.refl _ wr).drew
              obtain ⟨d0, d1, d2, d3, d4, d5, d6⟩ := HQC.out wr.drew (HQ.out.st.bel.trans (hdr.mono HQ.out.st.bel.size))
              have k2' : wr.drew.cell? ⟨lA, 1, none⟩ = some (.pointer (some ⟨x1.db, 0, none⟩)) := k0
              have k3' : wr.drew.cell? ⟨mA, 1, none⟩ = some (.pointer (some ⟨x1.rb, 0, none⟩)) := k2
              go_wp2_with fail
              refine wp_region_K (fun w' => w'.cell? ⟨lA, 1, none⟩ = some (.pointer (some ⟨x1.db, 0, none⟩)) ∧ w'.cell? ⟨mA, 1, none⟩ = some (.pointer (some ⟨x1.rb, 0, none⟩)) ∧ w'.cell? ⟨b, ob, none⟩ = some (.int .i64 o.k) ∧ w'.cell? ⟨b, ob + 1, none⟩ = some (.int .i64 o.wh) ∧ w'.cell? ⟨b, ob + 2, none⟩ = some (.int .i64 o.a) ∧ w'.cell? ⟨b, ob + 3, none⟩ = some (.int .i64 o.b) ∧ w'.cell? ⟨b, ob + 4, none⟩ = some (.slice o.ca o.cn o.cc) ∧ w'.cell? ⟨b, ob + 5, none⟩ = some (.string o.nm) ∧ w'.cell? ⟨b, ob + 6, none⟩ = some (.string o.dt)) 12 13 (by kernel_rfl) (by kernel_rfl) ⟨k2', k3', d0, d1, d2, d3, d4, d5, d6⟩ (fun hH => ?_)
              refine wpAnyK_take (i := 0) [1, 2, 11, 12] (v := ?v36) rfl (by kernel_rfl) (by kernel_rfl) (by kernel_rfl) (by kernel_rfl) (fun _ _ _ h => h) (Or.inl ⟨by rfl, ?hy36⟩) hH ?rest36
              case hy36 => (intro w hSw; (try dsimp only at hSw); go_simp; with_reducible rfl)
              try simp only [Act.put, List.setIfInBounds_toArray, List.set_cons_zero, List.set_cons_succ]
              refine wpAnyK_take (i := 1) [2, 11, 12] (v := ?v37) rfl (by kernel_rfl) (by kernel_rfl) (by kernel_rfl) (by kernel_rfl) (fun _ _ _ h => h) (Or.inl ⟨by rfl, ?hy37⟩) hH ?rest37
              case hy37 => (intro w hSw; (try dsimp only at hSw); go_simp; with_reducible rfl)
              try simp only [Act.put, List.setIfInBounds_toArray, List.set_cons_zero, List.set_cons_succ]
              refine wpAnyK_take (i := 2) [11, 12] (v := ?v38) rfl (by kernel_rfl) (by kernel_rfl) (by kernel_rfl) (by kernel_rfl) (fun _ _ _ h => h) (Or.inl ⟨by rfl, ?hy38⟩) hH ?rest38
              case hy38 => (intro w hSw; (try dsimp only at hSw); go_simp; with_reducible rfl)
              try simp only [Act.put, List.setIfInBounds_toArray, List.set_cons_zero, List.set_cons_succ]
              refine wpAnyK_take (i := 3) [4, 5, 11, 12] (v := ?v39) rfl (by kernel_rfl) (by kernel_rfl) (by kernel_rfl) (by kernel_rfl) (fun _ _ _ h => h) (Or.inl ⟨by rfl, ?hy39⟩) hH ?rest39
              case hy39 => (intro w hSw; (try dsimp only at hSw); go_simp; with_reducible rfl)
              try simp only [Act.put, List.setIfInBounds_toArray, List.set_cons_zero, List.set_cons_succ]
              refine wpAnyK_take (i := 4) [5, 11, 12] (v := ?v40) rfl (by kernel_rfl) (by kernel_rfl) (by kernel_rfl) (by kernel_rfl) (fun _ _ _ h => h) (Or.inl ⟨by rfl, ?hy40⟩) hH ?rest40
              case hy40 => (intro w hSw; (try dsimp only at hSw); go_simp; with_reducible rfl)
              try simp only [Act.put, List.setIfInBounds_toArray, List.set_cons_zero, List.set_cons_succ]
              refine wpAnyK_take (i := 5) [11, 12] (v := ?v41) rfl (by kernel_rfl) (by kernel_rfl) (by kernel_rfl) (by kernel_rfl) (fun _ _ _ h => h) (Or.inl ⟨by rfl, ?hy41⟩) hH ?rest41
              case hy41 => (intro w hSw; (try dsimp only at hSw); go_simp; with_reducible rfl)
              try simp only [Act.put, List.setIfInBounds_toArray, List.set_cons_zero, List.set_cons_succ]
              refine wpAnyK_take (i := 6) [8, 9, 11, 12] (v := ?v42) rfl (by kernel_rfl) (by kernel_rfl) (by kernel_rfl) (by kernel_rfl) (fun _ _ _ h => h) (Or.inl ⟨by rfl, ?hy42⟩) hH ?rest42
              case hy42 => (intro w hSw; (try dsimp only at hSw); go_simp; with_reducible rfl)
              try simp only [Act.put, List.setIfInBounds_toArray, List.set_cons_zero, List.set_cons_succ]
              refine wpAnyK_take (i := 7) [8, 9, 11, 12] (v := ?v43) rfl (by kernel_rfl) (by kernel_rfl) (by kernel_rfl) (by kernel_rfl) (fun _ _ _ h => h) (Or.inl ⟨by rfl, ?hy43⟩) hH ?rest43
              case hy43 => (intro w hSw; (try dsimp only at hSw); go_simp; with_reducible rfl)
              try simp only [Act.put, List.setIfInBounds_toArray, List.set_cons_zero, List.set_cons_succ]
              refine wpAnyK_take (i := 8) [9, 11, 12] (v := ?v44) rfl (by kernel_rfl) (by kernel_rfl) (by kernel_rfl) (by kernel_rfl) (fun _ _ _ h => h) (Or.inl ⟨by rfl, ?hy44⟩) hH ?rest44
              case hy44 => (intro w hSw; (try dsimp only at hSw); go_simp; with_reducible rfl)
              try simp only [Act.put, List.setIfInBounds_toArray, List.set_cons_zero, List.set_cons_succ]
              refine wpAnyK_take (i := 9) [11, 12] (v := ?v45) rfl (by kernel_rfl) (by kernel_rfl) (by kernel_rfl) (by kernel_rfl) (fun _ _ _ h => h) (Or.inl ⟨by rfl, ?hy45⟩) hH ?rest45
              case hy45 => (intro w hSw; (try dsimp only at hSw); go_simp; with_reducible rfl)
              try simp only [Act.put, List.setIfInBounds_toArray, List.set_cons_zero, List.set_cons_succ]
              refine wpAnyK_take (i := 10) [11, 12] (v := ?v46) rfl (by kernel_rfl) (by kernel_rfl) (by kernel_rfl) (by kernel_rfl) (fun _ _ _ h => h) (Or.inl ⟨by rfl, ?hy46⟩) hH ?rest46
              case hy46 => (intro w hSw; (try dsimp only at hSw); go_simp; with_reducible rfl)
              try simp only [Act.put, List.setIfInBounds_toArray, List.set_cons_zero, List.set_cons_succ]
              refine wpAnyK_one (i := 11) (by kernel_rfl) rfl (fun K hK => ?_) (by kernel_rfl)
              go_simp
              go_at_call 11
              refine (pl_step (HQ.out.below hdr) (by omega) HWO.out HSZ.out.1 HSZ.out.2).mono ?_
              rintro _ w6 ⟨rfl, D6, R6, hp6⟩
              simp only []
              have HP6 := Lib.hid hp6
              obtain ⟨c0, c1, c2, c3, c4, c5, c6⟩ := HQC.out w6 hp6.st.bel
              have e0 := hp6.l0
              have e2 := hp6.m0
              simp only at e0 e2
              clear hp6
              refine hK.out _ _ ⟨e0, e2, c0, c1, c2, c3, c4, c5, c6⟩ (fun hH => ?_)
              clear hK K
              try simp only [Act.put, List.setIfInBounds_toArray, List.set_cons_zero, List.set_cons_succ]
              refine wpAnyK_last (by kernel_rfl) rfl (fun K hK => ?_) (by kernel_rfl)
              go_simp
              refine hK.out _ _ (wpAnyK_done (by kernel_rfl) ?_ _)
              clear hK K hH k2' k3' e0 e2 c0 c1 c2 c3 c4 c5 c6 d0 d1 d2 d3 d4 d5 d6
              go_wp2_with fail
              go_meet
              case rel =>
                obtain ⟨x9, y9, h9⟩ := HP6.out.zero (by decide)
                exact ⟨x9, y9, h9⟩
          case rest =>
            obtain ⟨x9, y9, h9⟩ := hcut
            have H9 := Lib.hid h9
            have c0 : wc.cell? ⟨lA, 0, none⟩ = some (.pointer (some ⟨x9.db, 0, none⟩)) := h9.l0
            have c2 : wc.cell? ⟨mA, 0, none⟩ = some (.pointer (some ⟨x9.rb, 0, none⟩)) := h9.m0
            clear h9 k0 k1 k2 k3 llt mlt p0 p1 p2 p3 p4 p5 p6
            cases each with
            | false =>
              go_wp2_with fail
              go_roundw
              case rel => exact ⟨i + 1, x9, y9, by omega, by go_num, H9.out⟩
              case measure => simp [intOf]; omega
            | true =>
              go_wp2_with (first
                | (go_at_call 12; have tok := H10; refine (pl_looks1 H10.out).mono ?_; rintro _ w11 ⟨rfl, h11⟩; have H11 := Lib.hid h11; clear h11; simp only [])
                | (go_at_call 12; refine (pl_looks H9.out).mono ?_; rintro _ w10 ⟨rfl, h10⟩; have H10 := Lib.hid h10; have d0 : w10.cell? ⟨lA, 1, none⟩ = some (.pointer (some ⟨y9.db, 0, none⟩)) := h10.l1; have d2 : w10.cell? ⟨mA, 1, none⟩ = some (.pointer (some ⟨y9.rb, 0, none⟩)) := h10.m1; clear h10; simp only []))
              go_roundw
              case rel => exact ⟨i + 1, x9, y9, by omega, by go_num, H11.out⟩
              case measure => simp [intOf]; omega
      · obtain rfl : i = len := by omega
        clear HC HLL HWF hpl
        have HPLd := HPL
        have c0 : wr.cell? ⟨lA, 0, none⟩ = some (.pointer (some ⟨x.db, 0, none⟩)) := HPL.out.l0
        have c2 : wr.cell? ⟨mA, 0, none⟩ = some (.pointer (some ⟨x.rb, 0, none⟩)) := HPL.out.m0
        go_wp2_with (first
          | (go_at_call 13; refine (pst_apart H11.out.st).mono ?_; rintro _ w12 ⟨rfl, hb12⟩; have HB12 := Lib.hid hb12; clear hb12; simp only [])
          | (go_at_call 12; have tok := H10; refine (pl_looks1 H10.out).mono ?_; rintro _ w11 ⟨rfl, h11⟩; have H11 := Lib.hid h11; clear h11; simp only [])
          | (go_at_call 12; refine (pl_looks HPL.out).mono ?_; rintro _ w10 ⟨rfl, h10⟩; have H10 := Lib.hid h10; have d0 : w10.cell? ⟨lA, 1, none⟩ = some (.pointer (some ⟨y.db, 0, none⟩)) := h10.l1; have d2 : w10.cell? ⟨mA, 1, none⟩ = some (.pointer (some ⟨y.rb, 0, none⟩)) := h10.m1; clear h10; simp only []))
        go_ret
        exact ⟨rfl, HB12.out⟩
end Go.Proofs.YtceamkcaokdgaaaGreatDoor
