import Derived.Test.YtjebpppjhkkebaaGreatDoorM28
import Derived.Test.YtjebpppjhkkebaaGreatDoorM5
import Derived.BigQuiet
import Derived.Test.YtjebpppjhkkebaaGreatDoorShelf
import Derived.Test.YtjebpppjhkkebaaGreatDoorM9
import Derived.Test.YtjebpppjhkkebaaGreatDoorM12
import Derived.Lib.Builder
import Derived.Lib.AppendStr
import Derived.Laws.Externs
import Derived.Test.YtjebpppjhkkebaaGreatDoorM14
import GoSem.Claim
/-
  Manifest: an edit that is light has short lists.
-/
set_option linter.unusedSimpArgs false
set_option linter.unusedVariables false
namespace Go.Proofs.YtjebpppjhkkebaaGreatDoor
open Go.RowKit

def lightN (e : PE) : Nat := e.add.length * 20 + e.rem.length + e.ns.length * 20 + e.fl.length
def LiAns (e : PE) (w : World) (r : Ending) (w' : World) : Prop := ∃ b, r = .returned (.bool b) ∧ Below w.heap.size w w' ∧ (b = true → lightN e < 40000)
/-- An edit in a box. -/
structure Lb (w w' : World) (u0 u1 u2 u3 u4 : Value) : Prop where
  a0 : w'.cell? ⟨w.heap.size, 0, none⟩ = some u0
  a1 : w'.cell? ⟨w.heap.size, 1, none⟩ = some u1
  a2 : w'.cell? ⟨w.heap.size, 2, none⟩ = some u2
  a3 : w'.cell? ⟨w.heap.size, 3, none⟩ = some u3
  a4 : w'.cell? ⟨w.heap.size, 4, none⟩ = some u4
  bel : Below w.heap.size w w'
  sz : w.heap.size + 1 ≤ w'.heap.size
theorem Lb.below {w w' w'' : World} {u0 u1 u2 u3 u4 : Value} (h : Lb w w' u0 u1 u2 u3 u4) (hb : Below w'.heap.size w' w'') : Lb w w'' u0 u1 u2 u3 u4 :=
  have l0 : w.heap.size < w'.heap.size := by have := h.sz; omega
  ⟨(hb.cell (p := ⟨w.heap.size, 0, none⟩) l0).trans h.a0, (hb.cell (p := ⟨w.heap.size, 1, none⟩) l0).trans h.a1, (hb.cell (p := ⟨w.heap.size, 2, none⟩) l0).trans h.a2, (hb.cell (p := ⟨w.heap.size, 3, none⟩) l0).trans h.a3, (hb.cell (p := ⟨w.heap.size, 4, none⟩) l0).trans h.a4,
   h.bel.trans (hb.mono h.bel.size), Nat.le_trans h.sz hb.size⟩
theorem Lb.drewN {w w' : World} {u0 u1 u2 u3 u4 : Value} (h : Lb w w' u0 u1 u2 u3 u4) (n : Nat) : Lb w (w'.drewN n) u0 u1 u2 u3 u4 := h.below ⟨rfl, rfl, rfl, Nat.le_refl _, fun _ _ => rfl⟩
set_option maxRecDepth 100000 in
set_option maxHeartbeats 4000000 in
theorem light_any {w : World} {ev : Value} {e : PE} (he : EdV w ev e) (hw : e.wf) : Calls Tryz.prog 14 #[ev] w (LiAns e w) := by
  obtain ⟨xv, yv, mv, ov, rfl, he1, he2, he3, he4⟩ := he
  obtain ⟨⟨q1, q1s⟩, q2, q3, q4, q4s⟩ := hw

  obtain ⟨xa, xc, rfl, _, _⟩ := he1.form
  obtain ⟨ya, yc, rfl, _, _⟩ := he2.form
  obtain ⟨ma, mc, rfl, _, _⟩ := he3.form
  obtain ⟨oa, oc, rfl, _, _⟩ := he4.form
  obtain ⟨xn, hxn⟩ : ∃ n, e.add.length = n := ⟨_, rfl⟩
  obtain ⟨yn, hyn⟩ : ∃ n, e.rem.length = n := ⟨_, rfl⟩
  obtain ⟨mn, hmn⟩ : ∃ n, e.fl.length = n := ⟨_, rfl⟩
  obtain ⟨on, hon⟩ : ∃ n, e.ns.length = n := ⟨_, rfl⟩
  rw [hxn] at he1 q1 ⊢
  rw [hyn] at q2 ⊢
  rw [hmn] at q3 ⊢
  rw [hon] at he4 q4 ⊢
  have hbase : lightN e = xn * 20 + yn + on * 20 + mn := by unfold lightN; rw [hxn, hyn, hmn, hon]
  obtain ⟨base, hbs⟩ : ∃ b : Nat, xn * 20 + yn + on * 20 + mn = b := ⟨_, rfl⟩
  have hb1 : base ≤ 6000000000000000 := by omega
  have HX := Lib.hid (And.intro he1 (And.intro hxn q1s))
  have HO := Lib.hid (And.intro he4 (And.intro hon q4s))
  have HB := Lib.hid (hbase.trans hbs)
  clear he1 he2 he3 he4 q1s q4s hxn hyn hmn hon hbase
  obtain ⟨w1, hw1⟩ : ∃ w1, w.alloc (.cells #[.slice xa xn xc, .slice ya yn yc, .int .i64 e.log, .slice ma mn mc, .slice oa on oc] 40) = w1 := ⟨_, rfl⟩
  have h1 : Lb w w1 (.slice xa xn xc) (.slice ya yn yc) (.int .i64 e.log) (.slice ma mn mc) (.slice oa on oc) := by
    rw [← hw1]
    refine ⟨?_, ?_, ?_, ?_, ?_, (Below.refl _ _).alloc (Nat.le_refl _) _, by simp⟩
    all_goals simp [go_sem]
  have H1 := Lib.hid h1
  clear h1
  have a0 := H1.out.a0
  have a1 := H1.out.a1
  have a2 := H1.out.a2
  have a3 := H1.out.a3
  have a4 := H1.out.a4
  have hbz : (xn : Int) * 20 + (yn : Int) + (on : Int) * 20 + (mn : Int) = (base : Int) := by omega
  go_enter Tryz.func14, Tryz.ntmps14
  go_wp2
  clear a0 a1 a2 a3 a4 hw1
  go_loopw [3, 4] (fun nv iv wr => ∃ (i : Nat) (m : Int), i ≤ xn ∧ iv = .int .i64 (i : Int) ∧ nv = .int .i64 m ∧ (base : Int) ≤ m ∧ m ≤ 7000000000000000 ∧ Lb w wr (.slice xa xn xc) (.slice ya yn yc) (.int .i64 e.log) (.slice ma mn mc) (.slice oa on oc)) (fun _ iv _ => xn - (intOf iv).toNat)
  case atStart => exact ⟨0, base, by omega, rfl, by first | rfl | go_num, by omega, by omega, H1.out⟩
  case round =>
    obtain ⟨i, m, hi, rfl, rfl, hm1, hm2, hb⟩ := hrel
    have HL := Lib.hid hb
    have a0 := hb.a0
    have a4 := hb.a4
    clear hb
    by_cases hlt : i < xn
    · have z0 : (i : Int) < (xn : Int) := by omega
      by_cases hm : m < 40000
      · have hil : i < e.add.length := by rw [HX.out.2.1]; exact hlt
        obtain ⟨b, off, rfl, hbl, c0, c1, c2, c3, c4, c5⟩ := rdf_cells (HX.out.1.below HL.out.bel) hil
        have hs := HX.out.2.2 _ (List.getElem_mem hil)
        obtain ⟨u, hu⟩ : ∃ u, e.add[i] = u := ⟨_, rfl⟩
        rw [hu] at c0 c1 c2 c3 c4 c5 hs
        obtain ⟨hs1, hs2⟩ := hs
        have z1 : (0 : Int) ≤ (i : Int) := by omega
        clear hu c0 c1 c2 c3
        go_wp2
        go_quiet (fail)
        go_wp2
        go_roundw
        case rel => exact ⟨i + 1, m + (u.f.size : Int) + (u.l.size : Int), by omega, by go_num, by go_num, by omega, by omega, HL.out.drewN _⟩
        case measure => simp [intOf]; omega
      · go_wp2
        have HM := Lib.hid hm1
        clear a0 a4
        go_loopw [3, 5] (fun nv jv wr => ∃ (j : Nat) (q : Int), j ≤ on ∧ jv = .int .i64 (j : Int) ∧ nv = .int .i64 q ∧ (base : Int) ≤ q ∧ q ≤ 7000000000000000 ∧ Lb w wr (.slice xa xn xc) (.slice ya yn yc) (.int .i64 e.log) (.slice ma mn mc) (.slice oa on oc)) (fun _ jv _ => on - (intOf jv).toNat)
        case atStart => exact ⟨0, m, by omega, rfl, by first | rfl | go_num, by omega, by omega, HL.out⟩
        case round =>
          obtain ⟨j, q, hj, rfl, rfl, hq1, hq2, hb⟩ := hrel
          have HK := Lib.hid hb
          have a0 := hb.a0
          have a4 := hb.a4
          clear hb
          by_cases hlj : j < on
          · have z0 : (j : Int) < (on : Int) := by omega
            by_cases hq : q < 40000
            · have hjl : j < e.ns.length := by rw [HO.out.2.1]; exact hlj
              obtain ⟨b, off, rfl, hbl, c0, c1⟩ := rdn_cells (HO.out.1.below HK.out.bel) hjl
              have hs := HO.out.2.2 _ (List.getElem_mem hjl)
              obtain ⟨u, hu⟩ : ∃ u, e.ns[j] = u := ⟨_, rfl⟩
              rw [hu] at c0 c1 hs
              obtain ⟨hs1, hs2⟩ := hs
              have z1 : (0 : Int) ≤ (j : Int) := by omega
              clear hu c0
              go_wp2
              go_roundw
              case rel => exact ⟨j + 1, q + (u.2.size : Int), by omega, by go_num, by go_num, by omega, by omega, HK.out⟩
              case measure => simp [intOf]; omega
            · go_wp2
              go_ret
              exact ⟨_, rfl, HK.out.bel, fun h9 => by rw [HB.out]; simp at h9⟩
          · obtain rfl : j = on := by omega
            by_cases hq : q < 40000
            · go_wp2
              go_ret
              exact ⟨_, rfl, HK.out.bel, fun h9 => by rw [HB.out]; omega⟩
            · go_wp2
              go_ret
              exact ⟨_, rfl, HK.out.bel, fun h9 => by rw [HB.out]; simp at h9⟩
    · obtain rfl : i = xn := by omega
      go_wp2
      have HM := Lib.hid hm1
      clear a0 a4
      go_loopw [3, 5] (fun nv jv wr => ∃ (j : Nat) (q : Int), j ≤ on ∧ jv = .int .i64 (j : Int) ∧ nv = .int .i64 q ∧ (base : Int) ≤ q ∧ q ≤ 7000000000000000 ∧ Lb w wr (.slice xa i xc) (.slice ya yn yc) (.int .i64 e.log) (.slice ma mn mc) (.slice oa on oc)) (fun _ jv _ => on - (intOf jv).toNat)
      case atStart => exact ⟨0, m, by omega, rfl, by first | rfl | go_num, by omega, by omega, HL.out⟩
      case round =>
        obtain ⟨j, q, hj, rfl, rfl, hq1, hq2, hb⟩ := hrel
        have HK := Lib.hid hb
        have a0 := hb.a0
        have a4 := hb.a4
        clear hb
        by_cases hlj : j < on
        · have z0 : (j : Int) < (on : Int) := by omega
          by_cases hq : q < 40000
          · have hjl : j < e.ns.length := by rw [HO.out.2.1]; exact hlj
            obtain ⟨b, off, rfl, hbl, c0, c1⟩ := rdn_cells (HO.out.1.below HK.out.bel) hjl
            have hs := HO.out.2.2 _ (List.getElem_mem hjl)
            obtain ⟨u, hu⟩ : ∃ u, e.ns[j] = u := ⟨_, rfl⟩
            rw [hu] at c0 c1 hs
            obtain ⟨hs1, hs2⟩ := hs
            have z1 : (0 : Int) ≤ (j : Int) := by omega
            clear hu c0
            go_wp2
            go_roundw
            case rel => exact ⟨j + 1, q + (u.2.size : Int), by omega, by go_num, by go_num, by omega, by omega, HK.out⟩
            case measure => simp [intOf]; omega
          · go_wp2
            go_ret
            exact ⟨_, rfl, HK.out.bel, fun h9 => by rw [HB.out]; simp at h9⟩
        · obtain rfl : j = on := by omega
          by_cases hq : q < 40000
          · go_wp2
            go_ret
            exact ⟨_, rfl, HK.out.bel, fun h9 => by rw [HB.out]; omega⟩
          · go_wp2
            go_ret
            exact ⟨_, rfl, HK.out.bel, fun h9 => by rw [HB.out]; simp at h9⟩
end Go.Proofs.YtjebpppjhkkebaaGreatDoor
/-
  A strings.Builder: a byte and a text behind what it holds.
-/
set_option linter.unusedSimpArgs false
set_option linter.unusedVariables false
namespace Go.Proofs.YtjebpppjhkkebaaGreatDoor
open Go.RowKit

abbrev tB : TypeId := 104
abbrev tU : TypeId := 5
/-- A builder in block b that holds cells. -/
abbrev BldAt (B b : Nat) (l : List Value) (w : World) : Prop := Lib.IsBuilder tB tU B b l w
theorem info_bld : ∃ j, Tryz.prog.info? tB = some j ∧ j.size = 2 := by
  have h : (Tryz.prog.info? tB).map (·.size) = some 2 := by kernel_rfl
  exact Option.map_eq_some_iff.1 h
theorem lies_bld : liesAt Tryz.prog Tryz.prog.depth tB (2 / Tryz.prog.cellsOf tB) 0 tB 1 = true := by kernel_rfl

set_option maxHeartbeats 1000000 in
set_option maxRecDepth 100000 in
theorem check_used (b : Nat) (w : World) (h0 : w.cell? ⟨b, 0, none⟩ = some (.pointer (some ⟨b, 0, none⟩))) :
    Calls Tryz.prog 119 #[.pointer (some ⟨b, 0, none⟩)] w fun e w' => e = .returned (.tuple #[]) ∧ w' = w := by
  obtain ⟨j, hj, _⟩ := info_bld
  have hq := fun w => Lib.run_neq_ptr_same (P := Tryz.prog) (w := w) ⟨b, 0, none⟩ Tryz.underlying102 hj
  go_enter Tryz.func119, Tryz.ntmps119
  go_wp2
  go_end0
  exact ⟨rfl, rfl⟩
set_option maxHeartbeats 1000000 in
set_option maxRecDepth 100000 in
theorem check_fresh (b : Nat) (w : World) (h0 : w.cell? ⟨b, 0, none⟩ = some (.pointer none)) (hsh : w.shape? b = some (tB, 2)) (hfz : w.frozen? ⟨b, 0, none⟩ = false) :
    Calls Tryz.prog 119 #[.pointer (some ⟨b, 0, none⟩)] w fun e w' => e = .returned (.tuple #[]) ∧ w' = w.setCell ⟨b, 0, none⟩ (.pointer (some ⟨b, 0, none⟩)) := by
  obtain ⟨j, hj, hjs⟩ := info_bld
  have k1 := Lib.run_to_unsafe (P := Tryz.prog) (w := w) ⟨b, 0, none⟩ Tryz.underlying102 Tryz.underlying187 hj (by rw [hjs]; decide) hsh (Nat.zero_lt_succ 1)
  have k2 := Lib.run_from_unsafe (P := Tryz.prog) (w := w) ⟨b, 0, none⟩ Tryz.underlying187 Tryz.underlying102 hj hsh lies_bld
  have k3 : ∀ x, (callFunc 164 #[x]).run Tryz.prog w = .ok (.value x) w := fun x => by
    rw [run_callFunc_extern Tryz.func164 (by kernel_rfl) (by kernel_rfl) (by kernel_rfl) (e := Extern.AbiNoEscape.same) (by kernel_rfl), Lib.run_noEscape]
    rfl
  go_enter Tryz.func119, Tryz.ntmps119
  go_wp2
  go_end0
  exact ⟨rfl, rfl⟩
theorem check_any {B b : Nat} {bs : List Value} {w : World} (h : BldAt B b bs w) : Calls Tryz.prog 119 #[.pointer (some ⟨b, 0, none⟩)] w fun e w' =>
    e = .returned (.tuple #[]) ∧ Lib.BuilderAt tB tU B b (.pointer (some ⟨b, 0, none⟩)) bs w' ∧ Below B w w' := by
  rcases h with h | h
  · refine (check_fresh b w h.cell0 h.shape h.frozen0).mono ?_
    rintro e w' ⟨h1, h2⟩
    rw [h2]
    exact ⟨h1, h.used _, (Below.refl B w).setCell h.1 _⟩
  · refine (check_used b w h.cell0).mono ?_
    rintro e w' ⟨h1, h2⟩
    rw [h2]
    exact ⟨h1, h, Below.refl B _⟩
theorem bld_below {B b : Nat} {bs : List Value} {w w' : World} (h : BldAt B b bs w) (hb : Below w.heap.size w w') : BldAt B b bs w' := by
  have key : ∀ p, Lib.BuilderAt tB tU B b p bs w → Lib.BuilderAt tB tU B b p bs w' := fun p h => by
    have hlt := h.lt
    obtain ⟨h1, v, h2, h3, h4⟩ := h
    exact ⟨h1, v, (hb.block b hlt).trans h2, row_below h3 hb, h4⟩
  exact h.imp (key _) (key _)
theorem t_ne : tB ≠ tU := by decide

set_option maxHeartbeats 2000000 in
set_option maxRecDepth 100000 in
theorem bld_text {B b : Nat} {bs : List Value} {w : World} (h : BldAt B b bs w) (s : ByteArray) (hlen : bs.length + s.size ≤ 140737488355328) (hB : B ≤ w.heap.size) :
    Calls Tryz.prog 61 #[.pointer (some ⟨b, 0, none⟩), .string s] w fun e w' => e = .returned (.tuple #[.int .i64 s.size, .nilIface]) ∧ BldAt B b (bs ++ Lib.strCells s) w' ∧ Below B w w' := by
  obtain ⟨i0, hi, hz0, hz1, hz2⟩ := info_parts info_u8
  have hc := check_any h
  clear h
  go_enter Tryz.func61, Tryz.ntmps61
  go_wp2_with fail
  refine hc.mono ?_
  rintro e w1 ⟨rfl, ⟨hBb, v, hbk, hown, hne⟩, hb1⟩
  have c0 : w1.cell? ⟨b, 0, none⟩ = some (.pointer (some ⟨b, 0, none⟩)) := by rw [Lib.cell_of_heap hbk]; rfl
  have c1 : w1.cell? ⟨b, 1, none⟩ = some v := by rw [Lib.cell_of_heap hbk]; rfl
  have hlt : b < w1.heap.size := World.block_lt_of_cell? _ _ c0
  have hz := hb1.size
  have H := Lib.hid (And.intro hown (And.intro hne (And.intro hbk (And.intro hb1 hBb))))
  clear hown hne hbk hb1 hBb
  go_wp2_with (first
   | (at_builtin; go_loud (refine Lib.wpList_append_own_string _ rfl _ _ 101 9 rfl B tU i0 Tryz.underlying101 Tryz.underlying9 hi hz0 hz1 hz2 _ _ _ rfl H.out.1 s rfl (by unfold maxLen; omega) (by omega) (by omega) ?_); intro v' w2 hown2 hgrow _
      have hb2 : w2.heap[b]? = some (.cells #[.pointer (some ⟨b, 0, none⟩), v] tB (0, 0)) := (hgrow.block b hlt (fun e => H.out.2.1 e.symm)).trans H.out.2.2.1
      have d0 : w2.cell? ⟨b, 0, none⟩ = some (.pointer (some ⟨b, 0, none⟩)) := by rw [Lib.cell_of_heap hb2]; rfl
      have d1 : w2.cell? ⟨b, 1, none⟩ = some v := by rw [Lib.cell_of_heap hb2]; rfl
      have f1 : w2.frozen? ⟨b, 1, none⟩ = false := Lib.frozen_of_heap hb2 1
      obtain ⟨ao, n', cap, rfl⟩ : ∃ ao n' cap, v' = .slice ao n' cap := by
        obtain ⟨a, c, e, _⟩ := row_form hown2
        exact ⟨a, _, c, e⟩
      have H2 := Lib.hid (And.intro hown2 (And.intro hgrow hb2)); clear hown2 hgrow hb2))
  go_ret2
  exact ⟨rfl, .inr (Lib.BuilderAt.put (T := tB) (e := tU) H.out.2.2.2.2 H2.out.2.2 (bs' := bs ++ Lib.strCells s) (by simpa [Lib.strCells_length] using H2.out.1) t_ne), (H.out.2.2.2.1.grown H2.out.2.1 (by omega) (fun k hk => (H.out.1.lt k hk).1)).setCell (p := ⟨b, 1, none⟩) H.out.2.2.2.2 _⟩

set_option maxHeartbeats 2000000 in
set_option maxRecDepth 100000 in
theorem bld_byte {B b : Nat} {bs : List Value} {w : World} (h : BldAt B b bs w) (c : Int) (hlen : bs.length + 1 ≤ 140737488355328) (hB : B ≤ w.heap.size) :
    Calls Tryz.prog 120 #[.pointer (some ⟨b, 0, none⟩), .int .u8 c] w fun e w' => e = .returned .nilIface ∧ BldAt B b (bs ++ [.int .u8 c]) w' ∧ Below B w w' := by
  obtain ⟨i0, hi, hz0, hz1, hz2⟩ := info_parts info_u8
  have hc := check_any h
  clear h
  go_enter Tryz.func120, Tryz.ntmps120
  go_wp2_with fail
  refine hc.mono ?_
  rintro e w1 ⟨rfl, ⟨hBb, v, hbk, hown, hne⟩, hb1⟩
  have c0 : w1.cell? ⟨b, 0, none⟩ = some (.pointer (some ⟨b, 0, none⟩)) := by rw [Lib.cell_of_heap hbk]; rfl
  have c1 : w1.cell? ⟨b, 1, none⟩ = some v := by rw [Lib.cell_of_heap hbk]; rfl
  have hlt : b < w1.heap.size := World.block_lt_of_cell? _ _ c0
  have hz := hb1.size
  have H := Lib.hid (And.intro hown (And.intro hne (And.intro hbk (And.intro hb1 hBb))))
  clear hown hne hbk hb1 hBb
  go_wp2_with (first
   | (at_builtin; go_loud (refine wpList_append_own _ rfl _ _ 101 rfl B tU i0 (.int .u8 0) 1 1 Tryz.underlying101 hi hz0 hz1 hz2 rfl (by decide) _ _ _ rfl (H.out.1.alloc _) ⟨w1.heap.size, 0, none⟩ 1 1 [.int .u8 c] rfl rfl (by
      intro j u hj
      match j, hj with
      | 0, hj => simp at hj; subst hj; simp [Addr.add]) (by intro u hu; simp at hu; subst hu; rfl) (by unfold maxLen; omega) (by omega) (by simp; omega) ?_); intro v' w2 hown2 hgrow _
      have hb2 : w2.heap[b]? = some (.cells #[.pointer (some ⟨b, 0, none⟩), v] tB (0, 0)) := ((hgrow.block b (by simp; omega) (fun e => H.out.2.1 e.symm)).trans (Lib.alloc_old w1 _ b hlt)).trans H.out.2.2.1
      have d0 : w2.cell? ⟨b, 0, none⟩ = some (.pointer (some ⟨b, 0, none⟩)) := by rw [Lib.cell_of_heap hb2]; rfl
      have d1 : w2.cell? ⟨b, 1, none⟩ = some v := by rw [Lib.cell_of_heap hb2]; rfl
      have f1 : w2.frozen? ⟨b, 1, none⟩ = false := Lib.frozen_of_heap hb2 1
      obtain ⟨ao, n', cap, rfl⟩ : ∃ ao n' cap, v' = .slice ao n' cap := by
        obtain ⟨a, c, e, _⟩ := row_form hown2
        exact ⟨a, _, c, e⟩
      have H2 := Lib.hid (And.intro hown2 (And.intro hgrow hb2)); clear hown2 hgrow hb2))
  go_ret
  exact ⟨rfl, .inr (Lib.BuilderAt.put (T := tB) (e := tU) H.out.2.2.2.2 H2.out.2.2 (bs' := bs ++ [.int .u8 c]) (by simpa using H2.out.1) t_ne), ((H.out.2.2.2.1.alloc (by omega) _).grown H2.out.2.1 (by simp; omega) (fun k hk => (H.out.1.lt k hk).1)).setCell (p := ⟨b, 1, none⟩) H.out.2.2.2.2 _⟩
theorem bld_string {B b : Nat} {l : List UInt8} {w : World} (h : BldAt B b (Lib.byteCells l) w) (hB : B ≤ w.heap.size) :
    Calls Tryz.prog 64 #[.pointer (some ⟨b, 0, none⟩)] w fun e w' => e = .returned (.string ⟨l.toArray⟩) ∧ Below B w w' := Tryz.Builder_String_any B b l w h hB
end Go.Proofs.YtjebpppjhkkebaaGreatDoor
/-
  Lease: a vector's bytes, all leases' bytes.
-/
set_option linter.unusedSimpArgs false
set_option linter.unusedVariables false
namespace Go.Proofs.YtjebpppjhkkebaaGreatDoor
open Go.RowKit
variable {w w' w0 w1 w2 w3 w4 : World} {mb lb B : Nat} {ob : Option Nat} {last now : Int}

def enc6 (t : Int) : List UInt8 := Rw.beF 6 t.toNat
def enc7 (t : Int) : List UInt8 := Rw.beF 7 t.toNat
def encV (vs : List Int) : List UInt8 := UInt8.ofNat vs.length :: vs.flatMap enc6
def encL (c : Int × List Int × Int) : List UInt8 := enc7 c.1 ++ enc7 c.2.2 ++ encV c.2.1
def putS (last : Int) (l : List (Int × List Int × Int)) : List UInt8 := enc7 last ++ l.flatMap encL
theorem str_cells (l : List UInt8) : Lib.strCells ⟨l.toArray⟩ = Lib.byteCells l := by unfold Lib.strCells Lib.byteCells; simp
theorem byte_app (a b : List UInt8) : Lib.byteCells (a ++ b) = Lib.byteCells a ++ Lib.byteCells b := by unfold Lib.byteCells; simp
theorem enc6_len (t : Int) : (enc6 t).length = 6 := Rw.beF_len _ _
theorem flat6_len (vs : List Int) : (vs.flatMap enc6).length = 6 * vs.length := by
  induction vs with
  | nil => rfl
  | cons t vs ih => rw [List.flatMap_cons, List.length_append, enc6_len, ih, List.length_cons]; omega
theorem put6_any (n : Int) (h0 : 0 ≤ n) (h1 : n < 281474976710656) (w : World) : Calls Tryz.prog 31 #[.int .i64 n, .int .i64 6] w fun e w' => e = .returned (.tuple #[.string ⟨(enc6 n).toArray⟩, .int .i64 0]) ∧ Below w.heap.size w w' := by
  obtain ⟨k, rfl⟩ := Int.eq_ofNat_of_zero_le h0
  exact put_ok k 6 w (by omega) (by omega) (by omega)

set_option maxRecDepth 100000 in
set_option maxHeartbeats 1000000 in
theorem putvec_any {x : Value} {vs : List Int} (h : RdI w x vs) (hv : validB vs = true) : Calls Tryz.prog 63 #[x] w fun e w' => e = .returned (.tuple #[.string ⟨(encV vs).toArray⟩, .int .i64 0]) ∧ Below w.heap.size w w' := by
  have hV := valid_any h
  rw [hv] at hV
  obtain ⟨a, c, rfl, hc⟩ := h
  obtain ⟨n, hn⟩ : ∃ n, vs.length = n := ⟨_, rfl⟩
  have hn8 : 1 ≤ n ∧ n ≤ 8 := by
    simp only [validB, Bool.and_eq_true, decide_eq_true_eq] at hv
    omega
  have hok : ∀ t ∈ vs, 0 ≤ t ∧ t < 281474976710656 := fun t ht => by
    simp only [validB, Bool.and_eq_true] at hv
    have := List.all_eq_true.1 hv.2 t ht
    simpa [okT] using this
  rw [hn] at hV ⊢
  obtain ⟨W1, hW1⟩ : ∃ W1, w.alloc (.cells #[.pointer none, .slice none 0 0] 104) = W1 := ⟨_, rfl⟩
  have hB1 : BldAt w.heap.size w.heap.size [] W1 := by rw [← hW1]; exact Lib.fresh_isBuilder _ _ w
  have hb1 : Below w.heap.size w W1 := by rw [← hW1]; exact (Below.refl _ _).alloc (Nat.le_refl _) _
  have hc8 : (n : Int) % 256 = (n : Int) := by omega
  have H := Lib.hid (And.intro hc (And.intro hn (And.intro hok (And.intro hB1 (And.intro hb1 hn8)))))
  have hn1 : n ≤ 8 := hn8.2
  clear hc hn hok hv hB1 hb1 hn8
  go_enter Tryz.func63, Tryz.ntmps63
  go_wp2_with (first
    | (go_at_call 120; go_loud (refine (bld_byte H.out.2.2.2.1 _ (by simp) H.out.2.2.2.2.1.size).mono ?_); rintro e w2 ⟨rfl, hB2, hb2⟩; have H2 := Lib.hid (And.intro hB2 (H.out.2.2.2.2.1.trans hb2)); clear hB2 hb2)
    | (go_at_call 80; refine hV.mono ?_; rintro e v1 ⟨rfl, rfl⟩))
  clear hV
  go_loopw [6, 7, 8, 18] (fun _ _ _ iv wr => ∃ i : Nat, i ≤ n ∧ iv = .int .i64 (i : Int) ∧ BldAt w.heap.size w.heap.size (Lib.byteCells (UInt8.ofNat n :: (vs.take i).flatMap enc6)) wr ∧ Below w.heap.size w wr) (fun _ _ _ iv _ => n - (intOf iv).toNat)
  case atStart =>
    refine ⟨0, by omega, rfl, ?_, H2.out.2⟩
    have h5 := H2.out.1
    have e : ([] ++ [Value.int .u8 ((n : Int))] : List Value) = Lib.byteCells [UInt8.ofNat n] := by
      have : ((UInt8.ofNat n).toNat : Int) = (n : Int) := by simp; omega
      show [Value.int .u8 (n : Int)] = [Value.int .u8 ((UInt8.ofNat n).toNat : Int)]
      rw [this]
    rw [e] at h5
    exact h5
  case round =>
    obtain ⟨i, hi, rfl, hbd, hb⟩ := hrel
    have HB := Lib.hid (And.intro hbd hb)
    clear hbd
    by_cases hlt : i < n
    · have hil : i < vs.length := by have := H.out.2.1; omega
      obtain ⟨b, off, rfl, hbl, hcc⟩ := H.out.1.resolve_left (fun e => by rw [e] at hil; simp at hil)
      obtain ⟨t, ht⟩ : ∃ t, vs[i] = t := ⟨_, rfl⟩
      have d := (hb.cell (p := ⟨b, off + i, none⟩) hbl).trans (hcc i hil)
      rw [ht] at d
      have hto := H.out.2.2.1 t (by rw [← ht]; exact List.getElem_mem hil)
      have htk : (vs.take (i + 1)).flatMap enc6 = (vs.take i).flatMap enc6 ++ enc6 t := by rw [List.take_succ_eq_append_getElem hil, List.flatMap_append, ht]; simp
      have hlen : (UInt8.ofNat n :: (vs.take i).flatMap enc6).length ≤ 100 := by rw [List.length_cons, flat6_len, List.length_take]; omega
      have hP := put6_any t hto.1 hto.2
      have r1 : (i : Int) < (n : Int) := by omega
      have HX := Lib.hid (And.intro htk (And.intro hlen hP))
      clear hcc ht htk hto hlen hP hb
      go_wp2_with (first
        | (go_at_call 61; go_loud (refine (bld_text H3.out.1 _ (by rw [Lib.byteCells_length]; have := HX.out.2.1; have h6 : (⟨(enc6 t).toArray⟩ : ByteArray).size = 6 := enc6_len t; omega) H3.out.2.size).mono ?_); rintro e w4 ⟨rfl, hB4, hb4⟩; have H4 := Lib.hid (And.intro hB4 (H3.out.2.trans hb4)); clear hB4 hb4)
        | (go_at_call 31; refine (HX.out.2.2 _).mono ?_; rintro e w3 ⟨rfl, hb3⟩
           have hB3 : BldAt w.heap.size w.heap.size (Lib.byteCells (UInt8.ofNat n :: (vs.take i).flatMap enc6)) w3 := bld_below HB.out.1 hb3
           have H3 := Lib.hid (And.intro hB3 (HB.out.2.trans (hb3.mono HB.out.2.size))); clear hb3 hB3))
      go_roundw
      case rel =>
        refine ⟨i + 1, by omega, by go_num, ?_, H4.out.2⟩
        have h5 := H4.out.1
        rw [str_cells, ← byte_app] at h5
        rw [HX.out.1]
        exact h5
      case measure => simp [intOf]; omega
    · obtain rfl : i = n := by omega
      clear hb
      go_wp2_with (go_at_call 64; go_loud (refine (bld_string HB.out.1 HB.out.2.size).mono ?_); rintro e w4 ⟨rfl, hb4⟩; have H4 := Lib.hid (HB.out.2.trans hb4); clear hb4)
      go_ret2
      refine ⟨?_, H4.out⟩
      rw [List.take_of_length_le (by have := H.out.2.1; omega)]
      unfold encV
      rw [H.out.2.1]
      rfl


theorem encV_len {vs : List Int} (h : validB vs = true) : (encV vs).length ≤ 49 := by
  simp only [validB, Bool.and_eq_true, decide_eq_true_eq] at h
  unfold encV
  rw [List.length_cons, flat6_len]
  omega
theorem str_add (a b : List UInt8) : ((⟨a.toArray⟩ : ByteArray) ++ (⟨b.toArray⟩ : ByteArray)) = ⟨(a ++ b).toArray⟩ := by
  apply ByteArray.ext
  simp
theorem size_arr (l : List UInt8) : (⟨l.toArray⟩ : ByteArray).size = l.length := by simp [ByteArray.size]


end Go.Proofs.YtjebpppjhkkebaaGreatDoor
/-
  Plain facts on numbers in few bytes (no program).
-/
set_option linter.unusedSimpArgs false
set_option linter.unusedVariables false
namespace Go.Proofs.YtjebpppjhkkebaaGreatDoor.Rw

/-- The bytes of a number below 128 ^ (k + 1). -/
def putK : Nat → Nat → List UInt8
  | 0, v => [UInt8.ofNat v]
  | k + 1, v => if v < 128 then [UInt8.ofNat v] else UInt8.ofNat (v % 128 + 128) :: putK k (v / 128)
def putF (v : Nat) : List UInt8 := putK 8 v

theorem putK_small (k : Nat) {v : Nat} (h : v < 128) : putK k v = [UInt8.ofNat v] := by
  cases k with
  | zero => rfl
  | succ k => unfold putK; rw [if_pos h]
theorem putK_big (k : Nat) {v : Nat} (h : 128 ≤ v) : putK (k + 1) v = UInt8.ofNat (v % 128 + 128) :: putK k (v / 128) := by
  rw [putK, if_neg (by omega)]
theorem putK_len (k : Nat) : ∀ v, 1 ≤ (putK k v).length ∧ (putK k v).length ≤ k + 1 := by
  induction k with
  | zero => intro v; simp [putK]
  | succ k ih =>
    intro v
    rw [putK]
    split
    · simp
    · have := ih (v / 128)
      simp only [List.length_cons]
      omega
end Go.Proofs.YtjebpppjhkkebaaGreatDoor.Rw
/-
  The walk of raw.PutVar.
-/
set_option linter.unusedSimpArgs false
set_option linter.unusedVariables false
namespace Go.Proofs.YtjebpppjhkkebaaGreatDoor
open Go.RowKit

theorem or128 (u : Nat) : bits .or .u8 ((u : Int) % 256) 128 = (((UInt8.ofNat (u % 128 + 128)).toNat : Nat) : Int) := by
  have h := (bits_nat .u8 8 (by decide) (fun n h0 h1 => by rw [IntKind.wrap_u8]; omega) (u % 256) 128 (by omega) (by omega)).2
  have e : (u % 256) ||| 128 = u % 128 + 128 := by
    have hd : u % 256 = 128 * (u / 128 % 2) + u % 128 := by omega
    have : u / 128 % 2 = 0 ∨ u / 128 % 2 = 1 := by omega
    have h7 : u % 128 < 2 ^ 7 := by omega
    rcases this with h | h
    · rw [h] at hd
      have := Nat.two_pow_add_eq_or_of_lt h7 1
      rw [show u % 256 = u % 128 from by omega, Nat.or_comm, ← show 2 ^ 7 * 1 = 128 from rfl, ← this]
      omega
    · rw [h] at hd
      have := Nat.two_pow_add_eq_or_of_lt h7 1
      have e2 : u % 256 = 128 ||| u % 128 := by
        rw [show (128 : Nat) = 2 ^ 7 * 1 from rfl, ← this]; omega
      rw [e2, Nat.or_comm, ← Nat.or_assoc, Nat.or_self, show (128 : Nat) = 2 ^ 7 * 1 from rfl, ← this]
      omega
  rw [e] at h
  have h3 : ((u % 256 : Nat) : Int) = (u : Int) % 256 := by omega
  rw [h3] at h
  have h4 : (UInt8.ofNat (u % 128 + 128)).toNat = u % 128 + 128 := by simp; omega
  rw [h4]
  exact h

set_option maxHeartbeats 400000 in
set_option maxRecDepth 100000 in
theorem putvar_any (v : Nat) (w : World) (hv : v < 9223372036854775808) :
    Calls Tryz.prog 60 #[.int .i64 v] w fun e w' => e = .returned (.string ⟨(Rw.putF v).toArray⟩) ∧ Below w.heap.size w w' := by
  go_enter Tryz.func60, Tryz.ntmps60
  go_wp2
  go_loopw [0, 3] (fun x b wr => ∃ (u f : Nat) (l : List UInt8), x = .int .i64 (u : Int) ∧ l ++ Rw.putK f u = Rw.putF v ∧ u < 128 ^ (f + 1) ∧ l.length + f = 8 ∧ OwnB wr w.heap.size b l ∧ Below w.heap.size w wr)
    (fun x _ _ => (intOf x).toNat)
  case atStart => exact ⟨v, 8, [], rfl, rfl, by omega, rfl, OwnB.nil _ _, Below.refl _ _⟩
  case round =>
    obtain ⟨u, f, l, rfl, hl, hu, hf, hown, hbel⟩ := hrel
    have HL := Lib.hid hl
    have HU := Lib.hid hu
    have HF := Lib.hid hf
    have HV := Lib.hid hv
    clear hl hu hf hv
    by_cases hlt : 128 ≤ u
    · obtain ⟨c, hc, Hc⟩ : ∃ c : UInt8, bits .or .u8 ((u : Int) % 256) 128 = (c.toNat : Int) ∧ Hid (c = UInt8.ofNat (u % 128 + 128)) := ⟨_, or128 u, rfl⟩
      go_wp2_with (at_builtin; refine wpList_append_b rfl _ _ rfl w.heap.size _ l rfl (hown.alloc _) ⟨wr.heap.size, 0, none⟩ 1 1 [c] rfl rfl (new_b _ _ _ _ ?c1) ?c2 ?c3 ?_)
      case c1 => rfl
      case c2 => have := HF.out; omega
      case c3 => have := hbel.size; simp; omega
      intro v' w1 hown1 hg
      have hbel1 := below_app hbel hown (Nat.le_refl _) hbel.size hg
      clear hg hown hbel
      go_wp2
      go_roundw
      case rel =>
        obtain ⟨f', rfl⟩ : ∃ f', f = f' + 1 := by
          rcases f with _ | f'
          · have := HU.out; omega
          · exact ⟨f', rfl⟩
        refine ⟨u / 128, f', l ++ [c], by go_num, ?_, ?_, ?_, hown1, hbel1⟩
        · rw [← HL.out, Rw.putK_big f' hlt, Hc.out]; simp
        · have := HU.out; rw [Nat.pow_succ] at this; omega
        · have := HF.out; simp; omega
      case measure => simp [intOf]; omega
    · have hc : UInt8.toNat (UInt8.ofNat u) = u := by simp; omega
      have Hc := Lib.hid hc
      clear hc
      go_wp2_with (at_builtin; refine wpList_append_b rfl _ _ rfl w.heap.size _ l rfl (hown.alloc _) ⟨wr.heap.size, 0, none⟩ 1 1 [UInt8.ofNat u] rfl rfl (new_b _ _ _ _ ?c1) ?c2 ?c3 ?_)
      case c1 => simp only [bCells, List.map, Hc.out]
      case c2 => have := HF.out; omega
      case c3 => have := hbel.size; simp; omega
      intro v' w1 hown1 hg
      have hbel1 := below_app hbel hown (Nat.le_refl _) hbel.size hg
      have hs := hown1.str
      clear hg hown hbel
      go_wp2
      go_ret
      refine ⟨ret_s ?_, hbel1⟩
      rw [← HL.out, Rw.putK_small f (by omega)]
end Go.Proofs.YtjebpppjhkkebaaGreatDoor
/-
  Manifest: numbers and texts laid; what an edit laid says, plain.
-/
set_option linter.unusedSimpArgs false
set_option linter.unusedVariables false
namespace Go.Proofs.YtjebpppjhkkebaaGreatDoor
open Go.RowKit
variable {w w' : World}

def numL (v : Int) : List UInt8 := Rw.putF v.toNat
theorem numL_len (v : Int) : 1 ≤ (numL v).length ∧ (numL v).length ≤ 9 := Rw.putK_len 8 _
def txtL (s : ByteArray) : List UInt8 := numL s.size ++ s.data.toList
theorem ba_len (s : ByteArray) : s.data.toList.length = s.size := rfl
theorem txtL_len (s : ByteArray) : (txtL s).length ≤ 9 + s.size := by
  unfold txtL
  rw [List.length_append, ba_len]
  have := (numL_len (s.size : Int)).2
  omega
def fiL (f : Fi) : List UInt8 := numL f.lv ++ numL f.nu ++ numL f.ct ++ numL f.sz ++ txtL f.f ++ txtL f.l
def ntL (p : KV) : List UInt8 := txtL p.1 ++ txtL p.2
def flL (l : List Int) : List UInt8 := if l = [] then [] else encV l
/-- The bytes of an edit. -/
def laidL (e : PE) : List UInt8 := numL e.add.length ++ e.add.flatMap fiL ++ numL e.rem.length ++ e.rem.flatMap numL ++ (numL e.log ++ (numL (flL e.fl).length ++ flL e.fl) ++ numL e.ns.length) ++ e.ns.flatMap ntL
structure LaidOk (e : PE) : Prop where
  add : ∀ f ∈ e.add, validF f = true
  addn : e.add.length ≤ 100000
  rem : ∀ n ∈ e.rem, 0 ≤ n ∧ n ≤ 2147483647
  remn : e.rem.length ≤ 100000
  log : 0 ≤ e.log ∧ e.log ≤ 4294967295
  fl : e.fl = [] ∨ vecB e.fl = true
  ns : ∀ p ∈ e.ns, p.1.size ≤ 500 ∧ p.2.size ≤ 20000
  nsn : e.ns.length ≤ 100000
theorem flat_le {α : Type} {f : α → List UInt8} {K : Nat} : ∀ (l : List α), (∀ x ∈ l, (f x).length ≤ K) → (l.flatMap f).length ≤ K * l.length
  | [], _ => by simp
  | x :: l, h => by
    have h1 := h x (by simp)
    have h2 := flat_le l (fun y hy => h y (List.mem_cons_of_mem _ hy))
    rw [List.flatMap_cons, List.length_append, List.length_cons, Nat.mul_add]
    omega
theorem valid_all {x : Fi} (h : validF x = true) : (0 ≤ x.lv ∧ x.lv ≤ 6) ∧ (1 ≤ x.nu ∧ x.nu ≤ 2147483647) ∧ (1 ≤ x.ct ∧ x.ct ≤ 2147483647) ∧ (0 ≤ x.sz ∧ x.sz ≤ 2147483647) ∧ x.f.size ≤ 500 ∧ x.l.size ≤ 500 := by
  unfold validF inI at h
  simp only [Bool.and_eq_true, decide_eq_true_eq] at h
  obtain ⟨⟨⟨⟨⟨⟨h1, h2⟩, h3⟩, h4⟩, h5⟩, h6⟩, h7⟩ := h
  omega
theorem fiL_len {x : Fi} (h : validF x = true) : (fiL x).length ≤ 1100 := by
  have := valid_all h
  unfold fiL
  simp only [List.length_append]
  have h1 := (numL_len x.lv).2
  have h2 := (numL_len x.nu).2
  have h3 := (numL_len x.ct).2
  have h4 := (numL_len x.sz).2
  have h5 := txtL_len x.f
  have h6 := txtL_len x.l
  omega
theorem flL_len {l : List Int} (h : l = [] ∨ vecB l = true) : (flL l).length ≤ 49 := by
  unfold flL
  split
  · simp
  · exact encV_len ((vecB_valid l).symm.trans (h.resolve_left (by assumption)))
theorem flat_take {α : Type} {f : α → List UInt8} {l : List α} {i : Nat} (h : i < l.length) : (l.take (i + 1)).flatMap f = (l.take i).flatMap f ++ f l[i] := by
  rw [List.take_succ_eq_append_getElem h, List.flatMap_append]
  simp
theorem mnum_any (v : Int) (w : World) (h0 : 0 ≤ v) (h1 : v < 9223372036854775808) : Calls Tryz.prog 26 #[.int .i64 v] w fun e w' => e = .returned (.string ⟨(numL v).toArray⟩) ∧ Below w.heap.size w w' := by
  obtain ⟨n, rfl⟩ := Int.eq_ofNat_of_zero_le h0
  have hp := putvar_any n w (by omega)
  have HP := Lib.hid hp
  clear hp
  go_enter Tryz.func26, Tryz.ntmps26
  go_wp2_with (go_at_call 60; refine HP.out.mono ?_; rintro e w2 ⟨rfl, hb⟩; have H2 := Lib.hid hb; clear hb)
  go_ret
  exact ⟨rfl, H2.out⟩
theorem arr_app (a : List UInt8) (s : ByteArray) : (⟨a.toArray⟩ : ByteArray) ++ s = ⟨(a ++ s.data.toList).toArray⟩ := by
  apply ByteArray.ext
  simp
theorem mtext_any (s : ByteArray) (hs : s.size ≤ 140737488351232) (w : World) : Calls Tryz.prog 62 #[.string s] w fun e w' => e = .returned (.string ⟨(txtL s).toArray⟩) ∧ Below w.heap.size w w' := by
  have hp := mnum_any (s.size : Int) w (by omega) (by omega)
  obtain ⟨a, ha⟩ : ∃ a : ByteArray, (⟨(numL s.size).toArray⟩ : ByteArray) = a := ⟨_, rfl⟩
  have hsz : a.size ≤ 9 := by rw [← ha, size_arr]; exact (numL_len _).2
  rw [ha] at hp
  have b1 : ¬ 9223372036854775807 < a.size + s.size := by omega
  have HP := Lib.hid (And.intro hp ha)
  clear hp ha hsz
  go_enter Tryz.func62, Tryz.ntmps62
  go_wp2_with (go_at_call 26; refine HP.out.1.mono ?_; rintro e w2 ⟨rfl, hb⟩; have H2 := Lib.hid hb; clear hb)
  go_ret
  refine ⟨?_, H2.out⟩
  rw [← HP.out.2, arr_app]
  rfl
set_option maxHeartbeats 1000000 in
theorem putvec_no {x : Value} (h : RdI w x []) : Calls Tryz.prog 63 #[x] w fun e w' => e = .returned (.tuple #[.string ⟨#[]⟩, .int .i64 1]) ∧ w = w' := by
  have hV := valid_any h
  rw [show validB [] = false by decide] at hV
  obtain ⟨a, c, rfl, hc⟩ := h
  clear hc
  go_enter Tryz.func63, Tryz.ntmps63
  go_wp2_with (go_at_call 80; refine hV.mono ?_; rintro e v1 ⟨rfl, rfl⟩)
  go_ret2
  exact ⟨rfl, rfl⟩
/-- The floor laid, or nothing. -/
theorem putfl_any {x : Value} {l : List Int} (h : RdI w x l) (hl : l = [] ∨ vecB l = true) : Calls Tryz.prog 63 #[x] w fun e w' => (∃ c, e = .returned (.tuple #[.string ⟨(flL l).toArray⟩, .int .i64 c])) ∧ Below w.heap.size w w' := by
  rcases hl with rfl | hl
  · refine (putvec_no h).mono ?_
    rintro e w' ⟨rfl, rfl⟩
    exact ⟨⟨1, rfl⟩, Below.refl _ _⟩
  · refine (putvec_any h ((vecB_valid l).symm.trans hl)).mono ?_
    rintro e w' ⟨rfl, hb⟩
    refine ⟨⟨0, ?_⟩, hb⟩
    unfold flL
    rw [if_neg (fun e => by rw [e] at hl; simp [vecB] at hl)]
end Go.Proofs.YtjebpppjhkkebaaGreatDoor
