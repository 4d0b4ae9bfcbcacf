/-
  The law SkipPlays' walk.
-/
import Derived.Test.YtmodgjjlgobjcaaGreatRfE
import Derived.Test.YtmodgjjlgobjcaaGreatOpenOps
import Derived.Deep.CutBlock
import Derived.Deep.CutRange
namespace Go.Proofs.YtmodgjjlgobjcaaGreat
open Go.RowKit

theorem nil_Kd {P : Program} {T E TS : TypeId} {k by_ : Nat} {α : Type} {cell : α → List Value} {e : Elm P T E k by_ cell} {eS : Elm P TS T 1 24 sCell} {w : World} {bk off : Nat} (c0 : w.cell? ⟨bk, off, none⟩ = some (.slice none 0 0)) (c1 : w.cell? ⟨bk, off + 1, none⟩ = some (.slice none 0 0)) (hf : ∀ j, w.frozen? ⟨bk, j, none⟩ = false) : Kd e eS w bk off (bk + 1) (.slice none 0 0) (.slice none 0 0) [] [] :=
  ⟨c0, c1, Lst.nil _ _, Lst.nil _ _, rfl, fun q hq => (nil_foot hq).elim, by omega, hf⟩
theorem pst_start {w0 w : World} {sb rb bk : Nat} {F : Nat → Prop} (hs : SAt w F sb [] false) (hF : ∀ q, F q → w0.heap.size ≤ q ∧ q ≠ rb ∧ q ≠ bk) (r0 : w.cell? ⟨rb, 0, none⟩ = some (.slice none 0 0)) (r1 : w.cell? ⟨rb, 1, none⟩ = some (.bool false)) (rf : ∀ j, w.frozen? ⟨rb, j, none⟩ = false)
    (b0 : ∀ o, o < 30 → w.cell? ⟨bk, o, none⟩ = some (.slice none 0 0)) (bf : ∀ j, w.frozen? ⟨bk, j, none⟩ = false) (hne : rb ≠ bk) (hr : w0.heap.size ≤ rb) (hb : w0.heap.size ≤ bk) (hbel : Below w0.heap.size w0 w) : PSt (fun _ => False) w0 w sb rb bk [] false [] false := by
  have hbf : ∀ q, (q = bk ∨ IFoot (.slice none 0 0) (.slice none 0 0) [] [] q ∨ KFoot (.slice none 0 0) (.slice none 0 0) [] [] q) → q = bk := fun q hq => by
    rcases hq with hq | (hq | hq) | (hq | hq)
    · exact hq
    all_goals exact (nil_foot hq).elim
  have hrf : ∀ q, RFoot rb (.slice none 0 0) q → q = rb := fun q hq => by
    rcases hq with hq | hq
    · exact hq
    · cases hq
  refine ⟨F, .slice none 0 0, .slice none 0 0, .slice none 0 0, [], [], ⟨hs, ⟨r0, r1, rf, World.ownsRow_nil _ _ _ _, by omega, by simp, List.Pairwise.nil, by simp, by simp⟩, nil_Kd (b0 2 (by decide)) (b0 3 (by decide)) bf, nil_Kd (b0 6 (by decide)) (b0 7 (by decide)) bf, fun o h _ _ _ _ => b0 o h, ?_, ?_, ?_, ?_, fun q hq => (hF q hq).1, ?_, ?_, hbel, by simp, by simp⟩, fun _ e => e.elim⟩
  · intro q hq h; exact (hF q hq).2.1 (hrf q h)
  · intro q hq h; exact (hF q hq).2.2 (hbf q h)
  · intro q hq h; exact hne ((hrf q hq).symm.trans (hbf q h))
  · intro q hq; rcases hq with hq | hq <;> exact (nil_foot hq).elim
  · intro q hq; rw [hrf q hq]; exact hr
  · intro q hq; rw [hbf q hq]; exact hb

theorem quiet0 {P : Program} {f : FuncId} {args : Array Value} {w : World} {n : Nat} {v : Value}
    (h : Calls P f args (w.drewN n) fun e w' => e = .returned v ∧ w.drewN n = w') : Calls P f args (w.drewN n) fun e w'' => e = .returned v ∧ ∃ m, w'' = w.drewN m :=
  h.mono fun _ _ ⟨he, hw⟩ => ⟨he, n, hw.symm⟩
theorem PSt.bklt {K : Nat → Prop} {w0 w : World} {sb rb bk : Nat} {E E2 : List Nd} {fr fr2 : Bool} (h : PSt K w0 w sb rb bk E fr E2 fr2) : bk < w.heap.size := by
  obtain ⟨F, lv, v1, u1, S1, T1, h, hK⟩ := h
  exact h.blt bk (.inl rfl)

def bookCells : Array Value := #[.slice none 0 0, .slice none 0 0, .slice none 0 0, .slice none 0 0, .slice none 0 0, .slice none 0 0, .slice none 0 0, .slice none 0 0, .slice none 0 0, .slice none 0 0, .slice none 0 0, .slice none 0 0, .slice none 0 0, .slice none 0 0, .slice none 0 0, .slice none 0 0, .slice none 0 0, .slice none 0 0, .slice none 0 0, .slice none 0 0, .slice none 0 0, .slice none 0 0, .slice none 0 0, .slice none 0 0, .slice none 0 0, .slice none 0 0, .slice none 0 0, .slice none 0 0, .slice none 0 0, .slice none 0 0]
theorem book_cell (w : World) (t : TypeId) (o : Nat) (h : o < 30) : (w.alloc (.cells bookCells t)).cell? ⟨w.heap.size, o, none⟩ = some (.slice none 0 0) := by
  rw [World.cell?_alloc_mark]
  have e : bookCells = (List.replicate 30 (Value.slice none 0 0)).toArray := rfl
  rw [e, List.getElem?_toArray, List.getElem?_replicate, if_pos h]
theorem fz_alloc (w : World) (c : Array Value) (t : TypeId) (j : Nat) : (w.alloc (.cells c t)).frozen? ⟨w.heap.size, j, none⟩ = false := by
  have h : (w.alloc (.cells c t)).heap[w.heap.size]? = some (.cells c t (0, 0)) := World.alloc_heap_new w _
  unfold World.frozen?
  simp only [h]
  simp

set_option maxRecDepth 100000 in
set_option maxHeartbeats 4000000 in
theorem plays_law (zero : Bool) (a : Option Addr) (len cap : Nat) (l : List LOp) {W : World} (hl : OpsAt W a len l) (hlen : len ≤ maxLen) (w : World) (hWw : W = w) :
    Calls Tryz.prog 3 #[.bool zero, .slice a len cap] w fun e w' => e = .returned (.bool true) ∧ Below w.heap.size w w' := by
  subst hWw
  unfold maxLen at hlen
  obtain ⟨hll, hcells, hwf⟩ := hl
  generalize hw : W = w at *
  clear hw
  by_cases hbig : 250 < len
  · have t1 : (250 : Int) < (len : Int) := by omega
    clear hcells hwf hll hbig
    go_enter Tryz.func3, Tryz.ntmps3
    go_wp2_with fail
    refine (alive_any w).mono ?_
    rintro e w1 ⟨rfl, b1⟩
    go_wp2
    go_ret
    exact ⟨rfl, b1⟩
  · have HC := Lib.hid hcells
    have HLL := Lib.hid hll
    have HWF : Hid (∀ o ∈ l, o.wf) := hwf
    have h2 : len ≤ 250 := by omega
    have t1 : ¬ (250 : Int) < (len : Int) := by omega
    clear hcells hll hwf hbig hlen
    go_enter Tryz.func3, Tryz.ntmps3
    go_wp2_with fail
    refine (alive_any w).mono ?_
    rintro _ w1 ⟨rfl, hb1⟩
    go_wp2_with fail
    refine (new_s w1).mono ?_
    rintro _ w2 ⟨F, sb0, rfl, hs2, hF2, hb2⟩
    simp only []
    have HS2 := Lib.hid hs2
    have HF2 := Lib.hid hF2
    have hb12 : Below w.heap.size w w2 := hb1.trans (hb2.mono hb1.size)
    have HB2 := Lib.hid hb12
    have HB1 := Lib.hid hb1
    have hlt2 := hs2.lt
    obtain ⟨w3, hw3⟩ : ∃ w3, w2.alloc (.cells #[.slice none 0 0, .bool false] 29) = w3 := ⟨_, rfl⟩
    have hb23 : Below w2.heap.size w2 w3 := by rw [← hw3]; exact (Below.refl _ _).alloc (Nat.le_refl _) _
    have hsz3 : w3.heap.size = w2.heap.size + 1 := by rw [← hw3]; simp
    have r0 : w3.cell? ⟨w2.heap.size, 0, none⟩ = some (.slice none 0 0) := by rw [← hw3, World.cell?_alloc_mark]; rfl
    have r1 : w3.cell? ⟨w2.heap.size, 1, none⟩ = some (.bool false) := by rw [← hw3, World.cell?_alloc_mark]; rfl
    have rf : ∀ j, w3.frozen? ⟨w2.heap.size, j, none⟩ = false := fun j => by rw [← hw3]; exact fz_alloc _ _ _ _
    have HR := Lib.hid (And.intro r0 (And.intro r1 rf))
    have HB23 := Lib.hid hb23
    have HSZ3 := Lib.hid hsz3
    clear hs2 hF2 hb12 r0 r1 rf hb23 hsz3 hb1 hb2
    go_upto_if 32 with fail
    go_cut [5] from 23 (fun x wx => ∃ sb F, x = .pointer (some ⟨sb, 0, none⟩) ∧ SAt wx F sb [] false ∧ (∀ q, F q → w.heap.size ≤ q ∧ q ≠ w2.heap.size) ∧ Below w3.heap.size w3 wx)
    case first =>
      cases zero with
      | false =>
        go_wp2
        go_meet
        case rel => exact ⟨sb0, F, rfl, HS2.out.below HB23.out, fun q hq => ⟨Nat.le_trans HB1.out.size (HF2.out q hq), fun e => by have := hlt2 q hq; omega⟩, Below.refl _ _⟩
      | true =>
        have hfl := fresh_list w3
        have hbf : Below w3.heap.size w3 (w3.alloc (.cells freshCells 35)) := (Below.refl _ _).alloc (Nat.le_refl _) _
        have hsf : SAt (w3.alloc (.cells freshCells 35)) (Feet w3.heap.size []) w3.heap.size [] false := ⟨[], hfl, rfl, rfl⟩
        unfold freshCells at hsf hbf
        have HSF := Lib.hid (And.intro hsf hbf)
        clear hfl hsf hbf
        go_wp2
        go_meet
        case rel => 
          refine ⟨w3.heap.size, _, rfl, HSF.out.1, fun q hq => ?_, HSF.out.2⟩
          rcases hq with rfl | ⟨n, hn, _⟩
          · have := HB2.out.size; have := HSZ3.out; exact ⟨by omega, by omega⟩
          · cases hn
    case rest =>
    obtain ⟨sb, F3, hx, hs3, hF3, hb3⟩ := hcut
    subst hx
    obtain ⟨w4, hw4⟩ : ∃ w4, wc.alloc (.cells bookCells 52) = w4 := ⟨_, rfl⟩
    have hb34 : Below wc.heap.size wc w4 := by rw [← hw4]; exact (Below.refl _ _).alloc (Nat.le_refl _) _
    have hst : PSt (fun _ => False) w w4 sb w2.heap.size wc.heap.size [] false [] false := by
      have hz3 := hb3.size
      have hz2 := HB2.out.size
      have hlt3 : w2.heap.size < w3.heap.size := by have := HSZ3.out; omega
      have hbw : Below w3.heap.size w3 w4 := hb3.trans (hb34.mono hz3)
      refine pst_start (hs3.below hb34) (fun q hq => ⟨(hF3 q hq).1, (hF3 q hq).2, fun e => by have := hs3.lt q hq; omega⟩) ((hbw.cell (p := ⟨w2.heap.size, 0, none⟩) hlt3).trans HR.out.1) ((hbw.cell (p := ⟨w2.heap.size, 1, none⟩) hlt3).trans HR.out.2.1) (fun j => (hbw.frozen (p := ⟨w2.heap.size, j, none⟩) hlt3).trans (HR.out.2.2 j)) (fun o ho => by rw [← hw4]; exact book_cell _ _ o ho) (fun j => by rw [← hw4]; exact fz_alloc _ _ _ _) (by omega) (by omega) (by omega) ?_
      exact (HB2.out.trans (HB23.out.mono HB2.out.size)).trans (hbw.mono (by omega))
    have HST := Lib.hid hst
    obtain ⟨rb, hrb⟩ : ∃ rb, rb = w2.heap.size := ⟨_, rfl⟩
    obtain ⟨bk, hbk⟩ : ∃ bk, bk = wc.heap.size := ⟨_, rfl⟩
    rw [← hrb, ← hbk] at HST
    unfold bookCells at hw4
    clear hst hb34 hb3 hF3 hs3 HS2 HF2 HB2 HR HB23 HSZ3 hlt2
    go_upto_region 9 with fail
    clear hw4
    rw [← hrb, ← hbk]
    clear hrb hbk
    go_wp2_with fail
    go_loopw [8] (fun x wr => ∃ (i : Nat) (E : List Nd) (fr : Bool), i ≤ len ∧ x = .int .i64 (i : Int) ∧ E.length ≤ i ∧ PSt (fun _ => False) w wr sb rb bk E fr E fr) (fun x _ => len - (intOf x).toNat)
    case atStart => exact ⟨0, [], false, by omega, rfl, by simp, HST.out⟩
    case round =>
      obtain ⟨i, E, fr, hi, rfl, hEl, hst⟩ := hrel
      clear HST
      have HST := Lib.hid hst
      by_cases hlt : i < len
      · obtain ⟨b, off, rfl, hb, hc⟩ : ∃ b off, a = some ⟨b, off, none⟩ ∧ b < w.heap.size ∧ ∀ i (hi : i < l.length), l[i].here w b (off + i * 4) := by
          rcases HC.out with h | h
          · omega
          · exact h
        have hil : i < l.length := by have := HLL.out; omega
        obtain ⟨q0, q1, q2, q3⟩ := hc i hil
        have hwfo := HWF.out l[i] (List.getElem_mem hil)
        obtain ⟨o, ho⟩ : ∃ o, l[i] = o := ⟨_, rfl⟩
        rw [ho] at q0 q1 q2 q3 hwfo
        obtain ⟨kd, no, ko, vo⟩ := o
        obtain ⟨wfk, wfn, wfs⟩ := hwfo
        simp only at q0 q1 q2 q3 wfk wfn wfs
        have hn12 := int_wf wfn
        have hbel := hst.bel
        have p0 := (hbel.cell (p := ⟨b, off + i * 4, none⟩) hb).trans q0
        have p1 := (hbel.cell (p := ⟨b, off + i * 4 + 1, none⟩) hb).trans q1
        have p2 := (hbel.cell (p := ⟨b, off + i * 4 + 2, none⟩) hb).trans q2
        have p3 := (hbel.cell (p := ⟨b, off + i * 4 + 3, none⟩) hb).trans q3
        obtain ⟨w5, hw5⟩ : ∃ w5, wr.alloc (.cells #[.int .i64 kd, .int .i64 no, .string ko, .string vo] 54) = w5 := ⟨_, rfl⟩
        have hb5 : Below wr.heap.size wr w5 := by rw [← hw5]; exact (Below.refl _ _).alloc (Nat.le_refl _) _
        have c0 : w5.cell? ⟨wr.heap.size, 0, none⟩ = some (.int .i64 kd) := by rw [← hw5, World.cell?_alloc_mark]; rfl
        have c1 : w5.cell? ⟨wr.heap.size, 1, none⟩ = some (.int .i64 no) := by rw [← hw5, World.cell?_alloc_mark]; rfl
        have c2 : w5.cell? ⟨wr.heap.size, 2, none⟩ = some (.string ko) := by rw [← hw5, World.cell?_alloc_mark]; rfl
        have c3 : w5.cell? ⟨wr.heap.size, 3, none⟩ = some (.string vo) := by rw [← hw5, World.cell?_alloc_mark]; rfl
        have hlt5 : wr.heap.size < w5.heap.size := World.block_lt_of_cell? _ _ c0
        have HST5 := Lib.hid ((hst.more hb5).weak (K' := fun q => q = wr.heap.size) (fun q hq => by subst hq; exact .inr ⟨Nat.le_refl _, hlt5⟩))
        obtain ⟨ob, hob⟩ : ∃ ob, ob = wr.heap.size := ⟨_, rfl⟩
        rw [← hob] at c0 c1 c2 c3 hlt5 HST5
        have r1 : (i : Int) < (len : Int) := by omega
        clear hst hc ho q0 q1 q2 q3 wfk wfn hb5 hbel
        by_cases hsz : 70000 < ko.size + vo.size
        · have t3 : ((70000 : Int) < (ko.size : Int) + (vo.size : Int)) := by omega
          have hbw := HST5.out.bel
          have HBW := Lib.hid hbw
          clear hsz hbw
          go_upto_region 13 with fail
          clear hw5
          rw [← hob]
          clear hob
          go_wp2
          go_ret
          exact ⟨rfl, HBW.out⟩
        · have t3 : ¬ ((70000 : Int) < (ko.size : Int) + (vo.size : Int)) := by omega
          have s1 : ko.size ≤ 70000 := by omega
          have s2 : vo.size ≤ 70000 := by omega
          go_upto_region 13 with fail
          clear hw5 p0 p1 p2 p3
          rw [← hob]
          clear hob
          go_upto_block 2 with fail
          go_cut [] from 37 to 185 (fun wx => ∃ E' fr', E'.length ≤ i + 1 ∧ PSt (fun _ => False) w wx sb rb bk E' fr' E' fr')
          case first =>
            by_cases k1 : kd = 1
            · subst k1
              have pe : ∃ pe, putE E fr ko vo = pe := ⟨_, rfl⟩
              obtain ⟨pe, hpe⟩ := pe
              have HPE := Lib.hid hpe
              have hne : (pe != pe) = false := by simp
              have hpl := putL_len E fr ko vo no
              have HPL := Lib.hid hpl
              have kd1 : w5.drew.cell? ⟨ob, 1, none⟩ = some (.int .i64 no) := c1
              have kd2 : w5.drew.cell? ⟨ob, 2, none⟩ = some (.string ko) := c2
              have kd3 : w5.drew.cell? ⟨ob, 3, none⟩ = some (.string vo) := c3
              clear hpe hpl
              go_wp2_with fail
              refine wp_region_K (fun w' => w'.cell? ⟨ob, 1, none⟩ = some (.int .i64 no) ∧ w'.cell? ⟨ob, 2, none⟩ = some (.string ko) ∧ w'.cell? ⟨ob, 3, none⟩ = some (.string vo)) 16 17 (by kernel_rfl) (by kernel_rfl) ⟨kd1, kd2, kd3⟩ (fun hH => ?_)
              refine wpAnyK_take (i := 0) [7, 16] (v := ?v1) rfl (by kernel_rfl) (by kernel_rfl) (by kernel_rfl) (by kernel_rfl) (fun _ _ _ h => h) (Or.inl ⟨by rfl, ?hy1⟩) hH ?rest1
              case hy1 => (intro w hSw; (try dsimp only at hSw); go_simp; with_reducible rfl)
              try simp only [Act.put, List.setIfInBounds_toArray, List.set_cons_zero, List.set_cons_succ]
              refine wpAnyK_take (i := 1) [2, 7, 16] (v := ?v2) rfl (by kernel_rfl) (by kernel_rfl) (by kernel_rfl) (by kernel_rfl) (fun _ _ _ h => h) (Or.inl ⟨by rfl, ?hy2⟩) hH ?rest2
              case hy2 => (intro w hSw; (try dsimp only at hSw); go_simp; with_reducible rfl)
              try simp only [Act.put, List.setIfInBounds_toArray, List.set_cons_zero, List.set_cons_succ]
              refine wpAnyK_take (i := 2) [7, 16] (v := ?v3) rfl (by kernel_rfl) (by kernel_rfl) (by kernel_rfl) (by kernel_rfl) (fun _ _ _ h => h) (Or.inl ⟨by rfl, ?hy3⟩) hH ?rest3
              case hy3 => (intro w hSw; (try dsimp only at hSw); go_simp; with_reducible rfl)
              try simp only [Act.put, List.setIfInBounds_toArray, List.set_cons_zero, List.set_cons_succ]
              refine wpAnyK_take (i := 3) [4, 7, 16] (v := ?v4) rfl (by kernel_rfl) (by kernel_rfl) (by kernel_rfl) (by kernel_rfl) (fun _ _ _ h => h) (Or.inl ⟨by rfl, ?hy4⟩) hH ?rest4
              case hy4 => (intro w hSw; (try dsimp only at hSw); go_simp; with_reducible rfl)
              try simp only [Act.put, List.setIfInBounds_toArray, List.set_cons_zero, List.set_cons_succ]
              refine wpAnyK_take (i := 4) [7, 16] (v := ?v5) rfl (by kernel_rfl) (by kernel_rfl) (by kernel_rfl) (by kernel_rfl) (fun _ _ _ h => h) (Or.inl ⟨by rfl, ?hy5⟩) hH ?rest5
              case hy5 => (intro w hSw; (try dsimp only at hSw); go_simp; with_reducible rfl)
              try simp only [Act.put, List.setIfInBounds_toArray, List.set_cons_zero, List.set_cons_succ]
              refine wpAnyK_take (i := 5) [6, 7, 16] (v := ?v6) rfl (by kernel_rfl) (by kernel_rfl) (by kernel_rfl) (by kernel_rfl) (fun _ _ _ h => h) (Or.inl ⟨by rfl, ?hy6⟩) hH ?rest6
              case hy6 => (intro w hSw; (try dsimp only at hSw); go_simp; with_reducible rfl)
              try simp only [Act.put, List.setIfInBounds_toArray, List.set_cons_zero, List.set_cons_succ]
              refine wpAnyK_take (i := 6) [7, 16] (v := ?v7) rfl (by kernel_rfl) (by kernel_rfl) (by kernel_rfl) (by kernel_rfl) (fun _ _ _ h => h) (Or.inl ⟨by rfl, ?hy7⟩) hH ?rest7
              case hy7 => (intro w hSw; (try dsimp only at hSw); go_simp; with_reducible rfl)
              try simp only [Act.put, List.setIfInBounds_toArray, List.set_cons_zero, List.set_cons_succ]
              refine wpAnyK_take (i := 8) [15, 16] (v := ?v8) rfl (by kernel_rfl) (by kernel_rfl) (by kernel_rfl) (by kernel_rfl) (fun _ _ _ h => h) (Or.inl ⟨by rfl, ?hy8⟩) hH ?rest8
              case hy8 => (intro w hSw; (try dsimp only at hSw); go_simp; with_reducible rfl)
              try simp only [Act.put, List.setIfInBounds_toArray, List.set_cons_zero, List.set_cons_succ]
              refine wpAnyK_take (i := 9) [10, 15, 16] (v := ?v9) rfl (by kernel_rfl) (by kernel_rfl) (by kernel_rfl) (by kernel_rfl) (fun _ _ _ h => h) (Or.inl ⟨by rfl, ?hy9⟩) hH ?rest9
              case hy9 => (intro w hSw; (try dsimp only at hSw); go_simp; with_reducible rfl)
              try simp only [Act.put, List.setIfInBounds_toArray, List.set_cons_zero, List.set_cons_succ]
              refine wpAnyK_take (i := 10) [15, 16] (v := ?v10) rfl (by kernel_rfl) (by kernel_rfl) (by kernel_rfl) (by kernel_rfl) (fun _ _ _ h => h) (Or.inl ⟨by rfl, ?hy10⟩) hH ?rest10
              case hy10 => (intro w hSw; (try dsimp only at hSw); go_simp; with_reducible rfl)
              try simp only [Act.put, List.setIfInBounds_toArray, List.set_cons_zero, List.set_cons_succ]
              refine wpAnyK_take (i := 11) [12, 15, 16] (v := ?v11) rfl (by kernel_rfl) (by kernel_rfl) (by kernel_rfl) (by kernel_rfl) (fun _ _ _ h => h) (Or.inl ⟨by rfl, ?hy11⟩) hH ?rest11
              case hy11 => (intro w hSw; (try dsimp only at hSw); go_simp; with_reducible rfl)
              try simp only [Act.put, List.setIfInBounds_toArray, List.set_cons_zero, List.set_cons_succ]
              refine wpAnyK_take (i := 12) [15, 16] (v := ?v12) rfl (by kernel_rfl) (by kernel_rfl) (by kernel_rfl) (by kernel_rfl) (fun _ _ _ h => h) (Or.inl ⟨by rfl, ?hy12⟩) hH ?rest12
              case hy12 => (intro w hSw; (try dsimp only at hSw); go_simp; with_reducible rfl)
              try simp only [Act.put, List.setIfInBounds_toArray, List.set_cons_zero, List.set_cons_succ]
              refine wpAnyK_take (i := 13) [14, 15, 16] (v := ?v13) rfl (by kernel_rfl) (by kernel_rfl) (by kernel_rfl) (by kernel_rfl) (fun _ _ _ h => h) (Or.inl ⟨by rfl, ?hy13⟩) hH ?rest13
              case hy13 => (intro w hSw; (try dsimp only at hSw); go_simp; with_reducible rfl)
              try simp only [Act.put, List.setIfInBounds_toArray, List.set_cons_zero, List.set_cons_succ]
              refine wpAnyK_take (i := 14) [15, 16] (v := ?v14) rfl (by kernel_rfl) (by kernel_rfl) (by kernel_rfl) (by kernel_rfl) (fun _ _ _ h => h) (Or.inl ⟨by rfl, ?hy14⟩) hH ?rest14
              case hy14 => (intro w hSw; (try dsimp only at hSw); go_simp; with_reducible rfl)
              try simp only [Act.put, List.setIfInBounds_toArray, List.set_cons_zero, List.set_cons_succ]
              refine wpAnyK_one (i := 7) (by kernel_rfl) rfl (fun K hK => ?_) (by kernel_rfl)
              go_simp
              go_at_call 6
              refine (pst_put (HST5.out.below (Below.refl _ w5).drew) ko vo no (by omega)).mono ?_
              rintro _ w6 ⟨rfl, hp6, hb6, ht6⟩
              rw [HPE.out]
              have HP6 := Lib.hid hp6
              have e1 := ht6.cell kd1 (fun h => h rfl)
              have e2 := ht6.cell kd2 (fun h => h rfl)
              have e3 := ht6.cell kd3 (fun h => h rfl)
              clear hp6 hb6 ht6
              refine hK.out _ _ ⟨e1, e2, e3⟩ (fun hH => ?_)
              clear hK K
              try simp only [Act.put, List.setIfInBounds_toArray, List.set_cons_zero, List.set_cons_succ]
              refine wpAnyK_one (i := 15) (by kernel_rfl) rfl (fun K hK => ?_) (by kernel_rfl)
              go_simp
              go_at_call 7
              refine (pst_rput HP6.out ko vo no (by omega) (by omega) (by omega)).mono ?_
              rintro _ w7 ⟨rfl, hp7, hb7, ht7⟩
              rw [HPE.out]
              have HP7 := Lib.hid hp7
              have g1 := ht7.cell e1 (fun h => h rfl)
              have g2 := ht7.cell e2 (fun h => h rfl)
              have g3 := ht7.cell e3 (fun h => h rfl)
              clear hp7 hb7 ht7
              refine hK.out _ _ ⟨g1, g2, g3⟩ (fun hH => ?_)
              clear hK K
              try simp only [Act.put, List.setIfInBounds_toArray, List.set_cons_zero, List.set_cons_succ]
              refine wpAnyK_last (by kernel_rfl) rfl (fun K hK => ?_) (by kernel_rfl)
              go_simp
              refine hK.out _ _ (wpAnyK_done (by kernel_rfl) ?_ _)
              clear hK K hH kd1 kd2 kd3 e1 e2 e3 g1 g2 g3 c0 c1 c2 c3
              go_wp2_with fail
              go_meet
              case rel => exact ⟨_, _, by have := HPL.out; omega, HP7.out.drop⟩
            by_cases k2 : kd = 2
            · subst k2
              obtain ⟨gv, hgv⟩ : ∃ gv, (getOf E ko).1 = gv := ⟨_, rfl⟩
              obtain ⟨ge, hge⟩ : ∃ ge, (getOf E ko).2 = ge := ⟨_, rfl⟩
              have HG := Lib.hid (And.intro hgv hge)
              have t5 := str_eq gv
              clear hgv hge
              go_wp2_with (first
                | (go_at_call 8; refine (pst_get HST5.out ko).mono ?_; rintro _ w6 ⟨rfl, hb6⟩; rw [HG.out.1, HG.out.2]; have HB6 := Lib.hid hb6; have e2 := (hb6.cell (p := ⟨ob, 2, none⟩) hlt5).trans c2; clear hb6; simp only [])
                | (go_at_call 9; refine (pst_rget (HST5.out.below HB6.out) ko (by omega)).mono ?_; rintro _ w7 ⟨rfl, hb7⟩; rw [HG.out.1, HG.out.2]; have HB7 := Lib.hid (HB6.out.trans (hb7.mono HB6.out.size)); clear hb7; simp only []))
              go_meet
              case rel => exact ⟨E, fr, by omega, (HST5.out.below HB7.out).drop⟩
            by_cases k3 : kd = 3
            · subst k3
              have hfl := fromOf_len E ko no
              have HFL := Lib.hid hfl
              clear hfl
              go_wp2_with (first
                | (go_at_call 12; refine (same_Keys (rdK_own (row_below HO7.out HB8.out.2)) (rdK_own HB8.out.1) (by have := HFL.out; omega)).mono ?_; rintro _ w9 ⟨rfl, a9, hw9⟩; have HW9 := Lib.hid hw9; clear hw9; simp only [])
                | (go_at_call 13; refine (pst_rfrom HP7.out ko (by omega) no hn12.1 hn12.2).mono ?_; rintro _ w8 ⟨v8, rfl, ho8, hb8⟩; have HB8 := Lib.hid (And.intro ho8 hb8); clear ho8 hb8; simp only [])
                | (go_at_call 11; go_loud (refine (pst_keys (s := ⟨sa, sn, sc⟩) (HST5.out.more HO6.out.2) HO6.out.1 (fun q hq => ⟨.inr (HO6.out.1.lt q hq), Nat.le_trans HST5.out.bel.size (HO6.out.1.lt q hq).1, Nat.lt_of_lt_of_le HST5.out.bklt (HO6.out.1.lt q hq).1⟩) (by have := HFL.out; omega)).mono ?_); rintro _ w7 ⟨rfl, hp7, ho7, hb7, ht7⟩; have HP7 := Lib.hid hp7; have HO7 := Lib.hid ho7; have g1 := ht7.cell e1 (fun h => h (.inl rfl)); have g2 := ht7.cell e2 (fun h => h (.inl rfl)); clear hp7 ho7 hb7 ht7; simp only [])
                | (go_at_call 10; refine (pst_from HST5.out ko no hn12.1 hn12.2).mono ?_; rintro _ w6 ⟨⟨sa, sn, sc⟩, rfl, ho6, hb6⟩; have HO6 := Lib.hid (And.intro ho6 hb6); have e1 := (hb6.cell (p := ⟨ob, 1, none⟩) hlt5).trans c1; have e2 := (hb6.cell (p := ⟨ob, 2, none⟩) hlt5).trans c2; clear ho6 hb6; simp only [Sl.val]))
              go_meet
              case rel => exact ⟨E, fr, by omega, (HP7.out.below (by rw [HW9.out]; exact below_drewN HB8.out.2 _)).drop⟩
            by_cases k4 : kd = 4
            · subst k4
              obtain ⟨gk, hgk⟩ : ∃ gk, (lastOf E ko).1 = gk := ⟨_, rfl⟩
              obtain ⟨gv, hgv⟩ : ∃ gv, (lastOf E ko).2.1 = gv := ⟨_, rfl⟩
              obtain ⟨gb, hgb⟩ : ∃ gb, (lastOf E ko).2.2 = gb := ⟨_, rfl⟩
              have HG := Lib.hid (And.intro hgk (And.intro hgv hgb))
              have t5 := str_eq gv
              have t6 := str_eq gk
              have t7 : (gb != gb) = false := by simp
              clear hgk hgv hgb
              go_wp2_with (first
                | (go_at_call 14; refine (pst_last HST5.out ko).mono ?_; rintro _ w6 ⟨rfl, hb6⟩; rw [HG.out.1, HG.out.2.1, HG.out.2.2]; have HB6 := Lib.hid hb6; have e2 := (hb6.cell (p := ⟨ob, 2, none⟩) hlt5).trans c2; clear hb6; simp only [])
                | (go_at_call 15; refine (pst_before (HST5.out.below HB6.out) ko (by omega)).mono ?_; rintro _ w7 ⟨rfl, hb7⟩; rw [HG.out.1, HG.out.2.1, HG.out.2.2]; have HB7 := Lib.hid (HB6.out.trans (hb7.mono HB6.out.size)); clear hb7; simp only []))
              all_goals
                go_meet
              all_goals
                exact ⟨E, fr, by omega, (HST5.out.below HB7.out).drop⟩
            by_cases k5 : kd = 5
            · subst k5
              go_wp2_with (go_at_call 16; refine (pst_freeze HST5.out).mono ?_; rintro _ w6 ⟨rfl, hp6, hb6, ht6⟩; have HP6 := Lib.hid hp6; obtain ⟨ra, rc, e0, e1, e2⟩ := pst_rcells hp6; clear hp6 hb6 ht6; simp only [])
              go_meet
              case rel => exact ⟨E, true, by omega, (pst_rfreeze HP6.out).drop⟩
            by_cases k6 : kd = 6
            · subst k6
              obtain ⟨gs, hgs⟩ : ∃ gs, stepsOf E ko = gs := ⟨_, rfl⟩
              have HG := Lib.hid hgs
              have t5 : (gs != gs) = false := by simp
              have kd2 : w5.drew.cell? ⟨ob, 2, none⟩ = some (.string ko) := c2
              clear hgs
              go_wp2_with fail
              refine wp_region_K (fun w' => w'.cell? ⟨ob, 2, none⟩ = some (.string ko)) 8 9 (by kernel_rfl) (by kernel_rfl) kd2 (fun hH => ?_)
              refine wpAnyK_take (i := 0) [3, 8] (v := ?v15) rfl (by kernel_rfl) (by kernel_rfl) (by kernel_rfl) (by kernel_rfl) (fun _ _ _ h => h) (Or.inl ⟨by rfl, ?hy15⟩) hH ?rest15
              case hy15 => (intro w hSw; (try dsimp only at hSw); go_simp; with_reducible rfl)
              try simp only [Act.put, List.setIfInBounds_toArray, List.set_cons_zero, List.set_cons_succ]
              refine wpAnyK_take (i := 1) [2, 3, 8] (v := ?v16) rfl (by kernel_rfl) (by kernel_rfl) (by kernel_rfl) (by kernel_rfl) (fun _ _ _ h => h) (Or.inl ⟨by rfl, ?hy16⟩) hH ?rest16
              case hy16 => (intro w hSw; (try dsimp only at hSw); go_simp; with_reducible rfl)
              try simp only [Act.put, List.setIfInBounds_toArray, List.set_cons_zero, List.set_cons_succ]
              refine wpAnyK_take (i := 2) [3, 8] (v := ?v17) rfl (by kernel_rfl) (by kernel_rfl) (by kernel_rfl) (by kernel_rfl) (fun _ _ _ h => h) (Or.inl ⟨by rfl, ?hy17⟩) hH ?rest17
              case hy17 => (intro w hSw; (try dsimp only at hSw); go_simp; with_reducible rfl)
              try simp only [Act.put, List.setIfInBounds_toArray, List.set_cons_zero, List.set_cons_succ]
              refine wpAnyK_take (i := 4) [7, 8] (v := ?v18) rfl (by kernel_rfl) (by kernel_rfl) (by kernel_rfl) (by kernel_rfl) (fun _ _ _ h => h) (Or.inl ⟨by rfl, ?hy18⟩) hH ?rest18
              case hy18 => (intro w hSw; (try dsimp only at hSw); go_simp; with_reducible rfl)
              try simp only [Act.put, List.setIfInBounds_toArray, List.set_cons_zero, List.set_cons_succ]
              refine wpAnyK_take (i := 5) [6, 7, 8] (v := ?v19) rfl (by kernel_rfl) (by kernel_rfl) (by kernel_rfl) (by kernel_rfl) (fun _ _ _ h => h) (Or.inl ⟨by rfl, ?hy19⟩) hH ?rest19
              case hy19 => (intro w hSw; (try dsimp only at hSw); go_simp; with_reducible rfl)
              try simp only [Act.put, List.setIfInBounds_toArray, List.set_cons_zero, List.set_cons_succ]
              refine wpAnyK_take (i := 6) [7, 8] (v := ?v20) rfl (by kernel_rfl) (by kernel_rfl) (by kernel_rfl) (by kernel_rfl) (fun _ _ _ h => h) (Or.inl ⟨by rfl, ?hy20⟩) hH ?rest20
              case hy20 => (intro w hSw; (try dsimp only at hSw); go_simp; with_reducible rfl)
              try simp only [Act.put, List.setIfInBounds_toArray, List.set_cons_zero, List.set_cons_succ]
              refine wpAnyK_one (i := 3) (by kernel_rfl) rfl (fun K hK => ?_) (by kernel_rfl)
              go_simp
              go_at_call 17
              refine (pst_steps (HST5.out.below (Below.refl _ w5).drew) ko).mono ?_
              rintro _ w6 ⟨rfl, rfl⟩
              rw [HG.out]
              refine hK.out _ _ kd2 (fun hH => ?_)
              clear hK K
              try simp only [Act.put, List.setIfInBounds_toArray, List.set_cons_zero, List.set_cons_succ]
              refine wpAnyK_one (i := 7) (by kernel_rfl) rfl (fun K hK => ?_) (by kernel_rfl)
              go_simp
              go_at_call 18
              refine (pst_rsteps (HST5.out.below (Below.refl _ w5).drew) ko (by omega)).mono ?_
              rintro _ w7 ⟨rfl, hb7⟩
              rw [HG.out]
              have HB7 := Lib.hid ((Below.refl _ w5).drew.trans hb7)
              have e2 := (hb7.cell (p := ⟨ob, 2, none⟩) hlt5).trans kd2
              clear hb7
              refine hK.out _ _ e2 (fun hH => ?_)
              clear hK K
              try simp only [Act.put, List.setIfInBounds_toArray, List.set_cons_zero, List.set_cons_succ]
              refine wpAnyK_last (by kernel_rfl) rfl (fun K hK => ?_) (by kernel_rfl)
              go_simp
              refine hK.out _ _ (wpAnyK_done (by kernel_rfl) ?_ _)
              clear hK K hH kd2 e2 c0 c1 c2 c3
              go_wp2_with fail
              go_meet
              case rel => exact ⟨E, fr, by omega, (HST5.out.below HB7.out).drop⟩
            have f1 : (kd == 1) = false := by simpa using k1
            have f2 : (kd == 2) = false := by simpa using k2
            have f3 : (kd == 3) = false := by simpa using k3
            have f4 : (kd == 4) = false := by simpa using k4
            have f5 : (kd == 5) = false := by simpa using k5
            have f6 : (kd == 6) = false := by simpa using k6
            clear k1 k2 k3 k4 k5 k6
            go_wp2
            go_meet
            case rel => exact ⟨E, fr, by omega, HST5.out.drop⟩
          case rest =>
            obtain ⟨E9, fr9, hE9, hst9⟩ := hcut
            have HST9 := Lib.hid hst9
            obtain ⟨ra, rc, d0, d1, d2⟩ := pst_rcells hst9
            obtain ⟨n9, hn9⟩ : ∃ n9, n9 = E9.length := ⟨_, rfl⟩
            rw [← hn9] at d0 hE9
            have HN9 := Lib.hid hn9
            have t5 : ((n9 : Int) != (n9 : Int)) = false := by simp
            have t5n : (n9 != n9) = false := by simp
            have t6 : (fr9 != fr9) = false := by simp
            have hcnt : ∀ N, Calls Tryz.prog 19 #[.pointer (some ⟨sb, 0, none⟩)] (wc.drewN N) fun e w'' => e = .returned (.int .i64 (n9 : Int)) ∧ ∃ m, w'' = wc.drewN m := fun N => by rw [HN9.out]; exact quiet0 (pst_count (HST9.out.below (below_drewN (Below.refl _ _) _)))
            have hfrz : ∀ N, Calls Tryz.prog 20 #[.pointer (some ⟨sb, 0, none⟩)] (wc.drewN N) fun e w'' => e = .returned (.bool fr9) ∧ ∃ m, w'' = wc.drewN m := fun N => quiet0 (pst_frozen (HST9.out.below (below_drewN (Below.refl _ _) _)))
            have HCNT := Lib.hid (And.intro hcnt hfrz)
            clear hst9 hn9 hcnt hfrz
            go_wp2_with fail
            go_quiet ((first | (go_at_call 19; exact HCNT.out.1 _) | (go_at_call 20; exact HCNT.out.2 _)))
            go_wp2_with fail
            go_roundw
            case rel => exact ⟨i + 1, E9, fr9, by omega, by go_num, by have := HN9.out; omega, HST9.out.below (below_drewN (Below.refl _ _) _)⟩
            case measure => simp [intOf]; omega
      · obtain rfl : i = len := by omega
        clear HC HLL HWF hst
        obtain ⟨lk, hlk⟩ : ∃ lk, fromOf E ⟨#[]⟩ (-1) = lk := ⟨_, rfl⟩
        have hlkl : lk.length ≤ 250 := by rw [← hlk]; exact Nat.le_trans (fromOf_len E _ _) (by omega)
        have HLK := Lib.hid (And.intro hlk hlkl)
        have hlanes := lanes_len E
        have HLN := Lib.hid (show (natI (lanesOf E)).length ≤ 12 by simpa [natI] using hlanes)
        obtain ⟨nb, hnb⟩ : ∃ nb, bytesOf E = nb := ⟨_, rfl⟩
        have HNB := Lib.hid hnb
        have t5 : ((nb : Int) == (nb : Int)) = true := by simp
        have t5n : (nb == nb) = true := by simp
        clear hlk hlkl hlanes hnb
        go_wp2_with (first
          | (go_at_call 27; refine (fin_apart (HF9.out.below (HB13.out.trans (HB15.out.mono HB13.out.size)))).mono ?_; rintro _ w16 ⟨rfl, hb16⟩; have HB16 := Lib.hid hb16; clear hb16; simp only [])
          | (go_at_call 26; have tok := HB14; refine (fin_rbytes (HF9.out.below HB13.out)).mono ?_; rintro _ w15 ⟨rfl, hb15⟩; rw [HNB.out]; have HB15 := Lib.hid hb15; clear hb15; simp only [])
          | (go_at_call 25; have tok := HB13; refine (fin_bytes (HF9.out.below HB13.out)).mono ?_; rintro _ w14 ⟨rfl, rfl⟩; rw [HNB.out]; have HB14 := Lib.hid True.intro; simp only [])
          | (go_at_call 23; refine (same_Ints (rdI_own (row_below HY9.out (HB11.out.trans (HO12.out.2.mono HB11.out.size)))) (rdI_own HO12.out.1) (by have := HLN.out; omega)).mono ?_; rintro _ w13 ⟨rfl, a13, hw13⟩; have HB13 := Lib.hid (show Below w9.heap.size w9 w13 from (by rw [hw13]; exact below_drewN (HB11.out.trans (HO12.out.2.mono HB11.out.size)) _)); clear hw13; simp only [])
          | (go_at_call 24; refine (fin_rlanes (HF9.out.below HB11.out)).mono ?_; rintro _ w12 ⟨a12, c12, rfl, ho12, hb12⟩; have HO12 := Lib.hid (And.intro ho12 hb12); clear ho12 hb12; simp only [])
          | (go_at_call 12; refine (same_Keys (rdK_own (row_below HX9.out HO10.out.2)) (rdK_own HO10.out.1) (by have := HLK.out.2; omega)).mono ?_; rintro _ w11 ⟨rfl, a11, hw11⟩; have HB11 := Lib.hid (show Below w9.heap.size w9 w11 from (by rw [hw11]; exact below_drewN HO10.out.2 _)); clear hw11; simp only [])
          | (go_at_call 13; refine (fin_rfrom HF9.out ⟨#[]⟩ (by decide) (-1) (by decide) (by decide)).mono ?_; rintro _ w10 ⟨v10, rfl, ho10, hb10⟩; rw [HLK.out.1] at ho10; have HO10 := Lib.hid (And.intro ho10 hb10); clear ho10 hb10; simp only [])
          | (go_at_call 22; refine (pst_ints (s := ⟨ya, yn, yc⟩) HP8.out HY8.out (fun q hq => ⟨⟨.inr (HO7.out.1.lt q hq), fun e => absurd (HO6.out.1.lt q e).2 (Nat.not_lt.2 (HO7.out.1.lt q hq).1)⟩, Nat.le_trans (Nat.le_trans HST.out.bel.size HO6.out.2.size) (HO7.out.1.lt q hq).1, Nat.lt_of_lt_of_le HST.out.bklt (Nat.le_trans HO6.out.2.size (HO7.out.1.lt q hq).1)⟩) (by have := HLN.out; omega)).mono ?_; rintro _ w9 ⟨rfl, hp9, hy9, hb9, ht9⟩; have HF9 := Lib.hid hp9; have HY9 := Lib.hid hy9; have HX9 := Lib.hid (ht9.row HO8.out (fun q hq e => by have := (HO8.out.lt q hq).1; omega)); clear hp9 hy9 hb9 ht9; simp only [])
          | (go_at_call 11; go_loud (refine (pst_keys (s := ⟨sa, sn, sc⟩) ((HST.out.more HO6.out.2).more HO7.out.2) (row_below HO6.out.1 HO7.out.2) (fun q hq => ⟨.inl (.inr (HO6.out.1.lt q hq)), Nat.le_trans HST.out.bel.size (HO6.out.1.lt q hq).1, Nat.lt_of_lt_of_le HST.out.bklt (HO6.out.1.lt q hq).1⟩) (by have := HLK.out.2; omega)).mono ?_); rintro _ w8 ⟨rfl, hp8, ho8, hb8, ht8⟩; have HP8 := Lib.hid hp8; have HO8 := Lib.hid ho8; have HY8 := Lib.hid (ht8.row HO7.out.1 (fun q hq e => e (.inr (HO7.out.1.lt q hq)))); clear hp8 ho8 hb8 ht8; simp only [])
          | (go_at_call 21; refine (pst_lanes (HST.out.below HO6.out.2)).mono ?_; rintro _ w7 ⟨⟨ya, yn, yc⟩, rfl, ho7, hb7⟩; have HO7 := Lib.hid (And.intro ho7 hb7); clear ho7 hb7; simp only [Sl.val])
          | (go_at_call 10; refine (pst_from HST.out ⟨#[]⟩ (-1) (by decide) (by decide)).mono ?_; rintro _ w6 ⟨⟨sa, sn, sc⟩, rfl, ho6, hb6⟩; rw [HLK.out.1] at ho6; have HO6 := Lib.hid (And.intro ho6 hb6); clear ho6 hb6; simp only [Sl.val]))
        go_ret
        exact ⟨rfl, (HF9.out.below (HB13.out.trans (HB15.out.mono HB13.out.size))).bel.trans HB16.out⟩
end Go.Proofs.YtmodgjjlgobjcaaGreat
