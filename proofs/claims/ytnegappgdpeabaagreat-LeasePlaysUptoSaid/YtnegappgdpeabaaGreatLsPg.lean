/-
  The law LeasePlays' walk.
-/
import Derived.Test.YtnegappgdpeabaaGreatLe16
set_option linter.unusedSimpArgs false
set_option linter.unusedVariables false
namespace Go.Proofs.YtnegappgdpeabaaGreat
open Go.RowKit

theorem str_eq2 (s : ByteArray) : (s.toList == s.toList) = true := beq_self_eq_true _
theorem str_ne2 (s : ByteArray) : (s.toList != s.toList) = false := by simp
theorem rdx_of {F : Nat → Prop} {w : World} {a : Option Addr} {n c : Nat} {vs : List Int} (h : RdI w (.slice a n c) vs) (hF : ∀ b off, a = some ⟨b, off, none⟩ → ¬ F b) : RdX F w ⟨0, a, c, vs, 0⟩ := by
  obtain ⟨a', c', e, h⟩ := h
  injection e with e1 _ _
  subst e1
  refine h.imp id ?_
  rintro ⟨b, off, ha, hlt, hc⟩
  exact ⟨b, off, ha, hF b off ha, hlt, hc⟩
theorem acqN_le (L : List Cr) (vs : List Int) (ttl now last : Int) {i : Nat} (h : last ≤ (i : Int)) : acqN L vs ttl now last ≤ ((i + 1 : Nat) : Int) := by
  unfold acqN
  split <;> omega
/-- What Get answers. -/
def GetE (L : List Cr) (id : Int) (x : Lv) (ec : Int) : Prop := (findC L id = none ∧ x = ⟨0, none, 0, [], 0⟩ ∧ ec = 22) ∨ (findC L id = some (core x) ∧ ec = 0)
theorem pst_get2 {K0 K7 : Nat → Prop} {w w0 : World} {lb rb bk : Nat} {last lr : Int} {L LR : List Cr} (h : PSt K0 K7 w0 w lb last L rb lr LR bk) (id : Int) : Calls Tryz.prog 18 #[.pointer (some ⟨lb, 0, none⟩), .int .i64 id] w fun e w' =>
    ∃ xi xa xk xv xt ec, e = .returned (.tuple #[.agg #[.int .i64 xi, .slice xa xv.length xk, .int .i64 xt], .int .i64 ec]) ∧ Own eVec w' w.heap.size (.slice xa xv.length xk) xv ∧ GetE L id ⟨xi, xa, xk, xv, xt⟩ ec ∧ xv.length ≤ 8 ∧ Below w.heap.size w w' := by
  have hg := h.good
  refine (pst_get h id).mono ?_
  rintro e w' ⟨⟨hf, rfl⟩ | ⟨c, a, k, hf, rfl, ho⟩, hb⟩
  · exact ⟨0, none, 0, [], 0, 22, rfl, World.ownsRow_nil _ _ _ _, .inl ⟨hf, rfl, rfl⟩, Nat.zero_le _, hb⟩
  · refine ⟨c.1, a, k, c.2.1, c.2.2, 0, rfl, ho, .inr ⟨hf, rfl⟩, ?_, hb⟩
    have := (hg.each c (List.mem_of_find?_eq_some hf)).2.2.1
    simp only [validB, Bool.and_eq_true, decide_eq_true_eq] at this
    exact this.1.2
/-- What the document's leases tell of an id, where k of them were looked at. -/
def DocG (M : List Lv) (id : Int) (k : Nat) (y : Lv) (fc : Int) : Prop := ((∀ j (hj : j < M.length), j < k → M[j].id ≠ id) ∧ y = ⟨0, none, 0, [], 0⟩ ∧ fc = 22) ∨ ∃ j, ∃ hj : j < M.length, j < k ∧ M[j].id = id ∧ y = M[j] ∧ fc = 0
theorem docG_end {M : List Lv} {id : Int} {k : Nat} {x y : Lv} {ec fc : Int} (hk : M.length ≤ k) (hr : (M.map core).Pairwise (fun a b => a.1 < b.1)) (hx : GetE (M.map core) id x ec) (hy : DocG M id k y fc) : ec = fc ∧ core x = core y := by
  rcases hy with ⟨h1, rfl, rfl⟩ | ⟨j, hj, _, hid, rfl, rfl⟩
  · have hn : findC (M.map core) id = none := findC_none (fun c hc => by
      obtain ⟨z, hz, rfl⟩ := List.mem_map.1 hc
      obtain ⟨j, hj, rfl⟩ := List.mem_iff_getElem.1 hz
      exact h1 j hj (by omega))
    rcases hx with ⟨_, rfl, rfl⟩ | ⟨h2, rfl⟩
    · exact ⟨rfl, rfl⟩
    · rw [hn] at h2; cases h2
  · have hs := findV hr hj
    rw [hid] at hs
    rcases hx with ⟨h2, _⟩ | ⟨h2, rfl⟩
    · rw [hs] at h2; cases h2
    · rw [hs] at h2
      injection h2 with h2
      exact ⟨rfl, h2.symm⟩
/-- What a step leaves. -/
def PEnd (w0 wx : World) (rb bk i : Nat) (xv : Value) : Prop := ∃ lb last L, xv = .pointer (some ⟨lb, 0, none⟩) ∧ last ≤ (i : Int) ∧ PSt (fun _ => False) (fun _ => False) w0 wx lb last L rb last L bk
theorem PSt.drop {K0 K7 : Nat → Prop} {w w0 : World} {lb rb bk : Nat} {last lr : Int} {L LR : List Cr} (h : PSt K0 K7 w0 w lb last L rb lr LR bk) : PSt (fun _ => False) (fun _ => False) w0 w lb last L rb lr LR bk := h.weak (fun _ e => e.elim) (fun _ e => e.elim)
set_option maxRecDepth 100000 in
set_option maxHeartbeats 16000000 in
theorem plays_law (zero : Bool) (a : Option Addr) (len cap : Nat) (l : List LOp) {W : World} (hl : OpsAt W a len l) (hlen : len ≤ maxLen) (w : World) (hWw : W = w) :
    Calls Tryz.prog 3 #[.bool zero, .slice a len cap] w fun e w' => e = .returned (.bool true) ∧ Below w.heap.size w w' := by
  subst hWw
  unfold maxLen at hlen
  obtain ⟨hll, hcells, hwf⟩ := hl
  generalize hw : W = w at *
  clear hw
  by_cases hbig : 200 < len
  · have t1 : (200 : Int) < (len : Int) := by omega
    clear hcells hwf hll hbig
    go_enter Tryz.func3, Tryz.ntmps3
    go_wp2_with fail
    refine (alive_any w).mono ?_
    rintro e w1 ⟨rfl, b1⟩
    go_wp2
    go_ret
    exact ⟨rfl, b1⟩
  · have HC := Lib.hid hcells
    have HLL := Lib.hid hll
    have HWF := Lib.hid hwf
    have h2 : len ≤ 200 := by omega
    have t1 : ¬ (200 : Int) < (len : Int) := by omega
    clear hcells hll hwf hbig hlen
    go_enter Tryz.func3, Tryz.ntmps3
    go_wp2_with fail
    refine (alive_any w).mono ?_
    rintro _ w1 ⟨rfl, hb1⟩
    go_wp2_with fail
    refine (new_any w1).mono ?_
    rintro _ w2 ⟨rfl, hs2, hb2⟩
    have hb12 : Below w.heap.size w w2 := hb1.trans (hb2.mono hb1.size)
    have hlt2 := hs2.ltd
    obtain ⟨w3, hw3⟩ : ∃ w3, w2.alloc (.cells #[.slice none 0 0, .int .i64 0] 29) = w3 := ⟨_, rfl⟩
    have hb23 : Below w2.heap.size w2 w3 := by rw [← hw3]; exact (Below.refl _ _).alloc (Nat.le_refl _) _
    have hsz3 : w3.heap.size = w2.heap.size + 1 := by rw [← hw3]; simp
    have r0 : w3.cell? ⟨w2.heap.size, 0, none⟩ = some (.slice none 0 0) := by rw [← hw3, World.cell?_alloc_mark]; rfl
    have r1 : w3.cell? ⟨w2.heap.size, 1, none⟩ = some (.int .i64 0) := by rw [← hw3, World.cell?_alloc_mark]; rfl
    have rf : ∀ j, w3.frozen? ⟨w2.heap.size, j, none⟩ = false := fun j => by rw [← hw3]; exact fz_alloc _ _ _ _
    have HR := Lib.hid (And.intro r0 (And.intro r1 rf))
    have HS2 := Lib.hid (And.intro hs2 (And.intro hb12 (And.intro hb1 (And.intro hb23 (And.intro hsz3 hlt2)))))
    clear hs2 hb12 r0 r1 rf hb23 hsz3 hb1 hb2 hlt2
    go_upto_if 33 with fail
    go_cut [5] from 23 (fun x wx => ∃ lb, x = .pointer (some ⟨lb, 0, none⟩) ∧ LsAt wx lb none [] 0 ∧ w1.heap.size ≤ lb ∧ lb ≠ w2.heap.size ∧ Below w3.heap.size w3 wx)
    case first =>
      cases zero with
      | false =>
        go_wp2
        go_meet
        case rel => exact ⟨_, rfl, HS2.out.1.below HS2.out.2.2.2.1, Nat.le_refl _, by have := HS2.out.2.2.2.2.2; omega, Below.refl _ _⟩
      | true =>
        have hfl := ls_zero w3
        have hbf : Below w3.heap.size w3 (w3.alloc (.cells #[.map none, .int .i64 0] 32)) := (Below.refl _ _).alloc (Nat.le_refl _) _
        have HSF := Lib.hid (And.intro hfl hbf)
        clear hfl hbf
        go_wp2
        go_meet
        case rel => exact ⟨w3.heap.size, rfl, HSF.out.1, by have := HS2.out.2.2.2.2; omega, by have := HS2.out.2.2.2.2.1; omega, HSF.out.2⟩
    case rest =>
    obtain ⟨lb, hx, hs3, hlb1, hlb2, hb3⟩ := hcut
    subst hx
    obtain ⟨w4, hw4⟩ : ∃ w4, wc.alloc (.cells bookCells 49) = w4 := ⟨_, rfl⟩
    have hb34 : Below wc.heap.size wc w4 := by rw [← hw4]; exact (Below.refl _ _).alloc (Nat.le_refl _) _
    have hst : PSt (fun _ => False) (fun _ => False) w w4 lb 0 [] w2.heap.size 0 [] wc.heap.size := by
      obtain ⟨hs2, hb12, hb1, hb23, hsz3, hlt2⟩ := HS2.out
      have hz3 := hb3.size
      have hz1 := hb1.size
      have hlt3 : w2.heap.size < w3.heap.size := by omega
      have hbw : Below w3.heap.size w3 w4 := hb3.trans (hb34.mono hz3)
      have hlbc := hs3.ltd
      refine pst_start (hs3.below hb34) ((hbw.cell (p := ⟨w2.heap.size, 0, none⟩) hlt3).trans HR.out.1) ((hbw.cell (p := ⟨w2.heap.size, 1, none⟩) hlt3).trans HR.out.2.1) (fun j => (hbw.frozen (p := ⟨w2.heap.size, j, none⟩) hlt3).trans (HR.out.2.2 j)) (fun o ho => by rw [← hw4]; exact book_cell _ _ o ho) (fun j => by rw [← hw4]; exact fz_alloc _ _ _ _) (by omega) (by omega) (by omega) hlb2 (by omega) (by omega) ((hb12.trans (hb23.mono hb12.size)).trans (hbw.mono (by have := hb12.size; omega)))
    have HST := Lib.hid hst
    obtain ⟨rb, hrb⟩ : ∃ rb, rb = w2.heap.size := ⟨_, rfl⟩
    obtain ⟨bk, hbk⟩ : ∃ bk, bk = wc.heap.size := ⟨_, rfl⟩
    rw [← hrb, ← hbk] at HST
    unfold bookCells at hw4
    clear hst hb34 hb3 hs3 HS2 HR hlb1 hlb2
    go_upto_region 9 with fail
    clear hw4
    rw [← hrb, ← hbk]
    clear hrb hbk
    go_wp2_with fail
    go_loopw [5, 8] (fun xv x wr => ∃ (i : Nat) (lb : Nat) (last : Int) (L : List Cr), i ≤ len ∧ xv = .pointer (some ⟨lb, 0, none⟩) ∧ x = .int .i64 (i : Int) ∧ last ≤ (i : Int) ∧ PSt (fun _ => False) (fun _ => False) w wr lb last L rb last L bk) (fun _ x _ => len - (intOf x).toNat)
    case atStart => exact ⟨0, lb, 0, [], by omega, rfl, rfl, by decide, HST.out⟩
    case round =>
      obtain ⟨i, lb, last, L, hi, rfl, rfl, hla, hst⟩ := hrel
      clear HST
      obtain ⟨wo, rfl⟩ : ∃ wo, wo = wr := ⟨_, rfl⟩
      have HST := Lib.hid hst
      by_cases hlt : i < len
      · obtain ⟨b, off, rfl, hb, hc⟩ : ∃ b off, a = some ⟨b, off, none⟩ ∧ b < w.heap.size ∧ ∀ i (hi : i < l.length), l[i].here w b (off + i * 5) := by
          rcases HC.out with h | h
          · omega
          · exact h
        have hil : i < l.length := by have := HLL.out; omega
        obtain ⟨q0, q1, q2, q3, q4⟩ := hc i hil
        have hwfo := HWF.out l[i] (List.getElem_mem hil)
        obtain ⟨o, ho⟩ : ∃ o, l[i] = o := ⟨_, rfl⟩
        rw [ho] at q0 q1 q2 q3 q4 hwfo
        obtain ⟨kd, id, tt, nw, va, vn, vc, vs⟩ := o
        simp only at q0 q1 q2 q3 q4 hwfo
        have hbel := hst.bel
        have p0 := (hbel.cell (p := ⟨b, off + i * 5, none⟩) hb).trans q0
        have p1 := (hbel.cell (p := ⟨b, off + i * 5 + 1, none⟩) hb).trans q1
        have p2 := (hbel.cell (p := ⟨b, off + i * 5 + 2, none⟩) hb).trans q2
        have p3 := (hbel.cell (p := ⟨b, off + i * 5 + 3, none⟩) hb).trans q3
        have p4 := (hbel.cell (p := ⟨b, off + i * 5 + 4, none⟩) hb).trans q4
        obtain ⟨w5, hw5⟩ : ∃ w5, wo.alloc (.cells #[.int .i64 kd, .int .i64 id, .int .i64 tt, .int .i64 nw, .slice va vn vc] 53) = w5 := ⟨_, rfl⟩
        have hb5 : Below wo.heap.size wo w5 := by rw [← hw5]; exact (Below.refl _ _).alloc (Nat.le_refl _) _
        have c0 : w5.cell? ⟨wo.heap.size, 0, none⟩ = some (.int .i64 kd) := by rw [← hw5, World.cell?_alloc_mark]; rfl
        have c1 : w5.cell? ⟨wo.heap.size, 1, none⟩ = some (.int .i64 id) := by rw [← hw5, World.cell?_alloc_mark]; rfl
        have c2 : w5.cell? ⟨wo.heap.size, 2, none⟩ = some (.int .i64 tt) := by rw [← hw5, World.cell?_alloc_mark]; rfl
        have c3 : w5.cell? ⟨wo.heap.size, 3, none⟩ = some (.int .i64 nw) := by rw [← hw5, World.cell?_alloc_mark]; rfl
        have c4 : w5.cell? ⟨wo.heap.size, 4, none⟩ = some (.slice va vn vc) := by rw [← hw5, World.cell?_alloc_mark]; rfl
        have hlt5 : wo.heap.size < w5.heap.size := World.block_lt_of_cell? _ _ c0
        have HST5 := Lib.hid ((hst.more hb5).weak (K0' := fun q => q = wo.heap.size) (K7' := fun _ => False) (fun q hq => by subst hq; exact .inr ⟨Nat.le_refl _, hlt5⟩) (fun _ e => e))
        have HVA := Lib.hid hwfo
        obtain ⟨ob, hob⟩ : ∃ ob, ob = wo.heap.size := ⟨_, rfl⟩
        rw [← hob] at c0 c1 c2 c3 c4 hlt5 HST5
        have r1 : (i : Int) < (len : Int) := by omega
        clear hst hc ho q0 q1 q2 q3 q4 hwfo hb5 hbel hil
        by_cases hsz : 60 < vn
        · have t3 : (60 : Int) < (vn : Int) := by omega
          have hbw := HST5.out.bel
          have HBW := Lib.hid hbw
          clear hsz hbw
          go_upto_region 13 with fail
          clear hw5
          rw [← hob]
          clear hob
          go_wp2
          go_ret
          exact ⟨rfl, HBW.out⟩
        · have t3 : ¬ (60 : Int) < (vn : Int) := by omega
          have s1 : vn ≤ 60 := by omega
          go_upto_region 13 with fail
          clear hw5 p0 p1 p2 p3 p4
          rw [← hob]
          clear hob hsz
          go_upto_block 2 with fail
          go_cut [5] from 38 to 225 (fun xv wx => PEnd w wx rb bk (i + 1) xv)
          case first =>
            by_cases k2 : kd = 2
            · as_aux_lemma =>
                subst k2
                obtain ⟨rv, hrv⟩ : ∃ rv, (renC L id tt nw).1 = rv := ⟨_, rfl⟩
                have HRV := Lib.hid hrv
                have hne : (rv != rv) = false := by simp
                have kd1 : w5.drew.cell? ⟨ob, 1, none⟩ = some (.int .i64 id) := c1
                have kd2 : w5.drew.cell? ⟨ob, 2, none⟩ = some (.int .i64 tt) := c2
                have kd3 : w5.drew.cell? ⟨ob, 3, none⟩ = some (.int .i64 nw) := c3
                clear hrv
                go_wp2_with fail
                refine wp_region_K (fun w' => w'.cell? ⟨ob, 1, none⟩ = some (.int .i64 id) ∧ w'.cell? ⟨ob, 2, none⟩ = some (.int .i64 tt) ∧ w'.cell? ⟨ob, 3, none⟩ = some (.int .i64 nw)) 16 17 (by kernel_rfl) (by kernel_rfl) ⟨kd1, kd2, kd3⟩ (fun hH => ?_)
                refine wpAnyK_take (i := 0) [7, 16] (v := ?v1) rfl (by kernel_rfl) (by kernel_rfl) (by kernel_rfl) (by kernel_rfl) (fun _ _ _ h => h) (Or.inl ⟨by rfl, ?hy1⟩) hH ?rest1
                case hy1 => (intro w hSw; (try dsimp only at hSw); go_simp; with_reducible rfl)
                try simp only [Act.put, List.setIfInBounds_toArray, List.set_cons_zero, List.set_cons_succ]
                refine wpAnyK_take (i := 1) [2, 7, 16] (v := ?v2) rfl (by kernel_rfl) (by kernel_rfl) (by kernel_rfl) (by kernel_rfl) (fun _ _ _ h => h) (Or.inl ⟨by rfl, ?hy2⟩) hH ?rest2
                case hy2 => (intro w hSw; (try dsimp only at hSw); go_simp; with_reducible rfl)
                try simp only [Act.put, List.setIfInBounds_toArray, List.set_cons_zero, List.set_cons_succ]
                refine wpAnyK_take (i := 2) [7, 16] (v := ?v3) rfl (by kernel_rfl) (by kernel_rfl) (by kernel_rfl) (by kernel_rfl) (fun _ _ _ h => h) (Or.inl ⟨by rfl, ?hy3⟩) hH ?rest3
                case hy3 => (intro w hSw; (try dsimp only at hSw); go_simp; with_reducible rfl)
                try simp only [Act.put, List.setIfInBounds_toArray, List.set_cons_zero, List.set_cons_succ]
                refine wpAnyK_take (i := 3) [4, 7, 16] (v := ?v4) rfl (by kernel_rfl) (by kernel_rfl) (by kernel_rfl) (by kernel_rfl) (fun _ _ _ h => h) (Or.inl ⟨by rfl, ?hy4⟩) hH ?rest4
                case hy4 => (intro w hSw; (try dsimp only at hSw); go_simp; with_reducible rfl)
                try simp only [Act.put, List.setIfInBounds_toArray, List.set_cons_zero, List.set_cons_succ]
                refine wpAnyK_take (i := 4) [7, 16] (v := ?v5) rfl (by kernel_rfl) (by kernel_rfl) (by kernel_rfl) (by kernel_rfl) (fun _ _ _ h => h) (Or.inl ⟨by rfl, ?hy5⟩) hH ?rest5
                case hy5 => (intro w hSw; (try dsimp only at hSw); go_simp; with_reducible rfl)
                try simp only [Act.put, List.setIfInBounds_toArray, List.set_cons_zero, List.set_cons_succ]
                refine wpAnyK_take (i := 5) [6, 7, 16] (v := ?v6) rfl (by kernel_rfl) (by kernel_rfl) (by kernel_rfl) (by kernel_rfl) (fun _ _ _ h => h) (Or.inl ⟨by rfl, ?hy6⟩) hH ?rest6
                case hy6 => (intro w hSw; (try dsimp only at hSw); go_simp; with_reducible rfl)
                try simp only [Act.put, List.setIfInBounds_toArray, List.set_cons_zero, List.set_cons_succ]
                refine wpAnyK_take (i := 6) [7, 16] (v := ?v7) rfl (by kernel_rfl) (by kernel_rfl) (by kernel_rfl) (by kernel_rfl) (fun _ _ _ h => h) (Or.inl ⟨by rfl, ?hy7⟩) hH ?rest7
                case hy7 => (intro w hSw; (try dsimp only at hSw); go_simp; with_reducible rfl)
                try simp only [Act.put, List.setIfInBounds_toArray, List.set_cons_zero, List.set_cons_succ]
                refine wpAnyK_take (i := 8) [15, 16] (v := ?v8) rfl (by kernel_rfl) (by kernel_rfl) (by kernel_rfl) (by kernel_rfl) (fun _ _ _ h => h) (Or.inl ⟨by rfl, ?hy8⟩) hH ?rest8
                case hy8 => (intro w hSw; (try dsimp only at hSw); go_simp; with_reducible rfl)
                try simp only [Act.put, List.setIfInBounds_toArray, List.set_cons_zero, List.set_cons_succ]
                refine wpAnyK_take (i := 9) [10, 15, 16] (v := ?v9) rfl (by kernel_rfl) (by kernel_rfl) (by kernel_rfl) (by kernel_rfl) (fun _ _ _ h => h) (Or.inl ⟨by rfl, ?hy9⟩) hH ?rest9
                case hy9 => (intro w hSw; (try dsimp only at hSw); go_simp; with_reducible rfl)
                try simp only [Act.put, List.setIfInBounds_toArray, List.set_cons_zero, List.set_cons_succ]
                refine wpAnyK_take (i := 10) [15, 16] (v := ?v10) rfl (by kernel_rfl) (by kernel_rfl) (by kernel_rfl) (by kernel_rfl) (fun _ _ _ h => h) (Or.inl ⟨by rfl, ?hy10⟩) hH ?rest10
                case hy10 => (intro w hSw; (try dsimp only at hSw); go_simp; with_reducible rfl)
                try simp only [Act.put, List.setIfInBounds_toArray, List.set_cons_zero, List.set_cons_succ]
                refine wpAnyK_take (i := 11) [12, 15, 16] (v := ?v11) rfl (by kernel_rfl) (by kernel_rfl) (by kernel_rfl) (by kernel_rfl) (fun _ _ _ h => h) (Or.inl ⟨by rfl, ?hy11⟩) hH ?rest11
                case hy11 => (intro w hSw; (try dsimp only at hSw); go_simp; with_reducible rfl)
                try simp only [Act.put, List.setIfInBounds_toArray, List.set_cons_zero, List.set_cons_succ]
                refine wpAnyK_take (i := 12) [15, 16] (v := ?v12) rfl (by kernel_rfl) (by kernel_rfl) (by kernel_rfl) (by kernel_rfl) (fun _ _ _ h => h) (Or.inl ⟨by rfl, ?hy12⟩) hH ?rest12
                case hy12 => (intro w hSw; (try dsimp only at hSw); go_simp; with_reducible rfl)
                try simp only [Act.put, List.setIfInBounds_toArray, List.set_cons_zero, List.set_cons_succ]
                refine wpAnyK_take (i := 13) [14, 15, 16] (v := ?v13) rfl (by kernel_rfl) (by kernel_rfl) (by kernel_rfl) (by kernel_rfl) (fun _ _ _ h => h) (Or.inl ⟨by rfl, ?hy13⟩) hH ?rest13
                case hy13 => (intro w hSw; (try dsimp only at hSw); go_simp; with_reducible rfl)
                try simp only [Act.put, List.setIfInBounds_toArray, List.set_cons_zero, List.set_cons_succ]
                refine wpAnyK_take (i := 14) [15, 16] (v := ?v14) rfl (by kernel_rfl) (by kernel_rfl) (by kernel_rfl) (by kernel_rfl) (fun _ _ _ h => h) (Or.inl ⟨by rfl, ?hy14⟩) hH ?rest14
                case hy14 => (intro w hSw; (try dsimp only at hSw); go_simp; with_reducible rfl)
                try simp only [Act.put, List.setIfInBounds_toArray, List.set_cons_zero, List.set_cons_succ]
                refine wpAnyK_one (i := 7) (by kernel_rfl) rfl (fun K hK => ?_) (by kernel_rfl)
                go_simp
                go_at_call 10
                refine (pst_renew (HST5.out.below (Below.refl _ w5).drew) id tt nw).mono ?_
                rintro _ w6 ⟨rfl, hp6, ht6⟩
                rw [HRV.out]
                have HP6 := Lib.hid hp6
                have e1 := ht6.cell kd1 (fun h => h (.inl rfl))
                have e2 := ht6.cell kd2 (fun h => h (.inl rfl))
                have e3 := ht6.cell kd3 (fun h => h (.inl rfl))
                clear hp6 ht6
                refine hK.out _ _ ⟨e1, e2, e3⟩ (fun hH => ?_)
                clear hK K
                try simp only [Act.put, List.setIfInBounds_toArray, List.set_cons_zero, List.set_cons_succ]
                refine wpAnyK_one (i := 15) (by kernel_rfl) rfl (fun K hK => ?_) (by kernel_rfl)
                go_simp
                go_at_call 11
                refine (pst_rrenew HP6.out id tt nw).mono ?_
                rintro _ w7 ⟨rfl, hp7, ht7⟩
                rw [HRV.out]
                have HP7 := Lib.hid hp7
                have g1 := ht7.cell e1 (fun h => h (.inl rfl))
                have g2 := ht7.cell e2 (fun h => h (.inl rfl))
                have g3 := ht7.cell e3 (fun h => h (.inl rfl))
                clear hp7 ht7
                refine hK.out _ _ ⟨g1, g2, g3⟩ (fun hH => ?_)
                clear hK K
                try simp only [Act.put, List.setIfInBounds_toArray, List.set_cons_zero, List.set_cons_succ]
                refine wpAnyK_last (by kernel_rfl) rfl (fun K hK => ?_) (by kernel_rfl)
                go_simp
                refine hK.out _ _ (wpAnyK_done (by kernel_rfl) ?_ _)
                clear hK K hH kd1 kd2 kd3 e1 e2 e3 g1 g2 g3 c0 c1 c2 c3 c4
                go_wp2_with fail
                go_meet
                case rel => exact ⟨lb, last, _, rfl, by omega, HP7.out.drop⟩
            by_cases k3 : kd = 3
            · as_aux_lemma =>
                subst k3
                obtain ⟨rv, hrv⟩ : ∃ rv, (relC L id nw).1 = rv := ⟨_, rfl⟩
                have HRV := Lib.hid hrv
                have hne : (rv != rv) = false := by simp
                have kd1 : w5.drew.cell? ⟨ob, 1, none⟩ = some (.int .i64 id) := c1
                have kd3 : w5.drew.cell? ⟨ob, 3, none⟩ = some (.int .i64 nw) := c3
                clear hrv
                go_wp2_with fail
                refine wp_region_K (fun w' => w'.cell? ⟨ob, 1, none⟩ = some (.int .i64 id) ∧ w'.cell? ⟨ob, 3, none⟩ = some (.int .i64 nw)) 12 13 (by kernel_rfl) (by kernel_rfl) ⟨kd1, kd3⟩ (fun hH => ?_)
                refine wpAnyK_take (i := 0) [5, 12] (v := ?v15) rfl (by kernel_rfl) (by kernel_rfl) (by kernel_rfl) (by kernel_rfl) (fun _ _ _ h => h) (Or.inl ⟨by rfl, ?hy15⟩) hH ?rest15
                case hy15 => (intro w hSw; (try dsimp only at hSw); go_simp; with_reducible rfl)
                try simp only [Act.put, List.setIfInBounds_toArray, List.set_cons_zero, List.set_cons_succ]
                refine wpAnyK_take (i := 1) [2, 5, 12] (v := ?v16) rfl (by kernel_rfl) (by kernel_rfl) (by kernel_rfl) (by kernel_rfl) (fun _ _ _ h => h) (Or.inl ⟨by rfl, ?hy16⟩) hH ?rest16
                case hy16 => (intro w hSw; (try dsimp only at hSw); go_simp; with_reducible rfl)
                try simp only [Act.put, List.setIfInBounds_toArray, List.set_cons_zero, List.set_cons_succ]
                refine wpAnyK_take (i := 2) [5, 12] (v := ?v17) rfl (by kernel_rfl) (by kernel_rfl) (by kernel_rfl) (by kernel_rfl) (fun _ _ _ h => h) (Or.inl ⟨by rfl, ?hy17⟩) hH ?rest17
                case hy17 => (intro w hSw; (try dsimp only at hSw); go_simp; with_reducible rfl)
                try simp only [Act.put, List.setIfInBounds_toArray, List.set_cons_zero, List.set_cons_succ]
                refine wpAnyK_take (i := 3) [4, 5, 12] (v := ?v18) rfl (by kernel_rfl) (by kernel_rfl) (by kernel_rfl) (by kernel_rfl) (fun _ _ _ h => h) (Or.inl ⟨by rfl, ?hy18⟩) hH ?rest18
                case hy18 => (intro w hSw; (try dsimp only at hSw); go_simp; with_reducible rfl)
                try simp only [Act.put, List.setIfInBounds_toArray, List.set_cons_zero, List.set_cons_succ]
                refine wpAnyK_take (i := 4) [5, 12] (v := ?v19) rfl (by kernel_rfl) (by kernel_rfl) (by kernel_rfl) (by kernel_rfl) (fun _ _ _ h => h) (Or.inl ⟨by rfl, ?hy19⟩) hH ?rest19
                case hy19 => (intro w hSw; (try dsimp only at hSw); go_simp; with_reducible rfl)
                try simp only [Act.put, List.setIfInBounds_toArray, List.set_cons_zero, List.set_cons_succ]
                refine wpAnyK_take (i := 6) [11, 12] (v := ?v20) rfl (by kernel_rfl) (by kernel_rfl) (by kernel_rfl) (by kernel_rfl) (fun _ _ _ h => h) (Or.inl ⟨by rfl, ?hy20⟩) hH ?rest20
                case hy20 => (intro w hSw; (try dsimp only at hSw); go_simp; with_reducible rfl)
                try simp only [Act.put, List.setIfInBounds_toArray, List.set_cons_zero, List.set_cons_succ]
                refine wpAnyK_take (i := 7) [8, 11, 12] (v := ?v21) rfl (by kernel_rfl) (by kernel_rfl) (by kernel_rfl) (by kernel_rfl) (fun _ _ _ h => h) (Or.inl ⟨by rfl, ?hy21⟩) hH ?rest21
                case hy21 => (intro w hSw; (try dsimp only at hSw); go_simp; with_reducible rfl)
                try simp only [Act.put, List.setIfInBounds_toArray, List.set_cons_zero, List.set_cons_succ]
                refine wpAnyK_take (i := 8) [11, 12] (v := ?v22) rfl (by kernel_rfl) (by kernel_rfl) (by kernel_rfl) (by kernel_rfl) (fun _ _ _ h => h) (Or.inl ⟨by rfl, ?hy22⟩) hH ?rest22
                case hy22 => (intro w hSw; (try dsimp only at hSw); go_simp; with_reducible rfl)
                try simp only [Act.put, List.setIfInBounds_toArray, List.set_cons_zero, List.set_cons_succ]
                refine wpAnyK_take (i := 9) [10, 11, 12] (v := ?v23) rfl (by kernel_rfl) (by kernel_rfl) (by kernel_rfl) (by kernel_rfl) (fun _ _ _ h => h) (Or.inl ⟨by rfl, ?hy23⟩) hH ?rest23
                case hy23 => (intro w hSw; (try dsimp only at hSw); go_simp; with_reducible rfl)
                try simp only [Act.put, List.setIfInBounds_toArray, List.set_cons_zero, List.set_cons_succ]
                refine wpAnyK_take (i := 10) [11, 12] (v := ?v24) rfl (by kernel_rfl) (by kernel_rfl) (by kernel_rfl) (by kernel_rfl) (fun _ _ _ h => h) (Or.inl ⟨by rfl, ?hy24⟩) hH ?rest24
                case hy24 => (intro w hSw; (try dsimp only at hSw); go_simp; with_reducible rfl)
                try simp only [Act.put, List.setIfInBounds_toArray, List.set_cons_zero, List.set_cons_succ]
                refine wpAnyK_one (i := 5) (by kernel_rfl) rfl (fun K hK => ?_) (by kernel_rfl)
                go_simp
                go_at_call 12
                refine (pst_release (HST5.out.below (Below.refl _ w5).drew) id nw).mono ?_
                rintro _ w6 ⟨rfl, hp6, ht6⟩
                rw [HRV.out]
                have HP6 := Lib.hid hp6
                have e1 := ht6.cell kd1 (fun h => h (.inl rfl))
                have e3 := ht6.cell kd3 (fun h => h (.inl rfl))
                clear hp6 ht6
                refine hK.out _ _ ⟨e1, e3⟩ (fun hH => ?_)
                clear hK K
                try simp only [Act.put, List.setIfInBounds_toArray, List.set_cons_zero, List.set_cons_succ]
                refine wpAnyK_one (i := 11) (by kernel_rfl) rfl (fun K hK => ?_) (by kernel_rfl)
                go_simp
                go_at_call 13
                refine (pst_rrelease HP6.out id nw).mono ?_
                rintro _ w7 ⟨rfl, hp7, ht7⟩
                rw [HRV.out]
                have HP7 := Lib.hid hp7
                have g1 := ht7.cell e1 (fun h => h (.inl rfl))
                have g3 := ht7.cell e3 (fun h => h (.inl rfl))
                clear hp7 ht7
                refine hK.out _ _ ⟨g1, g3⟩ (fun hH => ?_)
                clear hK K
                try simp only [Act.put, List.setIfInBounds_toArray, List.set_cons_zero, List.set_cons_succ]
                refine wpAnyK_last (by kernel_rfl) rfl (fun K hK => ?_) (by kernel_rfl)
                go_simp
                refine hK.out _ _ (wpAnyK_done (by kernel_rfl) ?_ _)
                clear hK K hH kd1 kd3 e1 e3 g1 g3 c0 c1 c2 c3 c4
                go_wp2_with fail
                go_meet
                case rel => exact ⟨lb, last, _, rfl, by omega, HP7.out.drop⟩
            by_cases k4 : kd = 4
            · as_aux_lemma =>
                subst k4
                obtain ⟨en, hen⟩ : ∃ en, (expI nw L).length = en := ⟨_, rfl⟩
                have hen16 : en ≤ 16 := by rw [← hen]; exact Nat.le_trans (expI_len _ _) (pst_few HST5.out)
                have HEN := Lib.hid hen
                have HL5 := Lib.hid HST5.out.bklt
                clear hen
                go_wp2_with (first
                  | (go_at_call 16; refine (same_Ints (rdZ_own HO8.out.1) (rdZ_own HO8.out.2) (by rw [HEN.out]; omega)).mono ?_; rintro _ w9 ⟨rfl, a9, hw9⟩; have HW9 := Lib.hid hw9; clear hw9; simp only [])
                  | (go_at_call 17; refine (pst_rexpire HP7.out nw).mono ?_; rintro _ w8 ⟨ra, rk, rfl, ho8, hp8, ht8⟩; rw [HEN.out] at ho8; have HP8 := Lib.hid hp8; have HO8 := Lib.hid (And.intro (ht8.row HO7.out (fun q hq hn => hn (.inr (.inr hq)))) ho8); clear ho8 hp8 ht8; simp only [HEN.out])
                  | (go_at_call 15; refine (pst_ints (s := ⟨sa, en, sk⟩) HP6.out HO6.out HL5.out (fun q hq => .inr (HO6.out.lt q hq)) (by rw [HEN.out]; omega)).mono ?_; rintro _ w7 ⟨rfl, hp7, ht7⟩; have g3 := ht7.cell e3 (fun h => h (.inl (.inl rfl))); have HP7 := Lib.hid hp7; have HO7 := Lib.hid (ht7.row HO6.out (fun q hq hn => hn (.inl (.inr (HO6.out.lt q hq))))); clear hp7 ht7; simp only [])
                  | (go_at_call 14; refine (pst_expire HST5.out nw).mono ?_; rintro _ w6 ⟨sa, sk, rfl, ho6, hp6, ht6⟩; rw [HEN.out] at ho6; have e3 := ht6.cell c3 (fun h => h (.inl rfl)); have HO6 := Lib.hid ho6; have HP6 := Lib.hid hp6; clear ho6 hp6 ht6; simp only [HEN.out]))
                go_meet
                case rel => exact ⟨lb, last, _, rfl, by omega, (HP8.out.below (by rw [HW9.out]; exact drewN_below _ _)).drop⟩
            by_cases k6 : kd = 6
            · as_aux_lemma =>
                subst k6
                obtain ⟨ps, hps⟩ : ∃ ps : ByteArray, (⟨(putS last L).toArray⟩ : ByteArray) = ps := ⟨_, rfl⟩
                have t5 := str_eq2 ps
                have t6 := str_ne2 ps
                have HPS := Lib.hid hps
                clear hps
                go_wp2_with fail
                refine (pst_put HST5.out).mono ?_
                rintro _ w6 ⟨rfl, hb6⟩
                have HST6 := Lib.hid (HST5.out.below hb6)
                have HL6 := Lib.hid (pst_load HST6.out)
                clear hb6
                rw [HPS.out] at HL6
                simp only [HPS.out]
                go_wp2_with fail
                refine HL6.out.mono ?_
                rintro _ w7 ⟨lb2, rfl, hn7, ho7, hb7⟩
                have HN7 := Lib.hid hn7
                have HO7 := Lib.hid ho7
                clear hn7 ho7 hb7
                go_wp2_with fail
                refine (pst_put HN7.out).mono ?_
                rintro _ w8 ⟨rfl, hb8⟩
                have HB8 := Lib.hid hb8
                clear hb8
                simp only [HPS.out]
                go_wp2_with fail
                refine (pst_put (HO7.out.below HB8.out)).mono ?_
                rintro _ w9 ⟨rfl, hb9⟩
                have HB9 := Lib.hid (HB8.out.trans (hb9.mono HB8.out.size))
                clear hb9
                simp only [HPS.out]
                go_wp2_with fail
                go_meet
                case rel => exact ⟨lb2, last, _, rfl, by omega, (HN7.out.below HB9.out).drop⟩
            by_cases k1 : kd = 1
            · as_aux_lemma =>
                subst k1
                have hva5 := HVA.out.below HST5.out.bel
                have hsv := src_vec hva5
                have hvl : vs.length = vn := HVA.out.1
                have HVL := Lib.hid hvl
                obtain ⟨av, hav⟩ : ∃ av, acqI L vs tt nw last = av := ⟨_, rfl⟩
                obtain ⟨ab, hab⟩ : ∃ ab, acqB L vs tt nw = ab := ⟨_, rfl⟩
                have t5 : (av != av) = false := by simp
                have t6 : (ab != ab) = false := by simp
                have HQ := Lib.hid (And.intro hav hab)
                have HSV := Lib.hid hsv
                have HLA := Lib.hid (show last < 1000000 by omega)
                clear hva5 hsv hvl hav hab
                go_wp2_with fail
                refine (lent_any HSV.out HVL.out (by omega)).mono ?_
                rintro _ w6 ⟨g, cp, rfl, ho6, hc61, hc62, hb6⟩
                have e2 := (hb6.cell (p := ⟨ob, 2, none⟩) hlt5).trans c2
                have e3 := (hb6.cell (p := ⟨ob, 3, none⟩) hlt5).trans c3
                have e4 := (hb6.cell (p := ⟨ob, 4, none⟩) hlt5).trans c4
                have hst6 : PSt (fun q => q = ob ∨ q = g) (fun _ => False) w w6 lb last L rb last L bk := (HST5.out.more hb6).weak (fun q hq => by
                  rcases hq with hq | hq
                  · exact .inl hq
                  · rw [hq]; exact .inr (ho6.lt g rfl)) (fun _ e => e)
                have HST6 := Lib.hid hst6
                have HO6 := Lib.hid ho6
                have hx6 : RdX (fun q => ¬ ((q = ob ∨ q = g) ∨ q < w.heap.size)) w6 ⟨0, some ⟨g, 0, none⟩, cp, vs, 0⟩ := rdx_of (rdI_own (Own.pre ho6 HVL.out rfl)) (fun b off e h => h (.inl (.inr (by injection e with e; injection e with e; exact e.symm))))
                have HX6 := Lib.hid hx6
                clear c0 c1 c2 c3 c4 hst6 ho6 hx6 hb6
                go_wp2_with fail
                refine (pst_acquire HST6.out HLA.out HVL.out HX6.out tt nw).mono ?_
                rintro _ w7 ⟨rfl, hp7, ht7⟩
                rw [HQ.out.1, HQ.out.2]
                have g2 := ht7.cell e2 (fun h => h (.inl (.inl rfl)))
                have g3 := ht7.cell e3 (fun h => h (.inl (.inl rfl)))
                have g4 := ht7.cell e4 (fun h => h (.inl (.inl rfl)))
                have HP7 := Lib.hid hp7
                have HO7 := Lib.hid (ht7.row HO6.out (fun q hq hn => hn (.inl (.inr (by injection hq with hq; exact hq.symm)))))
                clear hp7 ht7 e2 e3 e4
                go_wp2_with fail
                refine (pst_racquire HP7.out HLA.out HVL.out (rdx_vec HVA.out HP7.out.bel (fun q hq h => h (.inr hq))) (by rw [HVL.out]; omega) tt nw).mono ?_
                rintro _ w8 ⟨rfl, hp8, ht8⟩
                rw [HQ.out.1, HQ.out.2]
                have f2 := ht8.cell g2 (fun h => h (.inl (.inl rfl)))
                have f3 := ht8.cell g3 (fun h => h (.inl (.inl rfl)))
                have f4 := ht8.cell g4 (fun h => h (.inl (.inl rfl)))
                have ho8 := ht8.row HO7.out (fun q hq hn => hn (.inl (.inr (by injection hq with hq; exact hq.symm))))
                have HP8 := Lib.hid hp8
                have ho8' : Own eVec w8 w5.heap.size (.slice (some ⟨g, 0, none⟩) (vn + 1) cp) (vs ++ [-77]) := ho8
                have hm77 : w8.cell? ⟨g, vn, none⟩ = some (.int .i64 (-77)) := by
                  obtain ⟨g', e, h1, _⟩ := iget (a := some ⟨g, 0, none⟩) (n := vn + 1) (cap := cp) (l := vs ++ [-77]) (j := vn) (x := -77) ho8' (by rw [List.getElem?_append_right (by rw [HVL.out]; exact Nat.le_refl _), HVL.out]; simp)
                  injection e with e
                  injection e with e
                  subst e
                  exact h1
                have hS := Lib.hid (stays_any (rdI_own (Own.pre ho8' HVL.out rfl)) (rd_vec (HVA.out.below HP8.out.bel)) hm77 hc61 hc62 (by omega))
                have HO8 := Lib.hid ho8'
                clear hp8 ht8 g2 g3 g4 ho8 ho8' hm77
                go_wp2_with fail
                refine hS.out.mono ?_
                rintro _ w9 ⟨rfl, hb9⟩
                have HP9 := Lib.hid (HP8.out.below hb9)
                have HO9 := Lib.hid (row_below HO8.out hb9)
                clear hb9 f2 f3 f4 hc61
                go_wp2_with fail
                go_loopw [15] (fun kv wr => ∃ k : Nat, k ≤ vn ∧ kv = .int .i64 (k : Int) ∧ (∃ us : List Int, us.length = vn + 1 ∧ Own kInts wr w5.heap.size (.slice (some ⟨g, 0, none⟩) (vn + 1) cp) us) ∧ PSt (fun q => q = ob ∨ q = g) (fun _ => False) w wr lb (acqN L vs tt nw last) (acqL L vs tt nw last) rb (acqN L vs tt nw last) (acqL L vs tt nw last) bk) (fun kv _ => vn - (intOf kv).toNat)
                case atStart => exact ⟨0, by omega, rfl, ⟨vs ++ [-77], by rw [List.length_append, HVL.out]; rfl, HO9.out⟩, HP9.out⟩
                case round =>
                  obtain ⟨k, hk, rfl, ⟨us, hul, huo⟩, hst9⟩ := hrel
                  have HU := Lib.hid (And.intro hul (And.intro huo hst9))
                  by_cases hkl : k < vn
                  · have hku : k < us.length := by omega
                    obtain ⟨g', e, d1, z1, -, -⟩ := iget huo (List.getElem?_eq_getElem hku)
                    injection e with e
                    injection e with e
                    subst e
                    obtain ⟨u, hu⟩ : ∃ u, us[k] = u := ⟨_, rfl⟩
                    rw [hu] at d1
                    have r2 : (k : Int) < (vn : Int) := by omega
                    clear hu hul huo hst9 hku
                    go_wp2
                    go_roundw
                    case rel => exact ⟨k + 1, by omega, by go_num, ⟨us.set k (-5), by rw [List.length_set]; exact HU.out.1, iset HU.out.2.1 HU.out.1 k (-5)⟩, HU.out.2.2.kept (Tn.setCell _ _ _ (.inr rfl))⟩
                    case measure => simp [intOf]; omega
                  · obtain rfl : k = vn := by omega
                    clear hul huo hst9
                    go_wp2
                    go_meet
                    case rel => exact ⟨lb, _, _, rfl, acqN_le _ _ _ _ _ hla, HU.out.2.2.drop⟩
            by_cases k5 : kd = 5
            · as_aux_lemma =>
                subst k5
                have hbk5 := HST5.out.bklt
                have HB5 := Lib.hid hbk5
                go_wp2_with fail
                refine (pst_get2 HST5.out id).mono ?_
                rintro _ w6 ⟨xi, xa, xk, xv, xt, ec, rfl, ho6, hge, hx8, hb6⟩
                obtain ⟨xn, hxn⟩ : ∃ xn, xv.length = xn := ⟨_, rfl⟩
                rw [hxn] at ho6 hx8
                have e1 := (hb6.cell (p := ⟨ob, 1, none⟩) hlt5).trans c1
                have hob6 : ob < w6.heap.size := World.block_lt_of_cell? _ _ e1
                have hst6 := HST5.out.below hb6
                have hgood := hst6.good
                obtain ⟨ra, rk, Mr, cr, hrl, hrc, hrbl⟩ := pst_rlist hst6
                have hrn16 : Mr.length ≤ 16 := by
                  have := pst_few hst6
                  rw [← hrc, List.length_map] at this
                  exact this
                obtain ⟨rn, hrn⟩ : ∃ rn, Mr.length = rn := ⟨_, rfl⟩
                obtain ⟨_, _, er, hcl, hvr⟩ := hrl
                injection er with er1 er2 er3
                subst er1
                clear er2 er3
                rw [hrn] at cr hrn16
                have HG := Lib.hid (And.intro ho6 (And.intro hge (And.intro hx8 (And.intro hb6 (And.intro hxn (And.intro hcl (And.intro hvr (And.intro hrc (And.intro hrn hgood)))))))))
                simp only [hxn]
                clear ho6 hge hx8 hb6 hxn hst6 hcl hvr hrc hrn hgood c0 c1 c2 c3 c4
                obtain ⟨W7, hW7⟩ : ∃ W7, w6.alloc (.cells #[.int .i64 0, .slice none 0 0, .int .i64 0] 65) = W7 := ⟨_, rfl⟩
                have hz7 : W7.heap.size = w6.heap.size + 1 := by rw [← hW7]; simp
                have a0 : W7.cell? ⟨w6.heap.size, 0, none⟩ = some (.int .i64 0) := by rw [← hW7]; simp [go_sem]
                have a1 : W7.cell? ⟨w6.heap.size, 1, none⟩ = some (.slice none 0 0) := by rw [← hW7]; simp [go_sem]
                have a2 : W7.cell? ⟨w6.heap.size, 2, none⟩ = some (.int .i64 0) := by rw [← hW7]; simp [go_sem]
                have af : ∀ j, W7.frozen? ⟨w6.heap.size, j, none⟩ = false := fun j => by rw [← hW7]; exact fz_alloc _ _ _ _
                have hb7 : Below w6.heap.size w6 W7 := by rw [← hW7]; exact (Below.refl _ _).alloc (Nat.le_refl _) _
                obtain ⟨W8, hW8⟩ : ∃ W8, ((W7.setCell ⟨w6.heap.size, 0, none⟩ (.int .i64 xi)).setCell ⟨w6.heap.size, 1, none⟩ (.slice xa xn xk)).setCell ⟨w6.heap.size, 2, none⟩ (.int .i64 xt) = W8 := ⟨_, rfl⟩
                obtain ⟨k0, k1', k2'⟩ := set3 a0 a1 a2 hW8
                have hb8 : Below w6.heap.size w6 W8 := by rw [← hW8]; exact below3 hb7 (Nat.le_refl _)
                have hz8 : W8.heap.size = w6.heap.size + 1 := by rw [← hW8]; simpa using hz7
                obtain ⟨W9, hW9⟩ : ∃ W9, W8.alloc (.cells #[.int .i64 0, .slice none 0 0, .int .i64 0] 65) = W9 := ⟨_, rfl⟩
                have hz9 : W9.heap.size = w6.heap.size + 1 + 1 := by rw [← hW9]; simp; exact hz8
                have b0 : W9.cell? ⟨w6.heap.size + 1, 0, none⟩ = some (.int .i64 0) := by rw [← hW9, ← hz8]; simp [go_sem]
                have b1 : W9.cell? ⟨w6.heap.size + 1, 1, none⟩ = some (.slice none 0 0) := by rw [← hW9, ← hz8]; simp [go_sem]
                have b2 : W9.cell? ⟨w6.heap.size + 1, 2, none⟩ = some (.int .i64 0) := by rw [← hW9, ← hz8]; simp [go_sem]
                have bf : ∀ j, W9.frozen? ⟨w6.heap.size + 1, j, none⟩ = false := fun j => by rw [← hW9, ← hz8]; exact fz_alloc _ _ _ _
                have hb89 : Below W8.heap.size W8 W9 := by rw [← hW9]; exact (Below.refl _ _).alloc (Nat.le_refl _) _
                have hb9 : Below w6.heap.size w6 W9 := hb8.trans (hb89.mono (by omega))
                have A0 := (hb89.cell (p := ⟨w6.heap.size, 0, none⟩) (by show w6.heap.size < _; omega)).trans k0
                have A1 := (hb89.cell (p := ⟨w6.heap.size, 1, none⟩) (by show w6.heap.size < _; omega)).trans k1'
                have A2 := (hb89.cell (p := ⟨w6.heap.size, 2, none⟩) (by show w6.heap.size < _; omega)).trans k2'
                have HW := Lib.hid (And.intro hb9 (And.intro A0 (And.intro A1 (And.intro A2 (And.intro b0 (And.intro b1 (And.intro b2 bf)))))))
                clear hb7 hb8 hb89 hb9 k0 k1' k2' A0 A1 A2 b0 b1 b2 bf
                go_wp2_with fail
                go_loopw [20, 21] (fun fv kv wr => ∃ (k : Nat) (y : Lv) (fc : Int), k ≤ rn ∧ fv = .int .i64 fc ∧ kv = .int .i64 (k : Int) ∧ DocG Mr id k y fc ∧ Below w6.heap.size w6 wr ∧ (wr.cell? ⟨w6.heap.size, 0, none⟩ = some (.int .i64 xi) ∧ wr.cell? ⟨w6.heap.size, 1, none⟩ = some (.slice xa xn xk) ∧ wr.cell? ⟨w6.heap.size, 2, none⟩ = some (.int .i64 xt)) ∧ (wr.cell? ⟨w6.heap.size + 1, 0, none⟩ = some (.int .i64 y.id) ∧ wr.cell? ⟨w6.heap.size + 1, 1, none⟩ = some y.sl ∧ wr.cell? ⟨w6.heap.size + 1, 2, none⟩ = some (.int .i64 y.till)) ∧ ∀ j, wr.frozen? ⟨w6.heap.size + 1, j, none⟩ = false) (fun _ kv _ => rn - (intOf kv).toNat)
                case atStart => exact ⟨0, ⟨0, none, 0, [], 0⟩, 22, by omega, rfl, rfl, .inl ⟨fun j hj h => by omega, rfl, rfl⟩, HW.out.1, ⟨HW.out.2.1, HW.out.2.2.1, HW.out.2.2.2.1⟩, ⟨HW.out.2.2.2.2.1, HW.out.2.2.2.2.2.1, HW.out.2.2.2.2.2.2.1⟩, HW.out.2.2.2.2.2.2.2⟩
                case round =>
                  obtain ⟨k, y, fc, hk, rfl, rfl, hdg, hbr, ⟨x0, x1, x2⟩, ⟨y0, y1, y2⟩, yf⟩ := hrel
                  have f0 := (hbr.cell (p := ⟨rb, 0, none⟩) hrbl).trans cr
                  have f1 := (hbr.cell (p := ⟨ob, 1, none⟩) hob6).trans e1
                  have HR := Lib.hid (And.intro hdg (And.intro hbr (And.intro x0 (And.intro x1 (And.intro x2 (And.intro y0 (And.intro y1 (And.intro y2 yf))))))))
                  by_cases hkl : k < rn
                  · have hkm : k < Mr.length := by have := HG.out.2.2.2.2.2.2.2.2.1; omega
                    obtain ⟨b2, o2, rfl, hb2l, hcc⟩ := HG.out.2.2.2.2.2.1.resolve_left (fun e => by rw [e] at hkm; simp at hkm)
                    obtain ⟨m0, m1, m2⟩ := hcc k hkm
                    have m0 := (hbr.cell (p := ⟨b2, o2 + k * 3, none⟩) hb2l).trans m0
                    have m1 := (hbr.cell (p := ⟨b2, o2 + k * 3 + 1, none⟩) hb2l).trans m1
                    have m2 := (hbr.cell (p := ⟨b2, o2 + k * 3 + 2, none⟩) hb2l).trans m2
                    obtain ⟨z, hz⟩ : ∃ z, Mr[k] = z := ⟨_, rfl⟩
                    rw [hz] at m0 m1 m2
                    have HZ := Lib.hid hz
                    obtain ⟨zi, za, zk, zv, zt⟩ := z
                    obtain ⟨zn, hzn⟩ : ∃ zn, zv.length = zn := ⟨_, rfl⟩
                    have m1 : wr.cell? ⟨b2, o2 + k * 3 + 1, none⟩ = some (.slice za zn zk) := by rw [← hzn]; exact m1
                    have m0 : wr.cell? ⟨b2, o2 + k * 3, none⟩ = some (.int .i64 zi) := m0
                    have m2 : wr.cell? ⟨b2, o2 + k * 3 + 2, none⟩ = some (.int .i64 zt) := m2
                    have HZN := Lib.hid hzn
                    have HKM : Hid (k < Mr.length) := hkm
                    have r2 : (k : Int) < (rn : Int) := by omega
                    clear hcc hz hzn hdg hbr x0 x1 x2 y0 y1 y2 yf
                    go_wp2_with fail
                    have kd0 : wr.drew.cell? ⟨rb, 0, none⟩ = some (.slice (some ⟨b2, o2, none⟩) rn rk) := f0
                    have kd1 : wr.drew.cell? ⟨b2, o2 + k * 3, none⟩ = some (.int .i64 zi) := m0
                    have kd2 : wr.drew.cell? ⟨ob, 1, none⟩ = some (.int .i64 id) := f1
                    refine wp_region_K (fun w' => w'.cell? ⟨rb, 0, none⟩ = some (.slice (some ⟨b2, o2, none⟩) rn rk) ∧ w'.cell? ⟨b2, o2 + k * 3, none⟩ = some (.int .i64 zi) ∧ w'.cell? ⟨ob, 1, none⟩ = some (.int .i64 id)) 10 11 (by kernel_rfl) (by kernel_rfl) ⟨kd0, kd1, kd2⟩ (fun hH => ?_)
                    refine wpAnyK_take (i := 0) [1, 2, 3, 5, 6, 7, 10] (v := ?v25) rfl (by kernel_rfl) (by kernel_rfl) (by kernel_rfl) (by kernel_rfl) (fun _ _ _ h => h) (Or.inl ⟨by rfl, ?hy25⟩) hH ?rest25
                    case hy25 => (intro w hSw; (try dsimp only at hSw); go_simp; with_reducible rfl)
                    try simp only [Act.put, List.setIfInBounds_toArray, List.set_cons_zero, List.set_cons_succ]
                    refine wpAnyK_take (i := 1) [2, 3, 5, 6, 7, 10] (v := ?v26) rfl (by kernel_rfl) (by kernel_rfl) (by kernel_rfl) (by kernel_rfl) (fun _ _ _ h => h) (Or.inl ⟨by rfl, ?hy26⟩) hH ?rest26
                    case hy26 => (intro w hSw; (try dsimp only at hSw); go_simp; with_reducible rfl)
                    try simp only [Act.put, List.setIfInBounds_toArray, List.set_cons_zero, List.set_cons_succ]
                    refine wpAnyK_take (i := 2) [3, 5, 6, 7, 10] (v := ?v27) rfl (by kernel_rfl) (by kernel_rfl) (by kernel_rfl) (by kernel_rfl) (fun _ _ _ h => h) (Or.inl ⟨by rfl, ?hy27⟩) hH ?rest27
                    case hy27 => (intro w hSw; (try dsimp only at hSw); go_simp; with_reducible rfl)
                    try simp only [Act.put, List.setIfInBounds_toArray, List.set_cons_zero, List.set_cons_succ]
                    refine wpAnyK_take (i := 3) [5, 6, 7, 10] (v := ?v28) rfl (by kernel_rfl) (by kernel_rfl) (by kernel_rfl) (by kernel_rfl) (fun _ _ _ h => h) (Or.inl ⟨by rfl, ?hy28⟩) hH ?rest28
                    case hy28 => (intro w hSw; (try dsimp only at hSw); go_simp; with_reducible rfl)
                    try simp only [Act.put, List.setIfInBounds_toArray, List.set_cons_zero, List.set_cons_succ]
                    refine wpAnyK_take (i := 4) [5, 6, 7, 10] (v := ?v29) rfl (by kernel_rfl) (by kernel_rfl) (by kernel_rfl) (by kernel_rfl) (fun _ _ _ h => h) (Or.inl ⟨by rfl, ?hy29⟩) hH ?rest29
                    case hy29 => (intro w hSw; (try dsimp only at hSw); go_simp; with_reducible rfl)
                    try simp only [Act.put, List.setIfInBounds_toArray, List.set_cons_zero, List.set_cons_succ]
                    refine wpAnyK_take (i := 5) [6, 7, 10] (v := ?v30) rfl (by kernel_rfl) (by kernel_rfl) (by kernel_rfl) (by kernel_rfl) (fun _ _ _ h => h) (Or.inl ⟨by rfl, ?hy30⟩) hH ?rest30
                    case hy30 => (intro w hSw; (try dsimp only at hSw); go_simp; with_reducible rfl)
                    try simp only [Act.put, List.setIfInBounds_toArray, List.set_cons_zero, List.set_cons_succ]
                    refine wpAnyK_take (i := 6) [7, 10] (v := ?v31) rfl (by kernel_rfl) (by kernel_rfl) (by kernel_rfl) (by kernel_rfl) (fun _ _ _ h => h) (Or.inl ⟨by rfl, ?hy31⟩) hH ?rest31
                    case hy31 => (intro w hSw; (try dsimp only at hSw); go_simp; with_reducible rfl)
                    try simp only [Act.put, List.setIfInBounds_toArray, List.set_cons_zero, List.set_cons_succ]
                    refine wpAnyK_take (i := 7) [10] (v := ?v32) rfl (by kernel_rfl) (by kernel_rfl) (by kernel_rfl) (by kernel_rfl) (fun _ _ _ h => h) (Or.inl ⟨by rfl, ?hy32⟩) hH ?rest32
                    case hy32 => (intro w hSw; (try dsimp only at hSw); go_simp; with_reducible rfl)
                    try simp only [Act.put, List.setIfInBounds_toArray, List.set_cons_zero, List.set_cons_succ]
                    refine wpAnyK_take (i := 8) [9, 10] (v := ?v33) rfl (by kernel_rfl) (by kernel_rfl) (by kernel_rfl) (by kernel_rfl) (fun _ _ _ h => h) (Or.inl ⟨by rfl, ?hy33⟩) hH ?rest33
                    case hy33 => (intro w hSw; (try dsimp only at hSw); go_simp; with_reducible rfl)
                    try simp only [Act.put, List.setIfInBounds_toArray, List.set_cons_zero, List.set_cons_succ]
                    refine wpAnyK_take (i := 9) [10] (v := ?v34) rfl (by kernel_rfl) (by kernel_rfl) (by kernel_rfl) (by kernel_rfl) (fun _ _ _ h => h) (Or.inl ⟨by rfl, ?hy34⟩) hH ?rest34
                    case hy34 => (intro w hSw; (try dsimp only at hSw); go_simp; with_reducible rfl)
                    try simp only [Act.put, List.setIfInBounds_toArray, List.set_cons_zero, List.set_cons_succ]
                    refine wpAnyK_last (by kernel_rfl) rfl (fun K hK => ?_) (by kernel_rfl)
                    go_simp
                    refine hK.out _ _ (wpAnyK_done (by kernel_rfl) ?_ _)
                    clear hK K hH kd0 kd1 kd2
                    obtain ⟨W0, hW0⟩ : ∃ W0, wr.drew = W0 := ⟨_, rfl⟩
                    have n0 : W0.cell? ⟨rb, 0, none⟩ = some (.slice (some ⟨b2, o2, none⟩) rn rk) := by rw [← hW0]; exact f0
                    have n1 : W0.cell? ⟨b2, o2 + k * 3, none⟩ = some (.int .i64 zi) := by rw [← hW0]; exact m0
                    have n2 : W0.cell? ⟨b2, o2 + k * 3 + 1, none⟩ = some (.slice za zn zk) := by rw [← hW0]; exact m1
                    have n3 : W0.cell? ⟨b2, o2 + k * 3 + 2, none⟩ = some (.int .i64 zt) := by rw [← hW0]; exact m2
                    have x0 : W0.cell? ⟨w6.heap.size, 0, none⟩ = some (.int .i64 xi) := by rw [← hW0]; exact HR.out.2.2.1
                    have x1 : W0.cell? ⟨w6.heap.size, 1, none⟩ = some (.slice xa xn xk) := by rw [← hW0]; exact HR.out.2.2.2.1
                    have x2 : W0.cell? ⟨w6.heap.size, 2, none⟩ = some (.int .i64 xt) := by rw [← hW0]; exact HR.out.2.2.2.2.1
                    have y0 : W0.cell? ⟨w6.heap.size + 1, 0, none⟩ = some (.int .i64 y.id) := by rw [← hW0]; exact HR.out.2.2.2.2.2.1
                    have y1 : W0.cell? ⟨w6.heap.size + 1, 1, none⟩ = some y.sl := by rw [← hW0]; exact HR.out.2.2.2.2.2.2.1
                    have y2 : W0.cell? ⟨w6.heap.size + 1, 2, none⟩ = some (.int .i64 y.till) := by rw [← hW0]; exact HR.out.2.2.2.2.2.2.2.1
                    have yf : ∀ j, W0.frozen? ⟨w6.heap.size + 1, j, none⟩ = false := fun j => by rw [← hW0]; exact HR.out.2.2.2.2.2.2.2.2 j
                    have hbW : Below w6.heap.size w6 W0 := by rw [← hW0]; exact HR.out.2.1.drew
                    have HX := Lib.hid (And.intro hbW (And.intro x0 (And.intro x1 (And.intro x2 (And.intro y0 (And.intro y1 (And.intro y2 yf)))))))
                    rw [hW0]
                    clear hW0 f0 f1 m0 m1 m2 hbW x0 x1 x2
                    by_cases hzi : zi = id
                    · subst hzi
                      have t7 : (zi == zi) = true := by simp
                      obtain ⟨W1, hW1⟩ : ∃ W1, ((W0.setCell ⟨w6.heap.size + 1, 0, none⟩ (.int .i64 zi)).setCell ⟨w6.heap.size + 1, 1, none⟩ (.slice za zn zk)).setCell ⟨w6.heap.size + 1, 2, none⟩ (.int .i64 zt) = W1 := ⟨_, rfl⟩
                      obtain ⟨s0, s1, s2⟩ := set3 y0 y1 y2 hW1
                      have hoth : ∀ j v, W0.cell? ⟨w6.heap.size, j, none⟩ = some v → W1.cell? ⟨w6.heap.size, j, none⟩ = some v := fun j v hv => by rw [← hW1]; exact cell_ob (cell_ob (cell_ob hv (by omega)) (by omega)) (by omega)
                      have hfz1 : ∀ j, W1.frozen? ⟨w6.heap.size + 1, j, none⟩ = false := fun j => by rw [← hW1]; simp only [World.frozen?_setCell]; exact HX.out.2.2.2.2.2.2.2 j
                      have hbel1 : Below w6.heap.size w6 W1 := by rw [← hW1]; exact below3 HX.out.1 (by omega)
                      have HS := Lib.hid (And.intro (hoth _ _ HX.out.2.1) (And.intro (hoth _ _ HX.out.2.2.1) (And.intro (hoth _ _ HX.out.2.2.2.1) (And.intro s0 (And.intro s1 (And.intro s2 (And.intro hfz1 hbel1)))))))
                      clear s0 s1 s2 hoth hfz1 hbel1
                      go_wp2
                      go_roundw
                      case rel => exact ⟨k + 1, ⟨zi, za, zk, zv, zt⟩, 0, by omega, rfl, by go_num, .inr ⟨k, HKM.out, Nat.lt_succ_self _, by rw [HZ.out], HZ.out.symm, rfl⟩, HS.out.2.2.2.2.2.2.2, ⟨HS.out.1, HS.out.2.1, HS.out.2.2.1⟩, ⟨HS.out.2.2.2.1, by show _ = some (Value.slice za zv.length zk); rw [HZN.out]; exact HS.out.2.2.2.2.1, HS.out.2.2.2.2.2.1⟩, HS.out.2.2.2.2.2.2.1⟩
                      case measure => simp [intOf]; omega
                    · have t7 : (zi == id) = false := by simpa using hzi
                      have HNE := Lib.hid hzi
                      clear hzi n1 n2 n3 y0 y1 y2 yf
                      go_wp2
                      go_roundw
                      case rel =>
                        refine ⟨k + 1, y, fc, by omega, rfl, by go_num, ?_, HX.out.1, ⟨HX.out.2.1, HX.out.2.2.1, HX.out.2.2.2.1⟩, ⟨HX.out.2.2.2.2.1, HX.out.2.2.2.2.2.1, HX.out.2.2.2.2.2.2.1⟩, HX.out.2.2.2.2.2.2.2⟩
                        rcases HR.out.1 with ⟨g1, g2, g3⟩ | ⟨j, hj, hjk, g⟩
                        · refine .inl ⟨fun j hj hjk => ?_, g2, g3⟩
                          by_cases hjk2 : j = k
                          · subst hjk2
                            rw [HZ.out]
                            exact HNE.out
                          · exact g1 j hj (by omega)
                        · exact .inr ⟨j, hj, by omega, g⟩
                      case measure => simp [intOf]; omega
                  · obtain rfl : k = rn := by omega
                    obtain ⟨hec, hcore⟩ := docG_end (M := Mr) (id := id) (k := k) (x := ⟨xi, xa, xk, xv, xt⟩) (y := y) (ec := ec) (fc := fc) (by have := HG.out.2.2.2.2.2.2.2.2.1; omega) (by rw [HG.out.2.2.2.2.2.2.2.1]; exact HG.out.2.2.2.2.2.2.2.2.2.rise) (by rw [HG.out.2.2.2.2.2.2.2.1]; exact HG.out.2.1) HR.out.1
                    subst hec
                    have t7 : (ec != ec) = false := by simp
                    have hxr : RdI wr (.slice xa xv.length xk) xv := by rw [HG.out.2.2.2.2.1]; exact (rdI_own (row_below HG.out.1 hbr))
                    have hyr : RdI wr y.sl y.vs := by
                      rcases HR.out.1 with ⟨_, rfl, _⟩ | ⟨j, hj, _, _, rfl, _⟩
                      · exact ⟨none, 0, rfl, .inl rfl⟩
                      · exact (HG.out.2.2.2.2.2.2.1 _ (List.getElem_mem hj)).below hbr
                    have hS := samelease_any (w := wr) (x := ⟨xi, xa, xk, xv, xt⟩) (y := y) hxr hyr hcore (by show xv.length ≤ _; rw [HG.out.2.2.2.2.1]; have := HG.out.2.2.1; omega)
                    obtain ⟨yi, ya, yk, yv, yt⟩ := y
                    obtain ⟨yn, hyn⟩ : ∃ yn, yv.length = yn := ⟨_, rfl⟩
                    replace y1 : wr.cell? ⟨w6.heap.size + 1, 1, none⟩ = some (.slice ya yn yk) := by rw [← hyn]; exact y1
                    replace y0 : wr.cell? ⟨w6.heap.size + 1, 0, none⟩ = some (.int .i64 yi) := y0
                    replace y2 : wr.cell? ⟨w6.heap.size + 1, 2, none⟩ = some (.int .i64 yt) := y2
                    have hS2 : Calls Tryz.prog 19 #[.agg #[.int .i64 xi, .slice xa xn xk, .int .i64 xt], .agg #[.int .i64 yi, .slice ya yn yk, .int .i64 yt]] wr fun e w' => e = .returned (.bool true) ∧ Below wr.heap.size wr w' := by
                      rw [← hyn, ← HG.out.2.2.2.2.1]
                      exact hS
                    have hxl : w6.heap.size < wr.heap.size := World.block_lt_of_cell? _ _ x1
                    have HS2 := Lib.hid hS2
                    have HBR := Lib.hid hbr
                    clear hS hS2 hxr hyr hcore hyn hdg hbr yf
                    go_wp2_with fail
                    refine HS2.out.mono ?_
                    rintro _ w10 ⟨rfl, hb10⟩
                    have z1 := (hb10.cell (p := ⟨w6.heap.size, 1, none⟩) hxl).trans x1
                    have hb510 : Below w5.heap.size w5 w10 := (HG.out.2.2.2.1.trans (HBR.out.mono HG.out.2.2.2.1.size)).trans (hb10.mono (by have := HG.out.2.2.2.1.size; have := HBR.out.size; omega))
                    have ho10 : Own eVec w10 w5.heap.size (.slice xa xn xk) xv := row_below (row_below HG.out.1 HBR.out) hb10
                    have hP := Lib.hid (pst_vec (s := ⟨xa, xn, xk⟩) (HST5.out.more hb510) ho10 HB5.out (fun q hq => .inr ⟨(HG.out.1.lt q hq).1, by have := (HG.out.1.lt q hq).2; have := HBR.out.size; have := hb10.size; omega⟩) (by rw [HG.out.2.2.2.2.1]; have := HG.out.2.2.1; omega))
                    clear hb10 hb510 ho10 x0 x1 x2 y0 y1 y2 f0 f1
                    go_wp2_with fail
                    refine hP.out.mono ?_
                    rintro _ w11 ⟨rfl, hp11, -⟩
                    have HP11 := Lib.hid hp11
                    clear hp11
                    go_wp2_with fail
                    go_meet
                    case rel => exact ⟨lb, last, L, rfl, by omega, HP11.out.drop⟩
            have f1 : (kd == 1) = false := by simpa using k1
            have f2 : (kd == 2) = false := by simpa using k2
            have f3 : (kd == 3) = false := by simpa using k3
            have f4 : (kd == 4) = false := by simpa using k4
            have f5 : (kd == 5) = false := by simpa using k5
            have f6 : (kd == 6) = false := by simpa using k6
            clear k1 k2 k3 k4 k5 k6
            go_wp2
            go_meet
            case rel => exact ⟨lb, last, L, rfl, by omega, HST5.out.drop⟩
          case rest =>
            obtain ⟨lb2, last2, L2, hx2, hla2, hst2⟩ := hcut
            subst hx2
            have HS9 := Lib.hid hst2
            clear hst2
            go_wp2_with (go_at_call 23; refine (samelaw_any HS9.out).mono ?_; rintro _ w9 ⟨rfl, hp9, -⟩; have HP9 := Lib.hid hp9; clear hp9)
            go_roundw
            case rel => exact ⟨i + 1, lb2, last2, L2, by omega, rfl, by go_num, hla2, HP9.out⟩
            case measure => simp [intOf]; omega
      · obtain rfl : i = len := by omega
        clear HC HLL HWF hst
        go_wp2_with (go_at_call 24; refine (pst_apart HST.out).mono ?_; rintro _ w6 ⟨rfl, hb6⟩; have HB6 := Lib.hid hb6; clear hb6)
        go_ret
        exact ⟨rfl, HB6.out⟩
end Go.Proofs.YtnegappgdpeabaaGreat
