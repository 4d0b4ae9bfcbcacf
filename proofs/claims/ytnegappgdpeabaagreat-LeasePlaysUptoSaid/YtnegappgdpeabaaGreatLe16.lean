import Derived.Test.YtnegappgdpeabaaGreatLe15
import Derived.Test.YtnegappgdpeabaaGreatOpPl
import Derived.Deep.CutBlock
import Derived.Deep.CutRange
set_option linter.unusedSimpArgs false
set_option linter.unusedVariables false
/-
  LeasePlays: is what the program's leases tell what the document's tell?
-/
namespace Go.Proofs.YtnegappgdpeabaaGreat
open Go.RowKit
variable {K0 K7 K0' K7' G : Nat → Prop} {w w' w0 : World} {lb rb bk : Nat} {last lr : Int} {L LR : List Cr}

/-- Blocks of the law's own, where the first i vectors are kept; blocks at rest. -/
def KB (KA : Nat → Prop) (M : List Lv) (i : Nat) (q : Nat) : Prop := KA q ∧ ∀ j (hj : j < M.length), j < i → M[j].sl.ownBlock ≠ some q
def KC (K7 : Nat → Prop) (M : List Lv) (i : Nat) (q : Nat) : Prop := K7 q ∨ ∃ j, ∃ hj : j < M.length, j < i ∧ M[j].sl.ownBlock = some q
theorem kbc {KA : Nat → Prop} {M : List Lv} {i q : Nat} (h : ¬ (KB KA M i q ∨ KC K7 M i q)) : ¬ (KA q ∨ K7 q) := by
  rintro (h1 | h1)
  · by_cases h2 : ∃ j, ∃ hj : j < M.length, j < i ∧ M[j].sl.ownBlock = some q
    · exact h (.inr (.inr h2))
    · exact h (.inl ⟨h1, fun j hj hji e => h2 ⟨j, hj, hji, e⟩⟩)
  · exact h (.inr (.inl h1))
theorem slB (x : Lv) : (⟨x.sa, x.vs.length, x.sc⟩ : Sl).val = x.sl := rfl
set_option maxRecDepth 100000 in
set_option maxHeartbeats 4000000 in
theorem samelaw_any (h : PSt K0 K7 w0 w lb last L rb lr L bk) : Calls Tryz.prog 23 #[.pointer (some ⟨lb, 0, none⟩), .pointer (some ⟨rb, 0, none⟩), .pointer (some ⟨bk, 0, none⟩)] w fun e w' => e = .returned (.bool true) ∧ PGo K0 K7 w0 w w' lb last L rb lr L bk := by
  have hgood := h.good
  have hbk := h.bklt
  have H := Lib.hid h
  have HGD := Lib.hid hgood
  clear h hgood
  go_enter Tryz.func23, Tryz.ntmps23
  go_wp2_with fail
  refine (pst_list H.out).mono ?_
  rintro e w1 ⟨xa, xc, Mx, rfl, hmc, hlo, hsep, hb1⟩
  have H1 := Lib.hid (H.out.more hb1)
  go_wp2_with fail
  refine (pst_meet H1.out).mono ?_
  rintro e w2 ⟨v, rfl, hov, hb2⟩
  obtain ⟨va, vc, rfl, -, -⟩ := row_form hov
  have hb12 : Below w.heap.size w w2 := hb1.trans (hb2.mono hb1.size)
  have hlo2 := hlo.below hb2
  have hst2 : PSt (fun q => K0 q ∨ (w.heap.size ≤ q ∧ q < w2.heap.size)) K7 w0 w2 lb last L rb lr L bk := by
    refine (H1.out.more hb2).weak (fun q hq => ?_) (fun _ hq => hq)
    have := hb1.size
    have := hb2.size
    rcases hq with hq | hq
    · exact .inl (.inl hq)
    · by_cases h2 : q < w1.heap.size
      · exact .inl (.inr ⟨hq.1, h2⟩)
      · exact .inr ⟨by omega, hq.2⟩
  have hvec : ∀ x ∈ Mx, 1 ≤ x.vs.length ∧ x.vs.length ≤ 8 := fun x hx => by
    have hc : core x ∈ L := by rw [← hmc]; exact List.mem_map.2 ⟨x, hx, rfl⟩
    have := (HGD.out.each _ hc).2.2.1
    simp only [validB, Bool.and_eq_true, decide_eq_true_eq] at this
    exact this.1
  have hn16 : Mx.length ≤ 16 := by
    have := HGD.out.few
    rw [← hmc, List.length_map] at this
    exact this
  obtain ⟨KA, hKA⟩ : ∃ KA : Nat → Prop, KA = fun q => K0 q ∨ (w.heap.size ≤ q ∧ q < w2.heap.size) := ⟨_, rfl⟩
  rw [← hKA] at hst2
  have hKn : ∀ q, w.heap.size ≤ q → q < w2.heap.size → KA q := fun q h1 h2 => by rw [hKA]; exact .inr ⟨h1, h2⟩
  have hK0 : ∀ q, K0 q → KA q := fun q h1 => by rw [hKA]; exact .inl h1
  have hlx : ∀ x ∈ Mx, ∀ q, x.sl.ownBlock = some q → w.heap.size ≤ q ∧ q < w1.heap.size := fun x hx q hq => (hlo.2 x hx).1.lt q hq
  have hlv : ∀ q, (Value.slice xa Mx.length xc).ownBlock = some q → w.heap.size ≤ q ∧ q < w1.heap.size := fun q hq => hlo.1.lt q hq
  obtain ⟨n, hn⟩ : ∃ n, Mx.length = n := ⟨_, rfl⟩
  obtain ⟨mn, hmn⟩ : ∃ mn, (meetD (L.map (·.2.1))).length = mn := ⟨_, rfl⟩
  have hml : mn ≤ 50000 ∨ True := .inr trivial
  rw [hmn] at hov
  have hlo2' : LOwn w2 w.heap.size (.slice xa n xc) Mx := by rw [← hn]; exact hlo2
  rw [hn] at hn16 hlv
  have HX := Lib.hid (And.intro hmc (And.intro hsep (And.intro hlo2' (And.intro hvec (And.intro hn (And.intro hlx hlv))))))
  have HM := Lib.hid (And.intro hov (And.intro hmn (And.intro hb1 (And.intro hb2 hb12))))
  have HK := Lib.hid (And.intro hKn hK0)
  have H2 := Lib.hid hst2
  simp only [hn, hmn]
  clear hmc hsep hlo hlo2 hlo2' hvec hlx hlv hov hb1 hb2 hb12 hKn hK0 hst2 hKA hn hmn hml
  go_wp2
  go_loopw [9] (fun iv wr => ∃ i : Nat, i ≤ n ∧ iv = .int .i64 (i : Int) ∧ PSt (KB KA Mx i) (KC K7 Mx i) w0 wr lb last L rb lr L bk ∧ Tn (fun q => ¬ (KA q ∨ K7 q)) w2 wr) (fun iv _ => n - (intOf iv).toNat)
  case atStart => exact ⟨0, by omega, rfl, H2.out.weak (fun q hq => hq.1) (fun q hq => hq.elim id (fun ⟨j, hj, h0, _⟩ => by omega)), Tn.refl _ _⟩
  case round =>
    obtain ⟨i, hi, rfl, hst, ht⟩ := hrel
    have hLr : LOwn wr w.heap.size (.slice xa n xc) Mx := HX.out.2.2.1.tn ht (fun q h1 h2 hn => hn (.inl (HK.out.1 q h1 h2)))
    by_cases hlt : i < n
    · have hil : i < Mx.length := by have := HX.out.2.2.2.2.1; omega
      obtain ⟨g, cap', hv, -, -, -, k1, -⟩ := lv_cells hLr.1 hil
      have hmem : Mx[i] ∈ Mx := List.getElem_mem hil
      have hown := (hLr.2 _ hmem).1
      have hbl := HX.out.2.2.2.2.2.1 _ hmem
      have hsp : ∀ j (hj : j < Mx.length), j < i → ∀ q, Mx[i].sl.ownBlock = some q → Mx[j].sl.ownBlock ≠ some q := fun j hj hji q hq e => List.pairwise_iff_getElem.1 HX.out.2.1 j i hj hil hji q e hq
      have hvl := HX.out.2.2.2.1 _ hmem
      injection hv with e1 e2 e3
      subst e1
      clear e2 e3
      have hP := pst_vec hst (B := w.heap.size) (s := ⟨Mx[i].sa, Mx[i].vs.length, Mx[i].sc⟩) (l := Mx[i].vs) hown hbk (fun q hq => ⟨HK.out.1 q (hbl q hq).1 (by have := (hbl q hq).2; have := HM.out.2.2.2.1.size; omega), fun j hj hji e => hsp j hj hji q hq e⟩) (by omega)
      have HKX : Hid (∀ q, Mx[i].sl.ownBlock = some q ↔ (⟨Mx[i].sa, Mx[i].vs.length, Mx[i].sc⟩ : Sl).val.ownBlock = some q) := fun q => Iff.rfl
      obtain ⟨x, hx⟩ : ∃ x, Mx[i] = x := ⟨_, rfl⟩
      rw [hx] at k1 hP HKX
      have HXI := Lib.hid hx
      have HIL : Hid (i < Mx.length) := hil
      obtain ⟨yi, ya, yc, yv, yt⟩ := x
      obtain ⟨yn, hyn⟩ : ∃ yn, yv.length = yn := ⟨_, rfl⟩
      have d1 : wr.cell? ⟨g, i * 3 + 1, none⟩ = some (.slice ya yn yc) := by rw [← hyn]; exact k1
      have hP2 : Calls Tryz.prog 20 #[.pointer (some ⟨bk, 0, none⟩), .slice ya yn yc] wr fun e w' => e = .returned (.tuple #[]) ∧ PKept (KB KA Mx i) (KC K7 Mx i) w0 wr w' lb last L rb lr L bk ⟨ya, yv.length, yc⟩ := by rw [← hyn]; exact hP
      have r1 : (i : Int) < (n : Int) := by omega
      have HT := Lib.hid ht
      clear k1 hP hown hbl hsp hvl hmem hx hLr hst ht hyn
      go_wp2_with (go_at_call 20; refine hP2.mono ?_; rintro e w3 ⟨rfl, hp⟩; have HP := Lib.hid hp; clear hp)
      go_roundw
      case rel =>
        have hxi := HXI.out
        refine ⟨i + 1, by omega, by go_num, HP.out.1.weak (fun q hq => ⟨⟨hq.1, fun j hj hji => hq.2 j hj (by omega)⟩, fun e => hq.2 i HIL.out (Nat.lt_succ_self _) (by rw [hxi]; exact e)⟩) (fun q hq => ?_), HT.out.trans (HP.out.2.mono (fun q hq => kbc hq))⟩
        rcases hq with hq | ⟨j, hj, hji, e⟩
        · exact .inl (.inl hq)
        · by_cases hj2 : j = i
          · subst hj2
            rw [hxi] at e
            exact .inr e
          · exact .inl (.inr ⟨j, hj, by omega, e⟩)
      case measure => simp [intOf]; omega
    · obtain rfl : i = n := by omega
      have hPL := pst_leases hst (B := w.heap.size) (s := ⟨xa, i, xc⟩) (l := Mx) hLr.1 hbk (fun q hq => ⟨HK.out.1 q (HX.out.2.2.2.2.2.2 q hq).1 (by have := (HX.out.2.2.2.2.2.2 q hq).2; have := HM.out.2.2.2.1.size; omega), fun j hj _ e => (hLr.2 _ (List.getElem_mem hj)).2 q e hq⟩) (by have := HX.out.2.2.2.2.1; omega) (fun x hx => ⟨?_, HX.out.2.2.2.1 x hx⟩)
      rotate_left
      · have ho := (hLr.2 x hx).1
        obtain ⟨a', k', e, h0⟩ := rdI_own ho
        injection e with e1 _ _
        refine h0.imp id ?_
        rintro ⟨q, off, ha, hlt, hc⟩
        refine ⟨q, off, e1.trans ha, fun hf => hf ?_, hlt, hc⟩
        obtain ⟨j, hj, rfl⟩ := List.mem_iff_getElem.1 hx
        refine .inr ⟨j, hj, by have := HX.out.2.2.2.2.1; omega, ?_⟩
        show (Value.slice Mx[j].sa Mx[j].vs.length Mx[j].sc).ownBlock = some q
        rw [e1.trans ha]
        rfl
      have HPL := Lib.hid hPL
      have HT := Lib.hid ht
      clear hPL hst ht hLr
      go_wp2_with fail
      refine HPL.out.mono ?_
      rintro e w3 ⟨rfl, hp3⟩
      have ht3 : Tn (fun q => ¬ (KA q ∨ K7 q)) w2 w3 := HT.out.trans (hp3.2.mono (fun q hq => kbc hq))
      have hov3 : Own eVec w3 w1.heap.size (.slice va mn vc) (meetD (L.map (·.2.1))) := ht3.row HM.out.1 (fun q hq hn => hn (.inl (HK.out.1 q (by have := (HM.out.1.lt q hq).1; have := HM.out.2.2.1.size; omega) (HM.out.1.lt q hq).2)))
      have hmlen : mn ≤ 50000 := by
        rw [← HM.out.2.1]
        have := (meetD_len (L.map (·.2.1)) (fun v hv => ?_))
        · omega
        · obtain ⟨c, hc, rfl⟩ := List.mem_map.1 hv
          have := (HGD.out.each c hc).2.2.1
          simp only [validB, Bool.and_eq_true, decide_eq_true_eq] at this
          exact this.1.2
      have hPM := pst_vec hp3.1 (B := w1.heap.size) (s := ⟨va, mn, vc⟩) (l := meetD (L.map (fun c : Cr => c.2.1))) hov3 (by have := HM.out.2.2.1.size; omega) (fun q hq => by
        have h1 := (HM.out.1.lt q hq).1
        refine ⟨⟨HK.out.1 q (by have := HM.out.2.2.1.size; omega) (HM.out.1.lt q hq).2, fun j hj _ e => ?_⟩, fun e => ?_⟩
        · have := (HX.out.2.2.2.2.2.1 _ (List.getElem_mem hj) q e).2; omega
        · have := (HX.out.2.2.2.2.2.2 q e).2; omega) (by rw [HM.out.2.1]; exact hmlen)
      have HPM := Lib.hid hPM
      have HT3 := Lib.hid ht3
      have HML := Lib.hid hmlen
      clear hPM hp3 ht3 hov3 hmlen HPL
      go_wp2_with fail
      refine HPM.out.mono ?_
      rintro e w4 ⟨rfl, hp4⟩
      have ht4 : Tn (fun q => ¬ (KA q ∨ K7 q)) w2 w4 := HT3.out.trans (hp4.2.mono (fun q hq hk => hq (by
        by_cases h1 : (Sl.val ⟨xa, i, xc⟩).ownBlock = some q
        · exact .inr (.inr h1)
        · by_cases h2 : KB KA Mx i q
          · exact .inl ⟨h2, h1⟩
          · refine .inr (.inl ?_)
            by_cases h3 : KC K7 Mx i q
            · exact h3
            · exact absurd hk (kbc (fun e => e.elim h2 h3)))))
      obtain ⟨ra, rk, Mr, cr, hrl, hrc, hrb⟩ := pst_rlist hp4.1
      have hL4 : LOwn w4 w.heap.size (.slice xa i xc) Mx := HX.out.2.2.1.tn ht4 (fun q h1 h2 hn => hn (.inl (HK.out.1 q h1 h2)))
      have hov4 : Own eVec w4 w1.heap.size (.slice va mn vc) (meetD (L.map (·.2.1))) := ht4.row HM.out.1 (fun q hq hn => hn (.inl (HK.out.1 q (by have := (HM.out.1.lt q hq).1; have := HM.out.2.2.1.size; omega) (HM.out.1.lt q hq).2)))
      have hxl : RdLs w4 (.slice xa i xc) Mx := rdLs_own hL4.1 (fun x hx => rdI_own (hL4.2 x hx).1)
      have hS := same_Leases hxl hrl (HX.out.1.trans hrc.symm) (by have := HX.out.2.2.2.2.1; omega) (fun x hx => by have := (HX.out.2.2.2.1 x hx).2; omega)
      obtain ⟨rn, hrn⟩ : ∃ rn, Mr.length = rn := ⟨_, rfl⟩
      rw [hrn] at cr hS
      have hst4 : PSt K0 K7 w0 w4 lb last L rb lr L bk := hp4.1.weak (fun q hq => ?_) (fun q hq => .inl (.inl (.inl hq)))
      rotate_left
      · have hlt := (H.out.klt q (.inl hq))
        refine ⟨⟨⟨HK.out.2 q hq, fun j hj _ e => ?_⟩, fun e => ?_⟩, fun e => ?_⟩
        · have := (HX.out.2.2.2.2.2.1 _ (List.getElem_mem hj) q e).1; omega
        · have := (HX.out.2.2.2.2.2.2 q e).1; omega
        · have h1 := (HM.out.1.lt q e).1
          have := HM.out.2.2.1.size
          omega
      have H4 := Lib.hid (And.intro hst4 (And.intro ht4 (And.intro hov4 hrn)))
      have HS := Lib.hid hS
      clear hst4 ht4 hp4 hrl hrc hL4 hov4 hxl hS hrn
      go_wp2_with fail
      refine HS.out.mono ?_
      rintro e w5 ⟨rfl, hb5⟩
      have H5 := Lib.hid (H4.out.1.below hb5)
      have HB5 := Lib.hid hb5
      clear hb5
      go_wp2_with fail
      refine (pst_rmeet H5.out).mono ?_
      rintro e w6 ⟨v6, rfl, ho6, hb6⟩
      obtain ⟨ma, mc, rfl, -, -⟩ := row_form ho6
      have hsm := same_any (rdI_own (row_below (row_below H4.out.2.2.1 HB5.out) hb6)) (rdI_own ho6) (by rw [HM.out.2.1]; have := HML.out; omega)
      rw [HM.out.2.1] at hsm
      have HSM := Lib.hid hsm
      have HB6 := Lib.hid hb6
      simp only [HM.out.2.1]
      clear hsm hb6 ho6
      go_wp2_with fail
      refine HSM.out.mono ?_
      rintro e w7 ⟨rfl, hb7⟩
      have hb57 : Below w5.heap.size w5 w7 := HB6.out.trans (hb7.mono HB6.out.size)
      have hb47 : Below w4.heap.size w4 w7 := HB5.out.trans (hb57.mono HB5.out.size)
      have HF := Lib.hid (And.intro (H4.out.1.below hb47) ((((Tn.ofBelow HM.out.2.2.2.2).trans (H4.out.2.1.mono (fun q hq hk => hq (Or.imp (HK.out.2 q) id hk)))).trans (Tn.ofBelow hb47)) : Tn (fun q => ¬ (K0 q ∨ K7 q)) w w7))
      clear hb7 hb57 hb47
      go_wp2
      go_ret
      exact ⟨rfl, HF.out⟩
end Go.Proofs.YtnegappgdpeabaaGreat
/-
  LeasePlays: the start of a play.
-/
namespace Go.Proofs.YtnegappgdpeabaaGreat
open Go.RowKit
variable {K0 K7 K0' K7' G : Nat → Prop} {w w' w0 : World} {lb rb bk : Nat} {last lr : Int} {L LR : List Cr}

theorem nil_foot {α : Type} {q : Nat} (h : footL (.slice none 0 0) ([] : List (Sl × List α)) q) : False := by
  rcases h with h | ⟨i, hi, _⟩
  · cases h
  · simp at hi
theorem nil_Kd {P : Program} {T E TS : TypeId} {k by_ : Nat} {α : Type} {cell : α → List Value} {e : Elm P T E k by_ cell} {eS : Elm P TS T 1 24 sCell} {w : World} {bk off : Nat} (c0 : w.cell? ⟨bk, off, none⟩ = some (.slice none 0 0)) (c1 : w.cell? ⟨bk, off + 1, none⟩ = some (.slice none 0 0)) (hf : ∀ j, w.frozen? ⟨bk, j, none⟩ = false) : Kd e eS w bk off (bk + 1) (.slice none 0 0) (.slice none 0 0) [] [] :=
  ⟨c0, c1, Lst.nil _ _, Lst.nil _ _, rfl, fun q hq => (nil_foot hq).elim, by omega, hf⟩
theorem nil_KdL {P : Program} {T E TS : TypeId} {k by_ : Nat} {cell : Lv → List Value} {e : Elm P T E k by_ cell} {eS : Elm P TS T 1 24 sCell} {w : World} {bk off : Nat} (c0 : w.cell? ⟨bk, off, none⟩ = some (.slice none 0 0)) (c1 : w.cell? ⟨bk, off + 1, none⟩ = some (.slice none 0 0)) (hf : ∀ j, w.frozen? ⟨bk, j, none⟩ = false) : KdL e eS w bk off (bk + 1) (.slice none 0 0) (.slice none 0 0) [] [] :=
  ⟨c0, c1, Lst.nil _ _, Lst.nil _ _, rfl, fun q hq => (nil_foot hq).elim, by omega, hf⟩
theorem nil_Cols {α : Type} (c : Nat → Nat) (o i : Nat) : Cols c o i (.slice none 0 0) (.slice none 0 0) ([] : List (Sl × List α)) [] :=
  ⟨fun q hq => (by cases hq), fun q hq => (by cases hq), fun q ⟨j, hj, _⟩ => (by simp at hj), fun q ⟨j, hj, _⟩ => (by simp at hj)⟩
def col0 (n lb rb bk : Nat) (q : Nat) : Nat := if q < n then 9 else if q = lb then 1 else if q = rb then 2 else if q = bk then 5 else 0
theorem pst_start (hl : LsAt w lb none [] 0) (r0 : w.cell? ⟨rb, 0, none⟩ = some (.slice none 0 0)) (r1 : w.cell? ⟨rb, 1, none⟩ = some (.int .i64 0)) (rf : ∀ j, w.frozen? ⟨rb, j, none⟩ = false) (b0 : ∀ o, o < 30 → w.cell? ⟨bk, o, none⟩ = some (.slice none 0 0)) (bf : ∀ j, w.frozen? ⟨bk, j, none⟩ = false)
    (h1 : w0.heap.size ≤ lb) (h2 : w0.heap.size ≤ rb) (h3 : w0.heap.size ≤ bk) (n1 : lb ≠ rb) (n2 : lb ≠ bk) (n3 : rb ≠ bk) (hbel : Below w0.heap.size w0 w) : PSt (fun _ => False) (fun _ => False) w0 w lb 0 [] rb 0 [] bk := by
  have e1 : col0 w0.heap.size lb rb bk lb = 1 := by unfold col0; rw [if_neg (by omega), if_pos rfl]
  have e2 : col0 w0.heap.size lb rb bk rb = 2 := by unfold col0; rw [if_neg (by omega), if_neg n1.symm, if_pos rfl]
  have e5 : col0 w0.heap.size lb rb bk bk = 5 := by unfold col0; rw [if_neg (by omega), if_neg n2.symm, if_neg n3.symm, if_pos rfl]
  have hg : GoodL 0 [] := ⟨⟨by decide, by decide⟩, List.Pairwise.nil, fun c hc => by simp at hc, by simp⟩
  have hr := World.block_lt_of_cell? _ _ r0
  refine ⟨col0 w0.heap.size lb rb bk, none, [], .slice none 0 0, [], ⟨.slice none 0 0, .slice none 0 0, [], [], .slice none 0 0, .slice none 0 0, [], [], .slice none 0 0, .slice none 0 0, [], []⟩, ⟨⟨hl, fun p hp => by simp at hp, fun q hq => ?_, sm_nil, hg⟩, ⟨r0, r1, rf, World.ownsRow_nil _ _ _ _, fun q hq => (by cases hq), ⟨hr, by rw [e2]; exact not_rest (.inr (.inl rfl))⟩, fun x hx => by simp at hx, hg⟩, fun q hq => ?_, e2, ⟨nil_Kd (b0 2 (by decide)) (b0 3 (by decide)) bf, nil_Kd (b0 4 (by decide)) (b0 5 (by decide)) bf, nil_KdL (b0 20 (by decide)) (b0 21 (by decide)) bf, fun o h _ _ _ _ _ _ => b0 o h, e5, nil_Cols _ _ _, nil_Cols _ _ _, nil_Cols _ _ _, fun p hp => by rcases hp with hp | hp <;> simp at hp, by simp, by simp, by simp, fun i hi => by simp at hi, fun i hi => by simp at hi, fun i hi => by simp at hi⟩, fun q hq => ?_, hbel⟩, rfl, fun _ e => e.elim, fun _ e => e.elim⟩
  · rcases hq with rfl | e
    · exact ⟨hl.ltd, by rw [e1]; exact not_rest (.inl rfl)⟩
    · cases e
  · rcases hq with rfl | e
    · exact e1
    · cases e
  · unfold col0
    rw [if_pos hq]
def bookCells : Array Value := #[.slice none 0 0, .slice none 0 0, .slice none 0 0, .slice none 0 0, .slice none 0 0, .slice none 0 0, .slice none 0 0, .slice none 0 0, .slice none 0 0, .slice none 0 0, .slice none 0 0, .slice none 0 0, .slice none 0 0, .slice none 0 0, .slice none 0 0, .slice none 0 0, .slice none 0 0, .slice none 0 0, .slice none 0 0, .slice none 0 0, .slice none 0 0, .slice none 0 0, .slice none 0 0, .slice none 0 0, .slice none 0 0, .slice none 0 0, .slice none 0 0, .slice none 0 0, .slice none 0 0, .slice none 0 0]
theorem book_cell (w : World) (t : TypeId) (o : Nat) (h : o < 30) : (w.alloc (.cells bookCells t)).cell? ⟨w.heap.size, o, none⟩ = some (.slice none 0 0) := by
  rw [World.cell?_alloc_mark]
  have e : bookCells = (List.replicate 30 (Value.slice none 0 0)).toArray := rfl
  rw [e, List.getElem?_toArray, List.getElem?_replicate, if_pos h]
theorem fz_alloc (w : World) (c : Array Value) (t : TypeId) (j : Nat) : (w.alloc (.cells c t)).frozen? ⟨w.heap.size, j, none⟩ = false := by
  have h : (w.alloc (.cells c t)).heap[w.heap.size]? = some (.cells c t (0, 0)) := World.alloc_heap_new w _
  unfold World.frozen?
  simp only [h]
  simp
/-- Leases that are made by hand. -/
theorem ls_zero (w : World) : LsAt (w.alloc (.cells #[.map none, .int .i64 0] 32)) w.heap.size none [] 0 :=
  ⟨by rw [World.cell?_alloc_mark]; rfl, by rw [World.cell?_alloc_mark]; rfl, rfl, fun j => fz_alloc _ _ _ _, fun p hp => by simp at hp, ⟨fun p hp => by simp at hp, fun p hp => by simp at hp, fun p hp => by simp at hp, ⟨by decide, by decide⟩, by simp⟩, fun e => by cases e⟩
theorem rd_vec {va : Option Addr} {vn vc : Nat} {vs : List Int} (h : VecAt w va vn vc vs) : RdI w (.slice va vn vc) vs := by
  obtain ⟨h1, _, h2⟩ := h
  refine ⟨va, vc, by rw [h1], h2.imp (fun e => List.eq_nil_of_length_eq_zero (by omega)) id⟩
theorem VecAt.below {va : Option Addr} {vn vc : Nat} {vs : List Int} (h : VecAt w va vn vc vs) (hb : Below w.heap.size w w') : VecAt w' va vn vc vs := by
  obtain ⟨h1, h0, h2⟩ := h
  refine ⟨h1, h0, h2.imp id ?_⟩
  rintro ⟨b, off, ha, hlt, hc⟩
  exact ⟨b, off, ha, Nat.lt_of_lt_of_le hlt hb.size, fun i hi => (hb.cell (p := ⟨b, off + i, none⟩) hlt).trans (hc i hi)⟩
theorem src_vec {va : Option Addr} {vn vc : Nat} {vs : List Int} (h : VecAt w va vn vc vs) : Src eVec w (.slice va vn vc) vs := by
  obtain ⟨h1, h0, h2⟩ := h
  cases va with
  | none =>
    obtain ⟨rfl, rfl⟩ := h0 rfl
    exact .inl ⟨rfl, List.eq_nil_of_length_eq_zero h1⟩
  | some ad =>
    refine .inr ⟨ad, vc, by rw [h1], fun j u hj => ?_⟩
    have hjl : j < vs.length := by have := (List.getElem?_eq_some_iff.1 hj).1; rw [eVec.lens] at this; omega
    rcases h2 with h2 | ⟨b, off, ha, hlt, hc⟩
    · omega
    · injection ha with ha
      subst ha
      have h5 := eVec.get vs j 0 hjl (by omega)
      rw [Nat.mul_one, Nat.add_zero] at h5
      rw [h5] at hj
      rw [add_off, hc j hjl, ← hj]
      rfl
/-- A vector that came in, ahead of the world w0. -/
theorem rdx_vec {F : Nat → Prop} {va : Option Addr} {vn vc : Nat} {vs : List Int} (h : VecAt w0 va vn vc vs) (hb : Below w0.heap.size w0 w) (hF : ∀ q, q < w0.heap.size → ¬ F q) : RdX F w ⟨0, va, vc, vs, 0⟩ := by
  obtain ⟨h1, h0, h2⟩ := h
  rcases h2 with h2 | ⟨b, off, ha, hlt, hc⟩
  · exact .inl (List.eq_nil_of_length_eq_zero (by show vs.length = 0; omega))
  · exact .inr ⟨b, off, ha, hF b hlt, Nat.lt_of_lt_of_le hlt hb.size, fun i hi => (hb.cell (p := ⟨b, off + i, none⟩) hlt).trans (hc i hi)⟩
theorem Own.pre {g n cap : Nat} {vs us : List Int} {B : Nat} (h : Own eVec w B (.slice (some ⟨g, 0, none⟩) (n + 1) cap) (vs ++ us)) (hn : vs.length = n) (hu : us.length = 1) : Own eVec w B (.slice (some ⟨g, 0, none⟩) n cap) vs := by
  subst hn
  have h2 : w.ownsRow B 3 1 (.slice (some ⟨g, 0, none⟩) (vs.length + 1) cap) (vs.length + 1) (vs.flatMap (fun k : Int => [Value.int .i64 k]) ++ us.flatMap (fun k : Int => [Value.int .i64 k])) := by
    have := h
    unfold Own at this
    rw [List.length_append, hu, List.flatMap_append] at this
    exact this
  exact row_prefix h2 (eVec.lens vs)
end Go.Proofs.YtnegappgdpeabaaGreat
