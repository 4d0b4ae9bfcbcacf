
/-
  Merge: the walk of merge.merge.
-/
import Derived.Test.YtkeggcfnoonakaaGreatMgD
import Derived.IntWalk
import Derived.Deep.LoopGhost
set_option linter.unusedSimpArgs false
set_option linter.unusedVariables false
namespace Go.Proofs.YtkeggcfnoonakaaGreat
open Go.RowKit

/-- How merge ends. -/
def MergeEnd (L : List (List KV)) (w : World) (e : Ending) (w' : World) : Prop :=
  Below w.heap.size w w' ∧ (((∀ l ∈ L, Ris l) ∧ ∃ out v, e = .returned v ∧ Own eKV w' w.heap.size v out ∧ Laid L out ∧ out.length ≤ (L.map List.length).sum) ∨
    (¬ (∀ l ∈ L, Ris l) ∧ e = .panicked [{ v := .iface 43 (.int .i64 32), recovered := false }]))
theorem len_le_sum {L : List (List KV)} {l : List KV} (h : l ∈ L) : l.length ≤ (L.map List.length).sum := by
  induction L with
  | nil => simp at h
  | cons x L ih =>
    rw [List.map_cons, List.sum_cons]
    rcases List.mem_cons.1 h with rfl | h
    · omega
    · have := ih h; omega
theorem sum_take (L : List (List KV)) (i : Nat) (hi : i < L.length) : ((L.take (i + 1)).map List.length).sum = ((L.take i).map List.length).sum + L[i].length := by
  rw [List.take_succ_eq_append_getElem hi, List.map_append, List.sum_append]
  simp
/-- The loop over the lists. -/
structure BSt (w wr : World) (hb : Nat) (L : List (List KV)) (v : Value) (hs : List Hd) : Prop where
  h : HsAt w wr hb v hs
  b : Begun L hs
  few : tot hs ≤ (L.map List.length).sum
  len : hs.length ≤ L.length
  ris : ∀ l ∈ L, Ris l
theorem str_eq (a : ByteArray) : (a.toList == a.toList) = true := by simp
theorem str_ne {a b : ByteArray} (h : a ≠ b) : (a.toList == b.toList) = false := by
  refine beq_eq_false_iff_ne.2 (fun e => h ?_)
  rw [ByteArray.toList_eq, ByteArray.toList_eq] at e
  cases a with | mk a => cases b with | mk b =>
  exact congrArg ByteArray.mk (Array.toList_inj.1 e)
/-- One head more. -/
theorem HsAt.push {w w1 w5 : World} {hb : Nat} {v v' : Value} {hs : List Hd} {x : Hd} (h : HsAt w w1 hb v hs) (t1 : Tn (fun q => v.ownBlock = some q) w1 w5) (ho : Own eHd w5 w.heap.size v' (hs ++ [x])) (hv : v'.ownBlock = v.ownBlock ∨ ∃ q, v'.ownBlock = some q ∧ w1.heap.size ≤ q) (hr : RdP w x.a x.c x.l) (hf : hs.length + 1 ≤ 1000000) :
    HsAt w (w5.setCell ⟨hb, 0, none⟩ v') hb v' (hs ++ [x]) := by
  have hbl : hb < w1.heap.size := World.block_lt_of_cell? _ _ h.cell
  have hz := t1.size
  have hne : v'.ownBlock ≠ some hb := by
    rcases hv with e | ⟨q, e, hq⟩
    · rw [e]; exact h.apart
    · rw [e]; intro e2; injection e2 with e2; omega
  have hc5 := t1.cell h.cell h.apart
  have hb5 := Nat.lt_of_lt_of_le hbl hz
  have t2 : Tn (fun q => q = hb) w5 (w5.setCell ⟨hb, 0, none⟩ v') := Tn.setCell (F := fun q => q = hb) w5 ⟨hb, 0, none⟩ _ rfl
  refine ⟨(h.bel.trans (t1.below h.sz (fun q e => (h.own.lt q e).1))).trans (t2.below (Nat.le_trans h.sz hz) (fun q e => by subst e; exact h.lo)), Nat.le_trans (Nat.le_trans h.sz hz) t2.size, World.cell?_setCell_same _ _ _ hc5, ?_, h.lo, t2.row ho (fun q hq e => hne (by rw [hq, e])), hne, fun y hy => ?_, by simpa using hf⟩
  · rw [World.frozen?_setCell]
    exact (t1.frozen (p := ⟨hb, 0, none⟩) hbl h.apart).trans h.fz
  · rcases List.mem_append.1 hy with hy | hy
    · exact h.rd y hy
    · rw [List.mem_singleton] at hy
      subst hy
      exact hr
theorem tot_app (a b : List Hd) : tot (a ++ b) = tot a + tot b := by unfold tot; rw [List.map_append, List.sum_append]
theorem rdP_tail {w : World} {b off xc : Nat} {p : KV} {xs : List KV} (h : RdP w (some ⟨b, off, none⟩) xc (p :: xs)) : RdP w (if xc = 1 then some ⟨b, off, none⟩ else some ⟨b, off + 2, none⟩) (xc - 1) xs := by
  have h1 := h.1
  have h2 := h.2.1
  simp only [List.length_cons] at h1
  refine ⟨by omega, by omega, ?_⟩
  by_cases hx : xs = []
  · exact .inl hx
  · right
    have hl := List.length_pos_iff.2 hx
    obtain ⟨b', off', e, hc⟩ := h.2.2.resolve_left (by simp)
    injection e with e
    injection e with e1 e2
    subst e1 e2
    rw [if_neg (by omega)]
    refine ⟨b, off + 2, rfl, fun i hi => ?_⟩
    have := hc (i + 1) (by simp; omega)
    rw [show off + (i + 1) * 2 = off + 2 + i * 2 by omega] at this
    simpa using this
theorem min_of {x : Hd} {t : List Hd} (h : Hp 0 (x :: t).length (x :: t)) : ∀ y ∈ t, lessH y x = false := by
  intro y hy
  obtain ⟨k, hk, rfl⟩ := List.mem_iff_getElem.1 hy
  have := hp_root h (k + 1) (by simp; omega)
  rw [at_get (by simp; omega), at_get (by simp)] at this
  simpa using this
theorem pop_perm {a t : List Hd} {x : Hd} (h : (a ++ [x]).Perm (x :: t)) : a.Perm t :=
  ((List.perm_append_singleton x a).symm.trans h).cons_inv
theorem tot_cons (x : Hd) (t : List Hd) : tot (x :: t) = x.l.length + tot t := by simp [tot]
set_option maxRecDepth 100000 in
set_option maxHeartbeats 4000000 in
theorem merge_in {w : World} {a : Option Addr} {c : Nat} {L : List (List KV)} (hl : RdL w a L) (hlen : L.length ≤ 1000) (htot : (L.map List.length).sum ≤ 100000) :
    Calls Tryz.prog 23 #[.slice a L.length c] w (MergeEnd L w) := by
  obtain ⟨n, hn⟩ : ∃ n, n = L.length := ⟨_, rfl⟩
  rw [← hn] at hlen ⊢
  have HN := Lib.hid hn
  have H := Lib.hid (And.intro hl htot)
  clear hn hl htot
  have hcmp := compare_any
  go_enter Tryz.func23, Tryz.ntmps23
  go_wp2
  go_loopw [11] (fun y wr => ∃ i : Nat, i ≤ n ∧ y = .int .i64 (i : Int) ∧ ∃ v hs, BSt w wr w.heap.size (L.take i) v hs) (fun y _ => n - (intOf y).toNat)
  case atStart =>
    refine ⟨0, by omega, rfl, .slice none 0 0, [], ⟨⟨(Below.refl _ _).alloc (Nat.le_refl _) _, by simp, by simp [go_sem], by simp [go_sem], Nat.le_refl _, World.ownsRow_nil _ _ _ _, by simp [Value.ownBlock], fun h hh => by simp at hh, by simp⟩, Begun.nil, by simp [tot], by simp, fun l hl => by simp at hl⟩⟩
  case round =>
    obtain ⟨i, hi, rfl, v, hs, hb⟩ := hrel
    obtain ⟨wo, rfl⟩ : ∃ wo, wo = wr := ⟨_, rfl⟩
    have HB := Lib.hid hb
    clear hb
    by_cases hlt : i < n
    · have hil : i < L.length := by rw [← HN.out]; exact hlt
      obtain ⟨b, off, rfl, hc⟩ := H.out.1.resolve_left (fun e => by rw [e] at hil; simp at hil)
      obtain ⟨ai, ci, c0, hr⟩ := hc i hil
      have d0 := (HB.out.h.bel.cell (p := ⟨b, off + i, none⟩) (World.block_lt_of_cell? _ _ c0)).trans c0
      have hx5 : L[i].length ≤ 100000 := Nat.le_trans (len_le_sum (List.getElem_mem hil)) H.out.2
      have htk : L.take (i + 1) = L.take i ++ [L[i]] := List.take_succ_eq_append_getElem hil
      have hsm := sum_take L i hil
      obtain ⟨x, hx⟩ : ∃ x, L[i] = x := ⟨_, rfl⟩
      rw [hx] at d0 hr hx5 htk hsm
      obtain ⟨m, hm⟩ : ∃ m, x.length = m := ⟨_, rfl⟩
      rw [hm] at d0 hx5
      have HX := Lib.hid (And.intro hx (And.intro hm (And.intro hr (And.intro htk (And.intro c0 hsm)))))
      clear hx hm hr htk hc c0 hsm
      have r1 : (i : Int) < (n : Int) := by omega
      go_wp2
      go_loopw [6] (fun y wr => ∃ (k d : Nat), 1 ≤ k ∧ (k ≤ m ∨ k = 1) ∧ y = .int .i64 (k : Int) ∧ Ris (x.take k) ∧ wr = wo.drewN d) (fun y _ => m - (intOf y).toNat)
      case atStart => exact ⟨1, 0, by omega, .inr rfl, rfl, by
        cases x with
        | nil => simp [Ris]
        | cons p xs => simp [Ris], rfl⟩
      case round =>
        obtain ⟨k, d, hk1, hkm, rfl, hris, hwr⟩ := hrel
        have HR := Lib.hid hris
        have HW := Lib.hid hwr
        clear hris hwr
        by_cases hk : k < m
        · have hkl : k < x.length := by rw [HX.out.2.1]; exact hk
          obtain ⟨b2, off2, rfl, hcx⟩ := HX.out.2.2.1.2.2.resolve_left (fun e => by rw [e] at hkl; simp at hkl)
          obtain ⟨j, rfl⟩ : ∃ j, k = j + 1 := ⟨k - 1, by omega⟩
          have e0 := (hcx j (by omega)).1
          have e1 := (hcx (j + 1) hkl).1
          have f0 := (HB.out.h.bel.cell (p := ⟨b2, off2 + j * 2, none⟩) (World.block_lt_of_cell? _ _ e0)).trans e0
          have f0 : wr.cell? ⟨b2, off2 + j * 2, none⟩ = some (.string (x[j]'(by omega)).1) := by rw [HW.out]; exact f0
          have f1 := (HB.out.h.bel.cell (p := ⟨b2, off2 + (j + 1) * 2, none⟩) (World.block_lt_of_cell? _ _ e1)).trans e1
          have f1 : wr.cell? ⟨b2, off2 + (j + 1) * 2, none⟩ = some (.string x[j + 1].1) := by rw [HW.out]; exact f1
          obtain ⟨q, hq⟩ : ∃ q, kc (x[j]'(by omega)).1 x[j + 1].1 = q := ⟨_, rfl⟩
          obtain ⟨k0, hk0⟩ : ∃ z, (x[j]'(by omega)).1 = z := ⟨_, rfl⟩
          obtain ⟨k1, hk1'⟩ : ∃ z, x[j + 1].1 = z := ⟨_, rfl⟩
          have hcmp2 := hcmp k0 k1
          have HQ := Lib.hid hq
          rw [hk0] at f0 hq
          rw [hk1'] at f1 hq
          rw [hq] at hcmp2
          have z2 : (j : Int) < (m : Int) := by omega
          have z3 : (j : Int) + 1 < (m : Int) := by omega
          have z4 : (0 : Int) ≤ (j : Int) + 1 := by omega
          have z5 : ((j : Int) + 1).toNat = j + 1 := by omega
          have z1 : IntKind.i64.wrap (j : Int) = (j : Int) := IntWalk.i64_in _ (by omega)
          clear hcx e0 e1 hq hk0 hk1'
          by_cases hq0 : 0 ≤ q
          · go_wp2_with fail
            go_quiet ((go_at_call 89; exact Calls.quiet_of_same (hcmp2 _)))
            clear z1 z5
            go_wp2_with fail
            refine ⟨rfl, ?_, .inr ⟨fun hall => ris_not (k := j + 1) (by omega) hkl (by show 0 ≤ kc (x[j]'(by omega)).1 x[j + 1].1; rw [HQ.out]; exact hq0) (by rw [← HX.out.1]; exact hall _ (List.getElem_mem hil)), rfl⟩⟩
            rw [HW.out]
            exact HB.out.h.bel.trans ((((tn_drewN (F := fun _ => False) wo d).trans (tn_drewN _ _)).below (Nat.le_refl _) (fun _ e => e.elim)).mono HB.out.h.sz)
          · go_wp2_with fail
            go_quiet ((go_at_call 89; exact Calls.quiet_of_same (hcmp2 _)))
            clear z1 z5
            go_wp2_with fail
            go_roundw
            case rel => exact ⟨j + 2, _, by omega, .inl (by omega), by go_num, ris_step (k := j + 1) (by omega) hkl HR.out (by show kc (x[j]'(by omega)).1 x[j + 1].1 < 0; rw [HQ.out]; omega), by rw [HW.out]; exact World.drewN_drewN _ _ _⟩
            case measure => simp [intOf]; omega
        · have hrx : Ris x := by
            have h1 := HR.out
            rcases hkm with h2 | h2
            · obtain rfl : k = m := by omega
              rwa [← HX.out.2.1, List.take_length] at h1
            · have h3 := HX.out.2.1
              match x, h3 with
              | [], _ => exact List.Pairwise.nil
              | [p], _ => exact List.pairwise_singleton _ _
              | p :: q :: l, h3 => simp at h3; omega
          have HRX := Lib.hid hrx
          clear hrx
          have z2 : ¬ (k : Int) < (m : Int) := by omega
          by_cases hm0 : m = 0
          · subst hm0
            have hx0 : x = [] := List.eq_nil_of_length_eq_zero HX.out.2.1
            have HX0 := Lib.hid hx0
            clear hx0
            go_wp2_with fail
            go_roundw
            case rel =>
              refine ⟨i + 1, by omega, by go_num, v, hs, ?_⟩
              rw [HW.out, HX.out.2.2.2.1, HX0.out]
              have h1 := HB.out
              refine ⟨h1.h.drewN d, h1.b.skip, by rw [List.map_append, List.sum_append]; have := h1.few; omega, by rw [List.length_append]; have := h1.len; omega, fun l hl => ?_⟩
              rcases List.mem_append.1 hl with hl | hl
              · exact h1.ris l hl
              · rw [List.mem_singleton] at hl
                subst hl
                exact List.Pairwise.nil
            case measure => simp [intOf]; omega
          · obtain ⟨va, vc, rfl⟩ : ∃ va vc, v = .slice va hs.length vc := by
              obtain ⟨a, c, e, _⟩ := row_form HB.out.h.own
              exact ⟨_, _, e⟩
            have hz2 : (0 : Int) < (m : Int) := by omega
            have hcv : wr.cell? ⟨w.heap.size, 0, none⟩ = some (.slice va hs.length vc) := by rw [HW.out]; exact HB.out.h.cell
            have hfv : wr.frozen? ⟨w.heap.size, 0, none⟩ = false := by rw [HW.out]; exact HB.out.h.fz
            have hH : HsAt w wr w.heap.size (.slice va hs.length vc) hs := by rw [HW.out]; exact HB.out.h.drewN d
            have hl9 : hs.length ≤ 1000 := by have := HB.out.len; rw [List.length_take] at this; omega
            obtain ⟨vn, hvn⟩ : ∃ vn, hs.length = vn := ⟨_, rfl⟩
            have HO := Lib.hid (And.intro hH.own (And.intro hvn (And.intro hH hl9)))
            rw [hvn] at hcv HO
            have hwz := hH.sz
            have hsrc : Src eHd (wr.alloc (.cells #[.slice ai m ci, .int .i64 (i : Int)] 91)) (.slice (some ⟨wr.heap.size, 0, none⟩) 1 1) [(⟨x, i, ai, ci⟩ : Hd)] := src_one wr _ _ _ (by show [Value.slice ai x.length ci, .int .i64 (i : Int)] = _; rw [HX.out.2.1]) 1
            have HSR := Lib.hid hsrc
            have HLE : Hid (hs.length + ([⟨x, i, ai, ci⟩] : List Hd).length ≤ 100000000) := by unfold Hid; have := HO.out.2.2.2; simp; omega
            have hbw : w.heap.size < wr.heap.size := World.block_lt_of_cell? _ _ hcv
            clear hsrc hH hvn hl9
            go_wp2_with (at_builtin; go_loud (refine wpl_app eHd rfl (.tmp 39) (.tmp 43) rfl rfl rfl (l := hs) (l2 := [⟨x, i, ai, ci⟩]) (HO.out.1.alloc _) HSR.out HLE.out (by simp; omega) ?_); intro a5 cap5 w5 ho5 hb5 hg5 hv5; have t5 := (Tn.alloc (F := fun q => (Value.slice va vn vc).ownBlock = some q) wr (.cells #[.slice ai m ci, .int .i64 (i : Int)] 91)).trans (Tn.ofGrown hg5 (fun k e => e)); have hc5 := t5.cell hcv HO.out.2.2.1.apart; have hf5 := (t5.frozen (p := ⟨w.heap.size, 0, none⟩) hbw HO.out.2.2.1.apart).trans hfv; have H5 := Lib.hid (And.intro ho5 (And.intro t5 hv5)); clear ho5 hb5 hg5 hv5 t5 hcv hfv)
            go_roundw
            case rel =>
              refine ⟨i + 1, by omega, by go_num, .slice a5 (hs.length + 1) cap5, hs ++ [⟨x, i, ai, ci⟩], ?_⟩
              have h1 := HB.out
              have h2 := HX.out.2.2.2.1
              rw [h2]
              have hxn : x ≠ [] := fun e => hm0 (by rw [← HX.out.2.1, e]; rfl)
              have hti : (L.take i).length = i := by rw [List.length_take]; omega
              refine ⟨?_, ?_, ?_, ?_, ?_⟩
              · refine HsAt.push HO.out.2.2.1 H5.out.2.1 H5.out.1 ?_ HX.out.2.2.1 (by have := h1.len; omega)
                rcases H5.out.2.2 with e | e
                · exact .inl e
                · exact .inr ⟨_, e, by simp⟩
              · have := h1.b.snoc hxn ai ci
                rw [hti] at this
                exact this
              · rw [tot_app, ← h2, HX.out.2.2.2.2.2]
                have := h1.few
                have e : tot [(⟨x, i, ai, ci⟩ : Hd)] = x.length := by simp [tot]
                omega
              · have := h1.len
                simp only [List.length_append, List.length_cons, List.length_nil]
                omega
              · intro l hl
                rcases List.mem_append.1 hl with hl | hl
                · exact h1.ris l hl
                · rw [List.mem_singleton] at hl
                  subst hl
                  exact HRX.out
            case measure => simp [intOf]; omega
    · obtain rfl : i = n := by omega
      have hfull : L.take i = L := by rw [HN.out]; exact List.take_length
      have hb := HB.out
      rw [hfull] at hb
      have hne : ∀ k, k < hs.length → (at_ hs k).l ≠ [] := fun k hk => (hb.b.1 _ (at_mem hk)).2
      have hin := init_any hb.h hne
      have HB2 := Lib.hid (And.intro hb hin)
      clear hb hin hne hfull HB hcmp
      go_wp2_with fail
      refine HB2.out.2.mono ?_
      rintro e w2 ⟨rfl, h2, hs2, p2, hp2, t2⟩
      have hl2 := p2.length_eq
      rw [← hl2] at hp2
      have hm : MSt w w2 w.heap.size L (L.map List.length).sum v (.slice none 0 0) h2 [] :=
        ⟨hs2, hp2, fun x hx => (HB2.out.1.b.1 x (p2.mem_iff.1 hx)).2, World.ownsRow_nil _ _ _ _, fun q hq => by simp [Value.ownBlock] at hq, (Inv.start HB2.out.1.b).perm p2, by rw [tot_perm p2]; simpa using HB2.out.1.few⟩
      have HM := Lib.hid (And.intro hm HB2.out.1.ris)
      clear hm hs2 p2 hp2 t2 hl2 HB2
      go_wp2_with fail
      go_loopg [7] ((L.map List.length).sum) (fun g y wr => ∃ v2 h3 out, MSt w wr w.heap.size L (L.map List.length).sum v2 y h3 out ∧ tot h3 ≤ g)
      case atStart => exact ⟨v, h2, [], HM.out.1, by have := HM.out.1.few; omega⟩
      case round =>
        obtain ⟨v2, h3, out, hm, hg⟩ := hrel
        have hfew := hm.few
        have htl := H.out.2
        obtain ⟨va, vc, rfl, _⟩ := row_form hm.h.own
        obtain ⟨oa, oc, rfl, _⟩ := row_form hm.own
        have hcv := hm.h.cell
        by_cases h0 : h3 = []
        · subst h0
          have HM3 := Lib.hid hm
          clear hm hg
          go_wp2_with fail
          go_ret
          exact ⟨HM3.out.h.bel, .inl ⟨HM.out.2, out, _, rfl, HM3.out.own, HM3.out.inv.done, by omega⟩⟩
        · obtain ⟨⟨xl, xn, xa, xc⟩, t, rfl⟩ := List.exists_cons_of_ne_nil h0
          obtain ⟨p, xs, rfl⟩ := List.exists_cons_of_ne_nil (hm.ne _ (List.mem_cons_self))
          obtain ⟨g, cap, e, _, hgB, hgl, i1, i2, f1, f2⟩ := hd_cells hm.h.own (i := 0) (by simp)
          injection e with e1 e2 e3
          subst e1 e3
          have hrd := hm.h.rd _ (List.mem_cons_self)
          obtain ⟨b, off, hxa, hxc⟩ := hrd.2.2.resolve_left (by simp)
          simp only at hxa
          subst hxa
          have c0 := (hxc 0 (by simp)).1
          have c1 := (hxc 0 (by simp)).2
          have d0 := (hm.h.bel.cell (p := ⟨b, off + 0 * 2, none⟩) (World.block_lt_of_cell? _ _ c0)).trans c0
          have d1 := (hm.h.bel.cell (p := ⟨b, off + 0 * 2 + 1, none⟩) (World.block_lt_of_cell? _ _ c1)).trans c1
          simp only [List.getElem_cons_zero, Nat.zero_mul, Nat.add_zero, Nat.zero_add, Hd.v, List.length_cons] at i1 i2 f1 f2 d0 d1
          obtain ⟨kp, vp⟩ := p
          simp only at d0 d1
          simp only [List.length_cons] at hcv
          have hbw : g < wr.heap.size := hgl
          have HM3 := Lib.hid (And.intro hm (And.intro hg (And.intro hrd (And.intro hxc (And.intro h0 hfew)))))
          clear hm hg hrd hxc c0 c1 h0 hfew
          have z1 : (0 : Int) < ((t.length : Int) + 1) := by omega
          obtain ⟨w4, hw4⟩ : ∃ w4, w4 = wr.alloc (.cells #[.string kp, .string vp] 54) := ⟨_, rfl⟩
          have t4 : Tn (fun q => (Value.slice oa out.length oc).ownBlock = some q) wr w4 := by rw [hw4]; exact Tn.alloc _ _
          have p0 : w4.cell? ⟨wr.heap.size, 0, none⟩ = some (.string kp) := by rw [hw4]; simp [go_sem]
          have p1 : w4.cell? ⟨wr.heap.size, 1, none⟩ = some (.string vp) := by rw [hw4]; simp [go_sem]
          have T4 := Lib.hid t4
          clear t4
          -- GENERATED
          obtain ⟨a', ha'⟩ : ∃ a', (if xc = 1 then (some ⟨b, off, none⟩ : Option Addr) else some ⟨b, off + 2, none⟩) = a' := ⟨_, rfl⟩
          have HA := Lib.hid (And.intro (by have := rdP_tail HM3.out.2.2.1; rw [ha'] at this; exact this : RdP w a' (xc - 1) xs) ha')
          have hxc := HM3.out.2.2.1.1
          have hxc2 := HM3.out.2.2.1.2.1
          simp only [List.length_cons] at hxc
          have hgh : ¬ g = w.heap.size := fun e => HM3.out.1.h.apart (by rw [← e]; rfl)
          have hhg : ¬ w.heap.size = g := fun e => hgh e.symm
          have hz4 : w.heap.size ≤ w4.heap.size := by rw [hw4]; have := HM3.out.1.h.sz; simp; omega
          clear ha'
          by_cases ho0 : out = []
          · subst ho0
            have hO4 : Own eKV w4 w.heap.size (.slice oa 0 oc) [] := by rw [hw4]; exact World.ownsRow.alloc HM3.out.1.own _
            have O4 := Lib.hid hO4
            have HLE : Hid (([] : List KV).length + [(kp, vp)].length ≤ 100000000) := by unfold Hid; simp
            clear hO4
            go_wp2_with fail
            rw [← hw4]
            clear hw4
            go_quiet (fail)
            go_wp2_with (at_builtin; go_loud (refine wpl_app eKV rfl (.tmp 72) (.tmp 74) rfl rfl rfl (l := []) (l2 := [(kp, vp)]) (World.ownsRow.alloc O4.out _) (src_one _ (kp, vp) _ _ rfl 1) HLE.out (by simp; omega) ?_); intro a5 cap5 w5 ho5 hb5 hg5 hv5; have t5 := T4.out.trans (((tn_drewN _ _).trans (Tn.alloc _ _)).trans (Tn.ofGrown hg5 (fun k e => e))); have hc5 := t5.cell hcv (fun e => HM3.out.1.apart _ e (.inl rfl)); have ic5 := t5.cell i1 (fun e => HM3.out.1.apart _ e (.inr rfl)); have if5 := (t5.frozen (p := ⟨g, 0, none⟩) hbw (fun e => HM3.out.1.apart _ e (.inr rfl))).trans f1; have H5 := Lib.hid (And.intro ho5 (And.intro t5 hv5)); clear ho5 hb5 hg5 hv5 t5 hcv i1 f1)
            have hv5 : ∀ q, (Value.slice a5 (0 + 1) cap5).ownBlock = some q → (Value.slice oa 0 oc).ownBlock = some q ∨ wr.heap.size ≤ q := by
              intro q hq
              rcases H5.out.2.2 with e | e
              · exact .inl (by rw [← hq]; exact e.symm)
              · right
                have e2 : (Value.slice a5 (0 + 1) cap5).ownBlock = some _ := e
                rw [hq] at e2
                injection e2 with e2
                rw [e2]
                have := T4.out.size
                simp
                omega
            have hemit : ([] ++ [(kp, vp)] : List KV) = emit [] (kp, vp) := rfl
            have ST := Lib.hid (And.intro H5.out.2.1 (And.intro H5.out.1 (And.intro hv5 hemit)))
            clear hv5 H5 hemit
            go_region
            rw [HA.out.2]
            have hsh := HM3.out.1.shift ST.out.1 ST.out.2.1 ST.out.2.2.1 a' (xc - 1) 1 HA.out.1
            have hinv := HM3.out.1.inv.step HM.out.2 a' (xc - 1) (fun y hy => HM3.out.1.ne y (List.mem_cons_of_mem _ hy)) (min_of HM3.out.1.hp)
            rw [← ST.out.2.2.2] at hinv
            have hlen2 := emit_len ([] : List KV) (kp, vp)
            rw [← ST.out.2.2.2] at hlen2
            have SH := Lib.hid (And.intro hsh (And.intro hinv hlen2))
            clear hsh hinv hlen2
            cases xs with
            | nil =>
              have hpop := hpop_any SH.out.1.1 (n := t.length) rfl (fun k h1 h2 => by
                obtain ⟨j, rfl⟩ : ∃ j, k = j + 1 := ⟨k - 1, by omega⟩
                rw [at_get (by simp; omega)]
                exact HM3.out.1.ne _ (List.mem_cons_of_mem _ (by simp))) (hp_swap HM3.out.1.hp)
              have HP := Lib.hid hpop
              clear hpop
              go_wp2_with fail
              refine HP.out.mono ?_
              rintro e w6 ⟨⟨y6, rfl⟩, ms6, v6, h6, p6, hp6, hl6, hv6, t6⟩
              have H6 := Lib.hid (And.intro h6 (And.intro (pop_perm p6) (And.intro hp6 (And.intro hl6 (And.intro hv6 t6)))))
              clear h6 p6 hp6 hl6 hv6 t6
              go_wp2_with fail
              go_roundg (tot ms6)
              case measure =>
                have h1 := HM3.out.2.1
                have h2 := tot_perm H6.out.2.1
                rw [tot_cons] at h1
                simp only [List.length_cons] at h1
                omega
              case rel =>
                refine ⟨v6, ms6, _, ⟨H6.out.1, by rw [H6.out.2.2.2.1]; exact H6.out.2.2.1, fun x hx => HM3.out.1.ne x (List.mem_cons_of_mem _ (H6.out.2.1.mem_iff.1 hx)), H6.out.2.2.2.2.2.row SH.out.1.2.1 (fun q hq hf => SH.out.1.2.2 q hq hf), fun q hq hf => SH.out.1.2.2 q hq (by rw [foot_eq H6.out.2.2.2.2.1] at hf; exact hf), ?_, ?_⟩, Nat.le_refl _⟩
                · have h1 := SH.out.2.1
                  unfold rest at h1
                  rw [if_pos rfl] at h1
                  exact h1.perm H6.out.2.1
                · have h1 := HM3.out.1.few
                  have h2 := SH.out.2.2
                  rw [tot_perm H6.out.2.1]
                  rw [tot_cons] at h1
                  simp only [List.length_cons, List.length_nil] at h1 h2 ⊢
                  omega
            | cons x0 xs =>
              have hfix := fix_any SH.out.1.1 (fun k hk => by
                cases k with
                | zero => rw [at_get hk]; simp
                | succ j =>
                  rw [at_get hk]
                  exact HM3.out.1.ne _ (List.mem_cons_of_mem _ (by simp))) (hp_swap HM3.out.1.hp)
              have HP := Lib.hid hfix
              clear hfix
              have zl : (0 : Int) < ((xs.length : Int) + 1) := by omega
              have zl2 : (((xs.length : Int) + 1) == 0) = false := beq_eq_false_iff_ne.2 (by omega)
              go_wp2_with fail
              refine HP.out.mono ?_
              rintro e w6 ⟨rfl, ms6, h6, p6, hp6, t6⟩
              have H6 := Lib.hid (And.intro h6 (And.intro p6 (And.intro hp6 t6)))
              clear h6 p6 hp6 t6
              go_wp2_with fail
              go_roundg (tot ms6)
              case measure =>
                have h1 := HM3.out.2.1
                have h2 := tot_perm H6.out.2.1
                rw [tot_cons] at h1 h2
                simp only [List.length_cons] at h1 h2
                omega
              case rel =>
                refine ⟨_, ms6, _, ⟨H6.out.1, by rw [H6.out.2.1.length_eq]; exact H6.out.2.2.1, fun x hx => ?_, H6.out.2.2.2.row SH.out.1.2.1 (fun q hq hf => SH.out.1.2.2 q hq hf), SH.out.1.2.2, ?_, ?_⟩, Nat.le_refl _⟩
                · rcases List.mem_cons.1 (H6.out.2.1.mem_iff.1 hx) with rfl | hx
                  · simp
                  · exact HM3.out.1.ne x (List.mem_cons_of_mem _ hx)
                · have h1 := SH.out.2.1
                  unfold rest at h1
                  rw [if_neg (by simp)] at h1
                  exact h1.perm H6.out.2.1
                · have h1 := HM3.out.1.few
                  have h2 := SH.out.2.2
                  rw [tot_perm H6.out.2.1]
                  rw [tot_cons] at h1 ⊢
                  simp only [List.length_cons, List.length_nil] at h1 h2 ⊢
                  omega
          · obtain ⟨ys, q, rfl⟩ : ∃ ys q, out = ys ++ [q] := by
              rcases List.eq_nil_or_concat out with h | ⟨l, y, h⟩
              · exact absurd h ho0
              · exact ⟨l, y, by rw [h, List.concat_eq_append]⟩
            have hol : (ys ++ [q]).length = ys.length + 1 := by simp
            obtain ⟨og, oc2, e, _, _, hog, q0, _⟩ := kv_cells HM3.out.1.own (i := ys.length) (by simp)
            injection e with e1 e2 e3
            subst e1 e3
            have e9 : (ys ++ [q])[ys.length]'(by simp) = q := by simp
            rw [e9] at q0
            have q4 : w4.cell? ⟨og, ys.length * 2, none⟩ = some (.string q.1) := by
              rw [hw4, World.cell?_alloc_past _ _ _ hog]
              exact q0
            have hO4 : Own eKV w4 w.heap.size (.slice (some ⟨og, 0, none⟩) (ys ++ [q]).length oc) (ys ++ [q]) := by rw [hw4]; exact World.ownsRow.alloc HM3.out.1.own _
            have O4 := Lib.hid hO4
            have hyl : ys.length ≤ 100000 := by have := HM3.out.1.few; omega
            have HLE : Hid ((ys ++ [q]).length + [(kp, vp)].length ≤ 100000000) := by unfold Hid; simp; omega
            obtain ⟨M, hM⟩ : ∃ M, ys.length = M := ⟨_, rfl⟩
            have hem : emit (ys ++ [q]) (kp, vp) = if q.1 = kp then ys ++ [q] else ys ++ [q] ++ [(kp, vp)] := by
              unfold emit
              rw [List.getLast?_eq_some_iff.2 ⟨ys, rfl⟩]
            have HEM := Lib.hid hem
            rw [hM] at q4 hyl hol
            have HOL := Lib.hid (And.intro hol hM)
            rw [hol] at O4
            obtain ⟨kq, hkq⟩ : ∃ kq, q.1 = kq := ⟨_, rfl⟩
            rw [hkq] at q4
            have HKQ := Lib.hid hkq
            have y1 : (0 : Int) ≤ (M : Int) := by omega
            have y2 : (M : Int) < (M : Int) + 1 := by omega
            have y3 : IntKind.i64.wrap (M : Int) = (M : Int) := IntWalk.i64_in _ (by omega)
            have y4 : (((M : Int) + 1) == 0) = false := beq_eq_false_iff_ne.2 (by omega)
            have y5 : ((M + 1) == 0) = false := rfl
            clear hO4 hem ho0 q0 e9 hkq hog e2
            by_cases hk : kq = kp
            · subst hk
              have se := str_eq kq
              have se2 : (kq.toList != kq.toList) = false := by simp
              rw [hol]
              clear hM hol
              go_wp2_with fail
              rw [← hw4]
              clear hw4
              go_quiet (fail)
              clear y3
              go_wp2_with fail
              obtain ⟨w5, hw5⟩ : ∃ w5, w5 = w4.drewN nq := ⟨_, rfl⟩
              rw [← hw5]
              have t5 : Tn (fun x => (Value.slice (some ⟨og, 0, none⟩) (ys ++ [q]).length oc).ownBlock = some x) wr w5 := by rw [hw5]; exact T4.out.trans (tn_drewN _ _)
              have hc5 := t5.cell hcv (fun e => HM3.out.1.apart _ e (.inl rfl))
              have ic5 := t5.cell i1 (fun e => HM3.out.1.apart _ e (.inr rfl))
              have if5 := (t5.frozen (p := ⟨g, 0, none⟩) hbw (fun e => HM3.out.1.apart _ e (.inr rfl))).trans f1
              have ho5 : Own eKV w5 w.heap.size (.slice (some ⟨og, 0, none⟩) (M + 1) oc) (ys ++ [q]) := by rw [hw5]; exact O4.out
              have hemit : ys ++ [q] = emit (ys ++ [q]) (kq, vp) := by rw [HEM.out, if_pos HKQ.out]
              have hv5 : ∀ x, (Value.slice (some ⟨og, 0, none⟩) (M + 1) oc).ownBlock = some x → (Value.slice (some ⟨og, 0, none⟩) (ys ++ [q]).length oc).ownBlock = some x ∨ wr.heap.size ≤ x := fun x hx => .inl hx
              have ST := Lib.hid (And.intro t5 (And.intro ho5 (And.intro hv5 hemit)))
              clear hw5 t5 ho5 hv5 hemit hcv i1 f1
              go_region
              rw [HA.out.2]
              have hsh := HM3.out.1.shift ST.out.1 ST.out.2.1 ST.out.2.2.1 a' (xc - 1) 1 HA.out.1
              have hinv := HM3.out.1.inv.step HM.out.2 a' (xc - 1) (fun y hy => HM3.out.1.ne y (List.mem_cons_of_mem _ hy)) (min_of HM3.out.1.hp)
              rw [← ST.out.2.2.2] at hinv
              have hlen2 := emit_len (ys ++ [q]) (kq, vp)
              rw [← ST.out.2.2.2] at hlen2
              have SH := Lib.hid (And.intro hsh (And.intro hinv hlen2))
              clear hsh hinv hlen2
              cases xs with
              | nil =>
                have hpop := hpop_any SH.out.1.1 (n := t.length) rfl (fun k h1 h2 => by
                  obtain ⟨j, rfl⟩ : ∃ j, k = j + 1 := ⟨k - 1, by omega⟩
                  rw [at_get (by simp; omega)]
                  exact HM3.out.1.ne _ (List.mem_cons_of_mem _ (by simp))) (hp_swap HM3.out.1.hp)
                have HP := Lib.hid hpop
                clear hpop
                go_wp2_with fail
                refine HP.out.mono ?_
                rintro e w6 ⟨⟨y6, rfl⟩, ms6, v6, h6, p6, hp6, hl6, hv6, t6⟩
                have H6 := Lib.hid (And.intro h6 (And.intro (pop_perm p6) (And.intro hp6 (And.intro hl6 (And.intro hv6 t6)))))
                clear h6 p6 hp6 hl6 hv6 t6
                go_wp2_with fail
                go_roundg (tot ms6)
                case measure =>
                  have h1 := HM3.out.2.1
                  have h2 := tot_perm H6.out.2.1
                  rw [tot_cons] at h1
                  simp only [List.length_cons] at h1
                  omega
                case rel =>
                  refine ⟨v6, ms6, _, ⟨H6.out.1, by rw [H6.out.2.2.2.1]; exact H6.out.2.2.1, fun x hx => HM3.out.1.ne x (List.mem_cons_of_mem _ (H6.out.2.1.mem_iff.1 hx)), H6.out.2.2.2.2.2.row SH.out.1.2.1 (fun q hq hf => SH.out.1.2.2 q hq hf), fun q hq hf => SH.out.1.2.2 q hq (by rw [foot_eq H6.out.2.2.2.2.1] at hf; exact hf), ?_, ?_⟩, Nat.le_refl _⟩
                  · have h1 := SH.out.2.1
                    unfold rest at h1
                    rw [if_pos rfl] at h1
                    exact h1.perm H6.out.2.1
                  · have h1 := HM3.out.1.few
                    have h2 := SH.out.2.2
                    rw [tot_perm H6.out.2.1]
                    rw [tot_cons] at h1
                    simp only [List.length_cons, List.length_nil] at h1 h2 ⊢
                    omega
              | cons x0 xs =>
                have hfix := fix_any SH.out.1.1 (fun k hk => by
                  cases k with
                  | zero => rw [at_get hk]; simp
                  | succ j =>
                    rw [at_get hk]
                    exact HM3.out.1.ne _ (List.mem_cons_of_mem _ (by simp))) (hp_swap HM3.out.1.hp)
                have HP := Lib.hid hfix
                clear hfix
                have zl : (0 : Int) < ((xs.length : Int) + 1) := by omega
                have zl2 : (((xs.length : Int) + 1) == 0) = false := beq_eq_false_iff_ne.2 (by omega)
                go_wp2_with fail
                refine HP.out.mono ?_
                rintro e w6 ⟨rfl, ms6, h6, p6, hp6, t6⟩
                have H6 := Lib.hid (And.intro h6 (And.intro p6 (And.intro hp6 t6)))
                clear h6 p6 hp6 t6
                go_wp2_with fail
                go_roundg (tot ms6)
                case measure =>
                  have h1 := HM3.out.2.1
                  have h2 := tot_perm H6.out.2.1
                  rw [tot_cons] at h1 h2
                  simp only [List.length_cons] at h1 h2
                  omega
                case rel =>
                  refine ⟨_, ms6, _, ⟨H6.out.1, by rw [H6.out.2.1.length_eq]; exact H6.out.2.2.1, fun x hx => ?_, H6.out.2.2.2.row SH.out.1.2.1 (fun q hq hf => SH.out.1.2.2 q hq hf), SH.out.1.2.2, ?_, ?_⟩, Nat.le_refl _⟩
                  · rcases List.mem_cons.1 (H6.out.2.1.mem_iff.1 hx) with rfl | hx
                    · simp
                    · exact HM3.out.1.ne x (List.mem_cons_of_mem _ hx)
                  · have h1 := SH.out.2.1
                    unfold rest at h1
                    rw [if_neg (by simp)] at h1
                    exact h1.perm H6.out.2.1
                  · have h1 := HM3.out.1.few
                    have h2 := SH.out.2.2
                    rw [tot_perm H6.out.2.1]
                    rw [tot_cons] at h1 ⊢
                    simp only [List.length_cons, List.length_nil] at h1 h2 ⊢
                    omega
            · have se := str_ne hk
              have se2 : (kq.toList != kp.toList) = true := by simpa [bne] using se
              rw [hol]
              clear hM hol
              go_wp2_with fail
              rw [← hw4]
              clear hw4
              go_quiet (fail)
              clear y3
              go_wp2_with (at_builtin; go_loud (refine wpl_app eKV rfl (.tmp 72) (.tmp 74) rfl rfl rfl (l := ys ++ [q]) (l2 := [(kp, vp)]) (World.ownsRow.alloc O4.out _) (src_one _ (kp, vp) _ _ rfl 1) HLE.out (by simp; omega) ?_); intro a5 cap5 w5 ho5 hb5 hg5 hv5; have t5 := T4.out.trans (((tn_drewN _ _).trans (Tn.alloc _ _)).trans (Tn.ofGrown hg5 (fun k e => e))); have hc5 := t5.cell hcv (fun e => HM3.out.1.apart _ e (.inl rfl)); have ic5 := t5.cell i1 (fun e => HM3.out.1.apart _ e (.inr rfl)); have if5 := (t5.frozen (p := ⟨g, 0, none⟩) hbw (fun e => HM3.out.1.apart _ e (.inr rfl))).trans f1; have H5 := Lib.hid (And.intro ho5 (And.intro t5 hv5)); clear ho5 hb5 hg5 hv5 t5 hcv i1 f1)
              have ho5 : Own eKV w5 w.heap.size (.slice a5 (ys.length + 1 + 1) cap5) (ys ++ [q] ++ [(kp, vp)]) := by
                have h1 := H5.out.1
                have h2 : (ys ++ [q]).length + ([(kp, vp)] : List KV).length = ys.length + 1 + 1 := by simp
                rw [h2] at h1
                exact h1
              have hv5 : ∀ x, (Value.slice a5 (ys.length + 1 + 1) cap5).ownBlock = some x → (Value.slice (some ⟨og, 0, none⟩) (ys ++ [q]).length oc).ownBlock = some x ∨ wr.heap.size ≤ x := by
                intro x hx
                have h2 : (ys ++ [q]).length + ([(kp, vp)] : List KV).length = ys.length + 1 + 1 := by simp
                have h3 := H5.out.2.2
                rw [h2] at h3
                rcases h3 with e | e
                · have e4 : (Value.slice a5 (ys.length + 1 + 1) cap5).ownBlock = (Value.slice (some ⟨og, 0, none⟩) (M + 1) oc).ownBlock := e
                  exact .inl (by rw [← hx, e4]; rfl)
                · right
                  have e2 := e
                  rw [hx] at e2
                  injection e2 with e2
                  rw [e2]
                  have := T4.out.size
                  simp
                  omega
              have hemit : ys ++ [q] ++ [(kp, vp)] = emit (ys ++ [q]) (kp, vp) := by rw [HEM.out, if_neg (by rw [HKQ.out]; exact hk)]
              have ST := Lib.hid (And.intro H5.out.2.1 (And.intro ho5 (And.intro hv5 hemit)))
              clear ho5 hv5 H5 hemit
              go_region
              rw [HA.out.2]
              have hsh := HM3.out.1.shift ST.out.1 ST.out.2.1 ST.out.2.2.1 a' (xc - 1) 1 HA.out.1
              have hinv := HM3.out.1.inv.step HM.out.2 a' (xc - 1) (fun y hy => HM3.out.1.ne y (List.mem_cons_of_mem _ hy)) (min_of HM3.out.1.hp)
              rw [← ST.out.2.2.2] at hinv
              have hlen2 := emit_len (ys ++ [q]) (kp, vp)
              rw [← ST.out.2.2.2] at hlen2
              have SH := Lib.hid (And.intro hsh (And.intro hinv hlen2))
              clear hsh hinv hlen2
              cases xs with
              | nil =>
                have hpop := hpop_any SH.out.1.1 (n := t.length) rfl (fun k h1 h2 => by
                  obtain ⟨j, rfl⟩ : ∃ j, k = j + 1 := ⟨k - 1, by omega⟩
                  rw [at_get (by simp; omega)]
                  exact HM3.out.1.ne _ (List.mem_cons_of_mem _ (by simp))) (hp_swap HM3.out.1.hp)
                have HP := Lib.hid hpop
                clear hpop
                go_wp2_with fail
                refine HP.out.mono ?_
                rintro e w6 ⟨⟨y6, rfl⟩, ms6, v6, h6, p6, hp6, hl6, hv6, t6⟩
                have H6 := Lib.hid (And.intro h6 (And.intro (pop_perm p6) (And.intro hp6 (And.intro hl6 (And.intro hv6 t6)))))
                clear h6 p6 hp6 hl6 hv6 t6
                go_wp2_with fail
                go_roundg (tot ms6)
                case measure =>
                  have h1 := HM3.out.2.1
                  have h2 := tot_perm H6.out.2.1
                  rw [tot_cons] at h1
                  simp only [List.length_cons] at h1
                  omega
                case rel =>
                  refine ⟨v6, ms6, _, ⟨H6.out.1, by rw [H6.out.2.2.2.1]; exact H6.out.2.2.1, fun x hx => HM3.out.1.ne x (List.mem_cons_of_mem _ (H6.out.2.1.mem_iff.1 hx)), H6.out.2.2.2.2.2.row SH.out.1.2.1 (fun q hq hf => SH.out.1.2.2 q hq hf), fun q hq hf => SH.out.1.2.2 q hq (by rw [foot_eq H6.out.2.2.2.2.1] at hf; exact hf), ?_, ?_⟩, Nat.le_refl _⟩
                  · have h1 := SH.out.2.1
                    unfold rest at h1
                    rw [if_pos rfl] at h1
                    exact h1.perm H6.out.2.1
                  · have h1 := HM3.out.1.few
                    have h2 := SH.out.2.2
                    rw [tot_perm H6.out.2.1]
                    rw [tot_cons] at h1
                    simp only [List.length_cons, List.length_nil] at h1 h2 ⊢
                    omega
              | cons x0 xs =>
                have hfix := fix_any SH.out.1.1 (fun k hk => by
                  cases k with
                  | zero => rw [at_get hk]; simp
                  | succ j =>
                    rw [at_get hk]
                    exact HM3.out.1.ne _ (List.mem_cons_of_mem _ (by simp))) (hp_swap HM3.out.1.hp)
                have HP := Lib.hid hfix
                clear hfix
                have zl : (0 : Int) < ((xs.length : Int) + 1) := by omega
                have zl2 : (((xs.length : Int) + 1) == 0) = false := beq_eq_false_iff_ne.2 (by omega)
                go_wp2_with fail
                refine HP.out.mono ?_
                rintro e w6 ⟨rfl, ms6, h6, p6, hp6, t6⟩
                have H6 := Lib.hid (And.intro h6 (And.intro p6 (And.intro hp6 t6)))
                clear h6 p6 hp6 t6
                go_wp2_with fail
                go_roundg (tot ms6)
                case measure =>
                  have h1 := HM3.out.2.1
                  have h2 := tot_perm H6.out.2.1
                  rw [tot_cons] at h1 h2
                  simp only [List.length_cons] at h1 h2
                  omega
                case rel =>
                  refine ⟨_, ms6, _, ⟨H6.out.1, by rw [H6.out.2.1.length_eq]; exact H6.out.2.2.1, fun x hx => ?_, H6.out.2.2.2.row SH.out.1.2.1 (fun q hq hf => SH.out.1.2.2 q hq hf), SH.out.1.2.2, ?_, ?_⟩, Nat.le_refl _⟩
                  · rcases List.mem_cons.1 (H6.out.2.1.mem_iff.1 hx) with rfl | hx
                    · simp
                    · exact HM3.out.1.ne x (List.mem_cons_of_mem _ hx)
                  · have h1 := SH.out.2.1
                    unfold rest at h1
                    rw [if_neg (by simp)] at h1
                    exact h1.perm H6.out.2.1
                  · have h1 := HM3.out.1.few
                    have h2 := SH.out.2.2
                    rw [tot_perm H6.out.2.1]
                    rw [tot_cons] at h1 ⊢
                    simp only [List.length_cons, List.length_nil] at h1 h2 ⊢
                    omega
end Go.Proofs.YtkeggcfnoonakaaGreat
