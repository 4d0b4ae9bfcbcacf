/-
  The document's list of pairs: Put.
-/
import Derived.Test.YtmodgjjlgobjcaaGreatRfC
import Derived.Deep.CutBlock
import Derived.Deep.CutRange
namespace Go.Proofs.YtmodgjjlgobjcaaGreat
open Go.RowKit

section
variable {P : Program} {ops : Array Oper} {Q : Exit → Act → World → Prop} {md : Region.Mode} {S : World → Prop} {k : Nat}
/-- One of those that are ready is picked. -/
theorem wpOp_K {i : Nat} {t : Option Tmp} {op : Op} {ty : TypeId} {pos : String} {aft : Array Edge} {gd : Option (Nat × Bool)} {fuel : Nat} {listed : Array Bool} {a : Act} {w : World} (hi : ops[i]? = some ⟨t, op, ty, pos, aft, gd⟩)
    (h : ∀ K' : Act → World → Prop, Shut (∀ a w, S w → (S w → wpAnyK P md ops Q S k fuel (listed.setIfInBounds i true) a w) → K' a w) →
      if Region.wanted ⟨t, op, ty, pos, aft, gd⟩ (yielded ops a.tmps) = true then Oper.wp P ⟨t, op, ty, pos, aft, gd⟩ a w K' Q else K' (a.put t undef) w)
    (hk : (listed.setIfInBounds i true).getD k true = false) : wpOp P ops Q i (fun a' w' => ((listed.setIfInBounds i true).getD k true = false → S w') ∧ wpAnyK P md ops Q S k fuel (listed.setIfInBounds i true) a' w') a w :=
  wpOp_step hi (fun K' hK => h K' (fun a w hS hW => hK a w ⟨fun _ => hS, hW hS⟩))
end

theorem src_take {w W : World} {B g n cap i : Nat} {E : List Nd} (h : Own eRf w B (.slice (some ⟨g, 0, none⟩) n cap) E) (hn : n = E.length) (hi : i ≤ n) (hb : Below w.heap.size w W) : Src eRf W (.slice (some ⟨g, 0, none⟩) i cap) (E.take i) := by
  have h0 := h
  subst hn
  have hlen : (E.take i).length = i := by rw [List.length_take]; omega
  refine .inr ⟨⟨g, 0, none⟩, cap, by rw [hlen], fun j u hj => ?_⟩
  rw [add_off, Nat.zero_add]
  have hjl : j < i * 3 := by
    have := (List.getElem?_eq_some_iff.1 hj).1
    rw [eRf.lens, hlen] at this
    exact this
  have hc : w.cell? ⟨g, j, none⟩ = some u := by
    rw [h0.cellAt j (by omega)]
    have e : E.flatMap cRf = (E.take i).flatMap cRf ++ (E.drop i).flatMap cRf := by rw [← List.flatMap_append, List.take_append_drop]
    rw [e, List.getElem?_append_left (by rw [eRf.lens, hlen]; omega)]
    exact hj
  exact (hb.cell (p := ⟨g, j, none⟩) (World.block_lt_of_cell? _ _ hc)).trans hc
theorem src_drop {w W : World} {B g n cap i c : Nat} {E : List Nd} (h : Own eRf w B (.slice (some ⟨g, 0, none⟩) n cap) E) (hn : n = E.length) (hi : i ≤ n) (hb : Below w.heap.size w W) {o m : Nat} (ho : o = i * 3) (hm : m = n - i) : Src eRf W (.slice (some ⟨g, o, none⟩) m c) (E.drop i) := by
  have h0 := h
  subst hn
  subst ho hm
  have hlen : (E.drop i).length = E.length - i := by rw [List.length_drop]
  refine .inr ⟨⟨g, i * 3, none⟩, c, by rw [hlen], fun j u hj => ?_⟩
  rw [add_off]
  have hjl : j < (E.length - i) * 3 := by
    have := (List.getElem?_eq_some_iff.1 hj).1
    rw [eRf.lens, hlen] at this
    exact this
  have hc : w.cell? ⟨g, i * 3 + j, none⟩ = some u := by
    rw [h0.cellAt (i * 3 + j) (by omega)]
    have e : E.flatMap cRf = (E.take i).flatMap cRf ++ (E.drop i).flatMap cRf := by rw [← List.flatMap_append, List.take_append_drop]
    have hlt : (E.take i).length = i := by rw [List.length_take]; omega
    rw [e, List.getElem?_append_right (by rw [eRf.lens, hlt]; omega), eRf.lens, hlt, Nat.add_sub_cancel_left]
    exact hj
  exact (hb.cell (p := ⟨g, i * 3 + j, none⟩) (World.block_lt_of_cell? _ _ hc)).trans hc

theorem src_drop2 {w W : World} {B g n cap i : Nat} {E : List Nd} (h : Own eRf w B (.slice (some ⟨g, 0, none⟩) n cap) E) (hn : n = E.length) (hi : i ≤ n) (hc : n ≤ cap) (hb : Below w.heap.size w W) : Src eRf W (.slice (if cap = i then some ⟨g, 0, none⟩ else some ⟨g, i * 3, none⟩) (n - i) (cap - i)) (E.drop i) := by
  by_cases e : cap = i
  · have hd : E.drop i = [] := List.drop_of_length_le (by omega)
    rw [if_pos e, hd]
    refine .inr ⟨⟨g, 0, none⟩, cap - i, by rw [show n - i = 0 by omega]; rfl, fun j u hj => by simp at hj⟩
  · rw [if_neg e]
    exact src_drop h hn hi hb rfl rfl

theorem rf_put_end {w W9 : World} {rb B : Nat} {lv lv' : Value} {E : List Nd} {x : Nd} (h : RfAt w rb lv B E false) (hb : Below w.heap.size w W9) (ho : Own eRf W9 w.heap.size lv' (ins E (below E x.k) x)) (hB : B ≤ w.heap.size) (hlen : E.length < 100000)
    (hx : x.k.size ≤ 65536 ∧ x.v.size ≤ 65536) (hh : 1 ≤ x.h ∧ x.h ≤ 12) (hne : ∀ n, E[below E x.k]? = some n → n.k ≠ x.k) :
    RfAt (W9.setCell ⟨rb, 0, none⟩ lv') rb lv' B (ins E (below E x.k) x) false ∧ Tn (fun q => q = rb) w (W9.setCell ⟨rb, 0, none⟩ lv') ∧ ∀ q, lv'.ownBlock = some q → w.heap.size ≤ q := by
  have hrb : rb < w.heap.size := World.block_lt_of_cell? w ⟨rb, 0, none⟩ h.c0
  have hbl := below_le E x.k
  have ht : Tn (fun q => q = rb) W9 (W9.setCell ⟨rb, 0, none⟩ lv') := Tn.setCell _ _ _ rfl
  have hfr : ∀ q, lv'.ownBlock = some q → w.heap.size ≤ q := fun q hq => (ho.lt q hq).1
  refine ⟨⟨World.cell?_setCell_same _ _ _ ((hb.cell (p := ⟨rb, 0, none⟩) hrb).trans h.c0), ?_, fun j => ?_, ?_, h.rb0, by rw [ins_len _ _ hbl]; omega, ins_sorted h.sorted hne, fun n hn => ?_, fun n hn => ?_⟩, (Tn.ofBelow hb).trans ht, hfr⟩
  · rw [World.cell?_setCell_other _ _ _ _ (by intro e; injection e with _ e2; omega)]
    exact (hb.cell (p := ⟨rb, 1, none⟩) hrb).trans h.c1
  · rw [World.frozen?_setCell]
    exact (hb.frozen (p := ⟨rb, j, none⟩) hrb).trans (h.fz j)
  · exact ht.row (row_mono ho hB) (fun q hq e => by have := hfr q hq; omega)
  · rcases ins_mem hn with rfl | hn
    · exact hx
    · exact h.keys n hn
  · rcases ins_mem hn with rfl | hn
    · exact hh
    · exact h.hts n hn

theorem lv_cases {w : World} {B : Nat} {lv : Value} {E : List Nd} (h : Own eRf w B lv E) : (lv = .slice none 0 0 ∧ E = []) ∨ ∃ g cap, lv = .slice (some ⟨g, 0, none⟩) E.length cap ∧ E.length ≤ cap := by
  obtain ⟨_, h2⟩ := h
  rcases h2 with ⟨h2, h3⟩ | ⟨g, cap, cur, h2, _, _, h5, _⟩
  · exact .inl ⟨h2, List.eq_nil_of_length_eq_zero h3⟩
  · exact .inr ⟨g, cap, h2, h5⟩
theorem rf_same {w w' : World} {rb B : Nat} {lv : Value} {E : List Nd} {fr : Bool} {k v : ByteArray} {h : Int} {c : Int} (hr : RfAt w rb lv B E fr) (hb : Below w.heap.size w w') (hp : putE E fr k v = c) (hc : c ≠ 0) :
    (Ending.returned (.int .i64 c) : Ending) = .returned (.int .i64 (putE E fr k v)) ∧ ∃ lv', RfAt w' rb lv' B (putL E fr k v h) fr ∧ Tn (fun q => q = rb) w w' ∧ ∀ q, lv'.ownBlock = some q → lv.ownBlock = some q ∨ w.heap.size ≤ q := by
  refine ⟨ret_i hp.symm, lv, ?_, Tn.ofBelow hb, fun q hq => .inl hq⟩
  unfold putL
  rw [if_neg (by rw [hp]; exact hc)]
  exact hr.below hb

set_option maxRecDepth 100000 in
set_option maxHeartbeats 8000000 in
theorem rput_any {w : World} {rb B : Nat} {lv : Value} {E : List Nd} {fr : Bool} (h : RfAt w rb lv B E fr) (k v : ByteArray) (hk : k.size ≤ 1000000) (hv : v.size ≤ 1000000) (hh : Int) (hB : B ≤ w.heap.size) (hlen0 : E.length < 100000) :
    Calls Tryz.prog 7 #[.pointer (some ⟨rb, 0, none⟩), .string k, .string v, .int .i64 hh] w fun e w' => e = .returned (.int .i64 (putE E fr k v)) ∧ ∃ lv', RfAt w' rb lv' B (putL E fr k v hh) fr ∧ Tn (fun q => q = rb) w w' ∧ ∀ q, lv'.ownBlock = some q → lv.ownBlock = some q ∨ w.heap.size ≤ q := by
  have c1 := h.c1
  cases fr with
  | true =>
    have H := Lib.hid h
    have hp : putE E true k v = 30 := by simp [putE]
    have HP := Lib.hid hp
    clear h hp
    go_enter Tryz.func7, Tryz.ntmps7
    go_wp2
    go_ret
    exact rf_same H.out (Below.refl _ _) HP.out (by decide)
  | false =>
  by_cases hlong : 65536 < k.size ∨ 65536 < v.size
  · have H := Lib.hid h
    have hp : putE E false k v = 2 := by simp [putE, hlong]
    have HP := Lib.hid hp
    clear h hp
    have ht : decide ((k.size : Int) > 65536) = true ∨ decide ((k.size : Int) > 65536) = false ∧ decide ((v.size : Int) > 65536) = true := by
      by_cases h1 : 65536 < k.size
      · exact .inl (by simp; omega)
      · exact .inr ⟨by simp; omega, by simp; omega⟩
    have ht2 : (65536 : Int) < (k.size : Int) ∨ ¬ (65536 : Int) < (k.size : Int) ∧ (65536 : Int) < (v.size : Int) := by omega
    clear hlong ht
    rcases ht2 with t1 | ⟨t1, t2⟩
    all_goals
      go_enter Tryz.func7, Tryz.ntmps7
      go_wp2
      go_ret
      exact rf_same H.out (Below.refl _ _) HP.out (by decide)
  · have s1 : ¬ (65536 : Int) < (k.size : Int) := by omega
    have s2 : ¬ (65536 : Int) < (v.size : Int) := by omega
    have hpe : putE E false k v = if hasK E k = true then 23 else 0 := by simp only [putE, hlong, if_false, Bool.false_eq_true]
    have HPE := Lib.hid hpe
    have HSZ := Lib.hid (show k.size ≤ 65536 ∧ v.size ≤ 65536 by omega)
    have hat := rat_any h k hk
    have HAT := Lib.hid hat
    have H0 := Lib.hid h
    have hbl := below_le E k
    have hrow := h.row
    have c0 := h.c0
    have HL0 := Lib.hid hlen0
    obtain ⟨i, hi⟩ : ∃ i, i = below E k := ⟨_, rfl⟩
    rw [← hi] at hbl
    have hri : below E k = i := hi.symm
    have HRI := Lib.hid hri
    clear hlong hpe hat h hi hri hlen0
    have hrb := H0.out.rb0
    rcases lv_cases hrow with ⟨rfl, hE⟩ | ⟨g, cap, rfl, hcap⟩
    · have hi0 : i = 0 := by have := below_le E k; rw [hE] at hbl; simpa using hbl
      subst hi0
      have HE0 := Lib.hid hE
      have hhas : hasK E k = false := by unfold hasK; rw [hE]; rfl
      have HB0 := Lib.hid hB
      have hrbw : rb < w.heap.size := World.block_lt_of_cell? w ⟨rb, 0, none⟩ H0.out.c0
      clear hB hrow hE hbl
      go_enter Tryz.func7, Tryz.ntmps7
      go_upto_region 6 with (go_at_call 30; refine HAT.out.mono ?_; rintro _ w3 ⟨rfl, hb3⟩; rw [HRI.out]; have HB1 := Lib.hid hb3; have d0 := (hb3.cell (p := ⟨rb, 0, none⟩) hrbw).trans c0; clear hb3; simp only [])
      go_cut [44] from 10 (fun c wx => c = .bool (hasK E k) ∧ w3 = wx)
      case first =>
        go_wp2
        go_meet
        case rel => exact ⟨by rw [hhas], rfl⟩
      case rest =>
        obtain ⟨rfl, rfl⟩ := hcut
        have hp : putE E false k v = 0 := by rw [HPE.out, hhas]; rfl
        have HP := Lib.hid hp
        have HNE := Lib.hid (show ∀ nn, E[below E k]? = some nn → nn.k ≠ k from fun nn hnn => by unfold hasK at hhas; rw [hnn] at hhas; simpa using hhas)
        rw [hhas]
        clear hhas hp
        obtain ⟨h1, hh1⟩ : ∃ h1 : Int, h1 = max hh 1 := ⟨_, rfl⟩
        have HH1 := Lib.hid hh1
        clear hh1
        go_upto_if 46 with fail
        go_cut [3] from 10 (fun x wx => x = .int .i64 h1 ∧ w3 = wx)
        case first =>
          by_cases hc : hh < 1
          · have t1 : decide (hh < 1) = true := by simpa using hc
            go_wp2
            go_meet
            case rel => exact ⟨val_i (by rw [HH1.out]; omega), rfl⟩
          · have t1 : decide (hh < 1) = false := by simpa using hc
            go_wp2
            go_meet
            case rel => exact ⟨val_i (by rw [HH1.out]; omega), rfl⟩
        case rest =>
        obtain ⟨rfl, rfl⟩ := hcut
        obtain ⟨m, hm⟩ : ∃ m : Nat, m = clampH hh := ⟨_, rfl⟩
        have HM := Lib.hid (And.intro hm.symm (show 1 ≤ m ∧ m ≤ 12 by rw [hm]; unfold clampH; omega))
        clear hm
        go_upto_if 48 with fail
        go_cut [3] from 10 (fun x wx => x = .int .i64 (m : Int) ∧ w3 = wx)
        case first =>
          by_cases hc : 12 < h1
          · have t1 : decide (12 < h1) = true := by simpa using hc
            go_wp2
            go_meet
            case rel => exact ⟨val_i (by rw [← HM.out.1]; unfold clampH; rw [HH1.out] at hc; omega), rfl⟩
          · have t1 : decide (12 < h1) = false := by simpa using hc
            go_wp2
            go_meet
            case rel => exact ⟨val_i (by rw [← HM.out.1]; unfold clampH; rw [HH1.out] at hc; rw [HH1.out]; omega), rfl⟩
        case rest =>
        obtain ⟨rfl, rfl⟩ := hcut
        have HHN := Lib.hid HM.out.2
        have HHC := Lib.hid HM.out.1
        go_wp2_with fail
        have kd : w3.drew.cell? ⟨rb, 0, none⟩ = some (.slice none 0 0) := d0
        have HB : Hid (Below w.heap.size w w3.drew) := HB1.out.trans (Below.refl _ w3).drew
        have hzz : w.heap.size ≤ w3.heap.size := HB1.out.size
        clear d0
        refine wp_region_K (fun w' => w'.cell? ⟨rb, 0, none⟩ = some (.slice none 0 0)) 24 25 (by kernel_rfl) (by kernel_rfl) kd (fun hH => ?_)
        refine wpAnyK_take (i := 0) [24] (v := ?v1) rfl (by kernel_rfl) (by kernel_rfl) (by kernel_rfl) (by kernel_rfl) (fun _ _ _ h => h) (Or.inl ⟨by rfl, ?hy1⟩) hH ?rest1
        case hy1 => (intro w hSw; (try dsimp only at hSw); go_simp; with_reducible rfl)
        try simp only [Act.put, List.setIfInBounds_toArray, List.set_cons_zero, List.set_cons_succ]
        refine wpAnyK_take (i := 1) [24] (v := ?v2) rfl (by kernel_rfl) (by kernel_rfl) (by kernel_rfl) (by kernel_rfl) (fun _ _ _ h => h) (Or.inl ⟨by rfl, ?hy2⟩) hH ?rest2
        case hy2 => (intro w hSw; (try dsimp only at hSw); go_simp; with_reducible rfl)
        try simp only [Act.put, List.setIfInBounds_toArray, List.set_cons_zero, List.set_cons_succ]
        refine wpAnyK_take (i := 2) [24] (v := ?v3) rfl (by kernel_rfl) (by kernel_rfl) (by kernel_rfl) (by kernel_rfl) (fun _ _ _ h => h) (Or.inl ⟨by rfl, ?hy3⟩) hH ?rest3
        case hy3 => (intro w hSw; (try dsimp only at hSw); go_simp; with_reducible rfl)
        try simp only [Act.put, List.setIfInBounds_toArray, List.set_cons_zero, List.set_cons_succ]
        refine wpAnyK_take (i := 3) [24] (v := ?v4) rfl (by kernel_rfl) (by kernel_rfl) (by kernel_rfl) (by kernel_rfl) (fun _ _ _ h => h) (Or.inl ⟨by rfl, ?hy4⟩) hH ?rest4
        case hy4 => (intro w hSw; (try dsimp only at hSw); go_simp; with_reducible rfl)
        try simp only [Act.put, List.setIfInBounds_toArray, List.set_cons_zero, List.set_cons_succ]
        refine wpAnyK_take (i := 4) [24] (v := ?v5) rfl (by kernel_rfl) (by kernel_rfl) (by kernel_rfl) (by kernel_rfl) (fun _ _ _ h => h) (Or.inl ⟨by rfl, ?hy5⟩) hH ?rest5
        case hy5 => (intro w hSw; (try dsimp only at hSw); go_simp; with_reducible rfl)
        try simp only [Act.put, List.setIfInBounds_toArray, List.set_cons_zero, List.set_cons_succ]
        refine wpAnyK_take (i := 5) [24] (v := ?v6) rfl (by kernel_rfl) (by kernel_rfl) (by kernel_rfl) (by kernel_rfl) (fun _ _ _ h => h) (Or.inl ⟨by rfl, ?hy6⟩) hH ?rest6
        case hy6 => (intro w hSw; (try dsimp only at hSw); go_simp; with_reducible rfl)
        try simp only [Act.put, List.setIfInBounds_toArray, List.set_cons_zero, List.set_cons_succ]
        refine wpAnyK_take (i := 6) [24] (v := ?v7) rfl (by kernel_rfl) (by kernel_rfl) (by kernel_rfl) (by kernel_rfl) (fun _ _ _ h => h) (Or.inl ⟨by rfl, ?hy7⟩) hH ?rest7
        case hy7 => (intro w hSw; (try dsimp only at hSw); go_simp; with_reducible rfl)
        try simp only [Act.put, List.setIfInBounds_toArray, List.set_cons_zero, List.set_cons_succ]
        refine wpAnyK_take (i := 8) [24] (v := ?v8) rfl (by kernel_rfl) (by kernel_rfl) (by kernel_rfl) (by kernel_rfl) (fun _ _ _ h => h) (Or.inl ⟨by rfl, ?hy8⟩) hH ?rest8
        case hy8 => (intro w hSw; (try dsimp only at hSw); go_simp; with_reducible rfl)
        try simp only [Act.put, List.setIfInBounds_toArray, List.set_cons_zero, List.set_cons_succ]
        refine wpAnyK_take (i := 9) [24] (v := ?v9) rfl (by kernel_rfl) (by kernel_rfl) (by kernel_rfl) (by kernel_rfl) (fun _ _ _ h => h) (Or.inl ⟨by rfl, ?hy9⟩) hH ?rest9
        case hy9 => (intro w hSw; (try dsimp only at hSw); go_simp; with_reducible rfl)
        try simp only [Act.put, List.setIfInBounds_toArray, List.set_cons_zero, List.set_cons_succ]
        refine wpAnyK_take (i := 10) [24] (v := ?v10) rfl (by kernel_rfl) (by kernel_rfl) (by kernel_rfl) (by kernel_rfl) (fun _ _ _ h => h) (Or.inl ⟨by rfl, ?hy10⟩) hH ?rest10
        case hy10 => (intro w hSw; (try dsimp only at hSw); go_simp; with_reducible rfl)
        try simp only [Act.put, List.setIfInBounds_toArray, List.set_cons_zero, List.set_cons_succ]
        refine wpAnyK_take (i := 11) [24] (v := ?v11) rfl (by kernel_rfl) (by kernel_rfl) (by kernel_rfl) (by kernel_rfl) (fun _ _ _ h => h) (Or.inl ⟨by rfl, ?hy11⟩) hH ?rest11
        case hy11 => (intro w hSw; (try dsimp only at hSw); go_simp; with_reducible rfl)
        try simp only [Act.put, List.setIfInBounds_toArray, List.set_cons_zero, List.set_cons_succ]
        refine wpAnyK_take (i := 12) [24] (v := ?v12) rfl (by kernel_rfl) (by kernel_rfl) (by kernel_rfl) (by kernel_rfl) (fun _ _ _ h => h) (Or.inl ⟨by rfl, ?hy12⟩) hH ?rest12
        case hy12 => (intro w hSw; (try dsimp only at hSw); go_simp; with_reducible rfl)
        try simp only [Act.put, List.setIfInBounds_toArray, List.set_cons_zero, List.set_cons_succ]
        refine wpAnyK_take (i := 15) [24] (v := ?v13) rfl (by kernel_rfl) (by kernel_rfl) (by kernel_rfl) (by kernel_rfl) (fun _ _ _ h => h) (Or.inl ⟨by rfl, ?hy13⟩) hH ?rest13
        case hy13 => (intro w hSw; (try dsimp only at hSw); go_simp; with_reducible rfl)
        try simp only [Act.put, List.setIfInBounds_toArray, List.set_cons_zero, List.set_cons_succ]
        refine wpAnyK_take (i := 16) [24] (v := ?v14) rfl (by kernel_rfl) (by kernel_rfl) (by kernel_rfl) (by kernel_rfl) (fun _ _ _ h => h) (Or.inl ⟨by rfl, ?hy14⟩) hH ?rest14
        case hy14 => (intro w hSw; (try dsimp only at hSw); go_simp; with_reducible rfl)
        try simp only [Act.put, List.setIfInBounds_toArray, List.set_cons_zero, List.set_cons_succ]
        refine wpAnyK_take (i := 17) [24] (v := ?v15) rfl (by kernel_rfl) (by kernel_rfl) (by kernel_rfl) (by kernel_rfl) (fun _ _ _ h => h) (Or.inl ⟨by rfl, ?hy15⟩) hH ?rest15
        case hy15 => (intro w hSw; (try dsimp only at hSw); go_simp; with_reducible rfl)
        try simp only [Act.put, List.setIfInBounds_toArray, List.set_cons_zero, List.set_cons_succ]
        refine wpAnyK_take (i := 18) [24] (v := ?v16) rfl (by kernel_rfl) (by kernel_rfl) (by kernel_rfl) (by kernel_rfl) (fun _ _ _ h => h) (Or.inl ⟨by rfl, ?hy16⟩) hH ?rest16
        case hy16 => (intro w hSw; (try dsimp only at hSw); go_simp; with_reducible rfl)
        try simp only [Act.put, List.setIfInBounds_toArray, List.set_cons_zero, List.set_cons_succ]
        refine wpAnyK_take (i := 19) [24] (v := ?v17) rfl (by kernel_rfl) (by kernel_rfl) (by kernel_rfl) (by kernel_rfl) (fun _ _ _ h => h) (Or.inl ⟨by rfl, ?hy17⟩) hH ?rest17
        case hy17 => (intro w hSw; (try dsimp only at hSw); go_simp; with_reducible rfl)
        try simp only [Act.put, List.setIfInBounds_toArray, List.set_cons_zero, List.set_cons_succ]
        refine wpAnyK_take (i := 20) [24] (v := ?v18) rfl (by kernel_rfl) (by kernel_rfl) (by kernel_rfl) (by kernel_rfl) (fun _ _ _ h => h) (Or.inl ⟨by rfl, ?hy18⟩) hH ?rest18
        case hy18 => (intro w hSw; (try dsimp only at hSw); go_simp; with_reducible rfl)
        try simp only [Act.put, List.setIfInBounds_toArray, List.set_cons_zero, List.set_cons_succ]
        refine wpAnyK_all (rs := [7, 13]) (by kernel_rfl) (by simp) (fun jj hjj => ?_)
        rcases List.mem_cons.1 hjj with rfl | hjj2
        · refine wpOp_K rfl (fun K hK => ?_) (by kernel_rfl)
          refine step_app eRf rfl _ _ rfl (l := []) (l2 := E.take 0) rfl rfl (World.ownsRow_nil _ w3.drew.heap.size _ _) (.inl ⟨rfl, by rw [HE0.out]; rfl⟩) (by have := HL0.out; simp <;> omega) (Nat.le_refl _) ?_
          intro a1 cp1 wa ho1 hb1 _ _
          have hl1 : ([] : List Nd).length + (E.take 0).length = 0 := by rw [List.length_take]; simp
          rw [hl1] at ho1 ⊢
          have HO1 := Lib.hid (row_mono (show Own eRf wa w3.drew.heap.size (.slice a1 0 cp1) (E.take 0) from ho1) HB.out.size)
          have hba := hb1
          clear ho1 hl1 hb1
          have kd2 := (HB.out.trans (hba.mono HB.out.size)).cell (p := ⟨rb, 0, none⟩) hrbw |>.trans c0
          have HB2 := Lib.hid (HB.out.trans (hba.mono HB.out.size))
          refine hK.out _ _ kd2 (fun hH => ?_)
          clear hK K
          try simp only [Act.put, List.setIfInBounds_toArray, List.set_cons_zero, List.set_cons_succ]
          refine wpAnyK_one (i := 13) (by kernel_rfl) rfl (fun K hK => ?_) (by kernel_rfl)
          go_simp
          obtain ⟨wb, hwb⟩ : ∃ wb, wb = wa.alloc (.cells #[.string k, .string v, .int .i64 (m : Int)] 76) := ⟨_, rfl⟩
          have hbb : Below wa.heap.size wa wb := by rw [hwb]; exact (Below.refl _ _).alloc (Nat.le_refl _) _
          have hsx : Src eRf wb (.slice (some ⟨wa.heap.size, 0, none⟩) 1 1) [⟨0, k, v, m⟩] := by rw [hwb]; exact src_one wa (⟨0, k, v, m⟩ : Nd) _ _ rfl 1
          rw [← hwb]
          clear hwb
          have HB3 := Lib.hid (HB2.out.trans (hbb.mono HB2.out.size))
          have HO3 := Lib.hid (And.intro (row_below HO1.out hbb) hsx)
          clear hbb hsx hba
          have kd3 := HB3.out.cell (p := ⟨rb, 0, none⟩) hrbw |>.trans c0
          refine hK.out _ _ kd3 (fun hH => ?_)
          clear hK K
          try simp only [Act.put, List.setIfInBounds_toArray, List.set_cons_zero, List.set_cons_succ]
          refine wpAnyK_one (i := 14) (by kernel_rfl) rfl (fun K hK => ?_) (by kernel_rfl)
          have hlt : (E.take 0).length = 0 := by rw [List.length_take]; simp
          refine step_app eRf rfl _ _ rfl (l := E.take 0) (l2 := [⟨0, k, v, m⟩]) rfl rfl HO3.out.1 HO3.out.2 (by rw [hlt]; have := HL0.out; simp <;> omega) HB3.out.size ?_
          intro a4 cp4 wd ho4 hb4 _ _
          rw [hlt] at ho4 ⊢
          have HO4 := Lib.hid (show Own eRf wd w.heap.size (.slice a4 (0 + 1) cp4) (E.take 0 ++ [⟨0, k, v, m⟩]) from ho4)
          have HB4 := Lib.hid (HB3.out.trans hb4)
          clear ho4 hb4
          have kd4 := HB4.out.cell (p := ⟨rb, 0, none⟩) hrbw |>.trans c0
          refine hK.out _ _ kd4 (fun hH => ?_)
          clear hK K
          try simp only [Act.put, List.setIfInBounds_toArray, List.set_cons_zero, List.set_cons_succ]
          refine wpAnyK_one (i := 21) (by kernel_rfl) rfl (fun K hK => ?_) (by kernel_rfl)
          have hlt4 : (E.take 0 ++ [(⟨0, k, v, m⟩ : Nd)]).length = 0 + 1 := by rw [List.length_append, hlt]; rfl
          have hld : (E.drop 0).length = 0 - 0 := by rw [List.length_drop, HE0.out]; rfl
          refine step_app eRf rfl _ _ rfl (l := E.take 0 ++ [⟨0, k, v, m⟩]) (l2 := E.drop 0) rfl rfl HO4.out (.inl ⟨rfl, by rw [HE0.out]; rfl⟩) (by rw [hlt4, hld]; have := HL0.out; omega) HB4.out.size ?_
          intro a5 cp5 we ho5 hb5 _ _
          rw [hlt4, hld] at ho5 ⊢
          obtain ⟨n5, hn5⟩ : ∃ n5, n5 = 0 + 1 + (0 - 0) := ⟨_, rfl⟩
          rw [← hn5] at ho5 ⊢
          have HB5 := Lib.hid (HB4.out.trans hb5)
          have HO5 := Lib.hid (show Own eRf we w.heap.size (.slice a5 n5 cp5) (ins E (below E k) ⟨0, k, v, m⟩) from (by unfold ins; rw [HRI.out]; rw [List.append_assoc] at ho5; exact ho5))
          clear ho5 hb5 hn5 hlt4 hld hlt
          have kd5 := HB5.out.cell (p := ⟨rb, 0, none⟩) hrbw |>.trans c0
          have hfz5 : we.frozen? ⟨rb, 0, none⟩ = false := (HB5.out.frozen (p := ⟨rb, 0, none⟩) hrbw).trans (H0.out.fz 0)
          refine hK.out _ _ kd5 (fun hH => ?_)
          clear hK K
          try simp only [Act.put, List.setIfInBounds_toArray, List.set_cons_zero, List.set_cons_succ]
          refine wpAnyK_take (i := 22) [23, 24] (v := ?v19) rfl (by kernel_rfl) (by kernel_rfl) (by kernel_rfl) (by kernel_rfl) (fun _ _ _ h => h) (Or.inl ⟨by rfl, ?hy19⟩) hH ?rest19
          case hy19 => (intro w hSw; (try dsimp only at hSw); go_simp; with_reducible rfl)
          try simp only [Act.put, List.setIfInBounds_toArray, List.set_cons_zero, List.set_cons_succ]
          refine wpAnyK_take (i := 23) [24] (v := ?v20) rfl (by kernel_rfl) (by kernel_rfl) (by kernel_rfl) (by kernel_rfl) (fun _ _ _ h => h) (Or.inl ⟨by rfl, ?hy20⟩) hH ?rest20
          case hy20 => (intro w hSw; (try dsimp only at hSw); go_simp; with_reducible rfl)
          try simp only [Act.put, List.setIfInBounds_toArray, List.set_cons_zero, List.set_cons_succ]
          refine wpAnyK_last (by kernel_rfl) rfl (fun K hK => ?_) (by kernel_rfl)
          go_simp
          refine hK.out _ _ (wpAnyK_done (by kernel_rfl) ?_ _)
          clear hK K hH
          have hfin := rf_put_end (x := ⟨0, k, v, m⟩) H0.out HB5.out HO5.out HB0.out HL0.out HSZ.out HHN.out HNE.out
          have HFIN := Lib.hid hfin
          clear hfin kd5 kd4 kd3 hfz5 kd
          go_wp2_with fail
          all_goals
            go_ret
            refine ⟨ret_i HP.out.symm, _, ?_, HFIN.out.2.1, fun q hq => .inr (HFIN.out.2.2 q hq)⟩
            unfold putL
            rw [if_pos HP.out, HHC.out]
            exact HFIN.out.1
        · obtain rfl := List.mem_singleton.1 hjj2
          refine wpOp_K rfl (fun K hK => ?_) (by kernel_rfl)
          go_simp
          obtain ⟨wx, hwx⟩ : ∃ wx, wx = (w3.alloc (.cells #[.string k, .string v, .int .i64 (m : Int)] 76)).drew := ⟨_, rfl⟩
          have hbx : Below w3.drew.heap.size w3.drew wx := by rw [hwx]; exact (Below.refl _ w3.drew).alloc (Nat.le_refl _) _
          have hsx : Src eRf wx (.slice (some ⟨w3.heap.size, 0, none⟩) 1 1) [⟨0, k, v, m⟩] := by rw [hwx]; exact src_one w3.drew (⟨0, k, v, m⟩ : Nd) _ _ rfl 1
          have hsxlt : w3.heap.size < wx.heap.size := by rw [hwx]; simp [go_sem]
          rw [← hwx]
          clear hwx
          have HB2 := Lib.hid (HB.out.trans (hbx.mono HB.out.size))
          have hxx : wx.heap.size ≥ w3.heap.size + 0 := hbx.size
          have kd2 := HB2.out.cell (p := ⟨rb, 0, none⟩) hrbw |>.trans c0
          refine hK.out _ _ kd2 (fun hH => ?_)
          clear hK K
          try simp only [Act.put, List.setIfInBounds_toArray, List.set_cons_zero, List.set_cons_succ]
          clear HB
          have HB := HB2
          clear HB2
          have HSX := Lib.hid hsx
          clear hsx hbx hxx
          refine wpAnyK_one (i := 7) (by kernel_rfl) rfl (fun K hK => ?_) (by kernel_rfl)
          refine step_app eRf rfl _ _ rfl (l := []) (l2 := E.take 0) rfl rfl (World.ownsRow_nil _ wx.heap.size _ _) (.inl ⟨rfl, by rw [HE0.out]; rfl⟩) (by have := HL0.out; simp <;> omega) (Nat.le_refl _) ?_
          intro a1 cp1 wa ho1 hb1 _ _
          have hl1 : ([] : List Nd).length + (E.take 0).length = 0 := by rw [List.length_take]; simp
          rw [hl1] at ho1 ⊢
          have HO1 := Lib.hid (row_mono (show Own eRf wa wx.heap.size (.slice a1 0 cp1) (E.take 0) from ho1) HB.out.size)
          have hba := hb1
          clear ho1 hl1 hb1
          obtain ⟨wb, hwb⟩ : ∃ wb, wb = wa := ⟨_, rfl⟩
          rw [← hwb] at hba HO1
          rw [← hwb]
          clear hwb
          have HB3 := Lib.hid (HB.out.trans (hba.mono HB.out.size))
          have HO3 := Lib.hid (And.intro HO1.out (HSX.out.below (n := wx.heap.size) hba (fun q hq => Option.some.inj hq ▸ hsxlt)))
          clear hba HO1
          have kd3 := HB3.out.cell (p := ⟨rb, 0, none⟩) hrbw |>.trans c0
          refine hK.out _ _ kd3 (fun hH => ?_)
          clear hK K
          try simp only [Act.put, List.setIfInBounds_toArray, List.set_cons_zero, List.set_cons_succ]
          refine wpAnyK_one (i := 14) (by kernel_rfl) rfl (fun K hK => ?_) (by kernel_rfl)
          have hlt : (E.take 0).length = 0 := by rw [List.length_take]; simp
          refine step_app eRf rfl _ _ rfl (l := E.take 0) (l2 := [⟨0, k, v, m⟩]) rfl rfl HO3.out.1 HO3.out.2 (by rw [hlt]; have := HL0.out; simp <;> omega) HB3.out.size ?_
          intro a4 cp4 wd ho4 hb4 _ _
          rw [hlt] at ho4 ⊢
          have HO4 := Lib.hid (show Own eRf wd w.heap.size (.slice a4 (0 + 1) cp4) (E.take 0 ++ [⟨0, k, v, m⟩]) from ho4)
          have HB4 := Lib.hid (HB3.out.trans hb4)
          clear ho4 hb4
          have kd4 := HB4.out.cell (p := ⟨rb, 0, none⟩) hrbw |>.trans c0
          refine hK.out _ _ kd4 (fun hH => ?_)
          clear hK K
          try simp only [Act.put, List.setIfInBounds_toArray, List.set_cons_zero, List.set_cons_succ]
          refine wpAnyK_one (i := 21) (by kernel_rfl) rfl (fun K hK => ?_) (by kernel_rfl)
          have hlt4 : (E.take 0 ++ [(⟨0, k, v, m⟩ : Nd)]).length = 0 + 1 := by rw [List.length_append, hlt]; rfl
          have hld : (E.drop 0).length = 0 - 0 := by rw [List.length_drop, HE0.out]; rfl
          refine step_app eRf rfl _ _ rfl (l := E.take 0 ++ [⟨0, k, v, m⟩]) (l2 := E.drop 0) rfl rfl HO4.out (.inl ⟨rfl, by rw [HE0.out]; rfl⟩) (by rw [hlt4, hld]; have := HL0.out; omega) HB4.out.size ?_
          intro a5 cp5 we ho5 hb5 _ _
          rw [hlt4, hld] at ho5 ⊢
          obtain ⟨n5, hn5⟩ : ∃ n5, n5 = 0 + 1 + (0 - 0) := ⟨_, rfl⟩
          rw [← hn5] at ho5 ⊢
          have HB5 := Lib.hid (HB4.out.trans hb5)
          have HO5 := Lib.hid (show Own eRf we w.heap.size (.slice a5 n5 cp5) (ins E (below E k) ⟨0, k, v, m⟩) from (by unfold ins; rw [HRI.out]; rw [List.append_assoc] at ho5; exact ho5))
          clear ho5 hb5 hn5 hlt4 hld hlt
          have kd5 := HB5.out.cell (p := ⟨rb, 0, none⟩) hrbw |>.trans c0
          have hfz5 : we.frozen? ⟨rb, 0, none⟩ = false := (HB5.out.frozen (p := ⟨rb, 0, none⟩) hrbw).trans (H0.out.fz 0)
          refine hK.out _ _ kd5 (fun hH => ?_)
          clear hK K
          try simp only [Act.put, List.setIfInBounds_toArray, List.set_cons_zero, List.set_cons_succ]
          refine wpAnyK_take (i := 22) [23, 24] (v := ?v21) rfl (by kernel_rfl) (by kernel_rfl) (by kernel_rfl) (by kernel_rfl) (fun _ _ _ h => h) (Or.inl ⟨by rfl, ?hy21⟩) hH ?rest21
          case hy21 => (intro w hSw; (try dsimp only at hSw); go_simp; with_reducible rfl)
          try simp only [Act.put, List.setIfInBounds_toArray, List.set_cons_zero, List.set_cons_succ]
          refine wpAnyK_take (i := 23) [24] (v := ?v22) rfl (by kernel_rfl) (by kernel_rfl) (by kernel_rfl) (by kernel_rfl) (fun _ _ _ h => h) (Or.inl ⟨by rfl, ?hy22⟩) hH ?rest22
          case hy22 => (intro w hSw; (try dsimp only at hSw); go_simp; with_reducible rfl)
          try simp only [Act.put, List.setIfInBounds_toArray, List.set_cons_zero, List.set_cons_succ]
          refine wpAnyK_last (by kernel_rfl) rfl (fun K hK => ?_) (by kernel_rfl)
          go_simp
          refine hK.out _ _ (wpAnyK_done (by kernel_rfl) ?_ _)
          clear hK K hH
          have hfin := rf_put_end (x := ⟨0, k, v, m⟩) H0.out HB5.out HO5.out HB0.out HL0.out HSZ.out HHN.out HNE.out
          have HFIN := Lib.hid hfin
          clear hfin kd5 kd4 kd3 hfz5 kd
          go_wp2_with fail
          all_goals
            go_ret
            refine ⟨ret_i HP.out.symm, _, ?_, HFIN.out.2.1, fun q hq => .inr (HFIN.out.2.2 q hq)⟩
            unfold putL
            rw [if_pos HP.out, HHC.out]
            exact HFIN.out.1
    · obtain ⟨n, hn⟩ : ∃ n, n = E.length := ⟨_, rfl⟩
      rw [← hn] at hrow c0 hbl hcap
      have HN := Lib.hid hn
      have hic : i ≤ cap := Nat.le_trans hbl hcap
      have HCAP := Lib.hid hcap
      have HROW := Lib.hid hrow
      have hlen := H0.out.len
      rw [← hn] at hlen
      clear hn hcap
      have HB0 := Lib.hid hB
      have hrbw : rb < w.heap.size := World.block_lt_of_cell? w ⟨rb, 0, none⟩ H0.out.c0
      clear hB hrow
      go_enter Tryz.func7, Tryz.ntmps7
      go_upto_region 6 with (go_at_call 30; refine HAT.out.mono ?_; rintro _ w3 ⟨rfl, hb3⟩; rw [HRI.out]; have HB1 := Lib.hid hb3; have d0 := (hb3.cell (p := ⟨rb, 0, none⟩) hrbw).trans c0; clear hb3; simp only [])
      go_cut [44] from 10 (fun c wx => c = .bool (hasK E k) ∧ w3 = wx)
      case first =>
        by_cases hlt : i < n
        · have hil : i < E.length := by have := HN.out; omega
          obtain ⟨g', cap', hv, _, hg, k0, _, _⟩ := rf_cells HROW.out hil
          injection hv with e1 e2 e3
          injection e1 with e1
          injection e1 with e1
          subst e1
          have d1 := (HB1.out.cell (p := ⟨g, i * 3, none⟩) (World.block_lt_of_cell? _ _ k0)).trans k0
          obtain ⟨x, hx⟩ : ∃ x, E[i] = x := ⟨_, rfl⟩
          have hq : E[i]? = some x := by rw [List.getElem?_eq_getElem hil, hx]
          rw [hx] at d1
          have hhas : hasK E k = decide (x.k = k) := by unfold hasK; rw [HRI.out, hq]
          obtain ⟨kk, hkk⟩ : ∃ kk, kk = x.k := ⟨_, rfl⟩
          rw [← hkk] at d1 hhas
          have HHAS := Lib.hid hhas
          have r1 : (i : Int) < (n : Int) := by omega
          clear e2 e3 k0 hx hq hhas hkk
          by_cases hke : kk = k
          · have t1 := str_eq k
            subst hke
            go_wp2
            go_meet
            case rel => exact ⟨by rw [HHAS.out]; simp, rfl⟩
          · have t1 := str_ne hke
            have HKE := Lib.hid hke
            clear hke
            go_wp2
            go_meet
            case rel => exact ⟨by rw [HHAS.out, decide_eq_false HKE.out], rfl⟩
        · have r1 : ¬ (i : Int) < (n : Int) := by omega
          have hhas : hasK E k = false := by unfold hasK; rw [HRI.out, List.getElem?_eq_none (by have := HN.out; omega)]
          have HHAS := Lib.hid hhas
          clear hhas
          go_wp2
          go_meet
          case rel => exact ⟨by rw [HHAS.out], rfl⟩
      case rest =>
        obtain ⟨rfl, rfl⟩ := hcut
        by_cases hhas : hasK E k = true
        · have hp : putE E false k v = 23 := by rw [HPE.out, if_pos hhas]
          have HP := Lib.hid hp
          rw [hhas]
          clear hhas hp
          go_wp2
          go_ret
          exact rf_same H0.out HB1.out HP.out (by decide)
        have hhas : hasK E k = false := by simpa using hhas
        have hp : putE E false k v = 0 := by rw [HPE.out, hhas]; rfl
        have HP := Lib.hid hp
        have HNE := Lib.hid (show ∀ nn, E[below E k]? = some nn → nn.k ≠ k from fun nn hnn => by unfold hasK at hhas; rw [hnn] at hhas; simpa using hhas)
        rw [hhas]
        clear hhas hp
        obtain ⟨h1, hh1⟩ : ∃ h1 : Int, h1 = max hh 1 := ⟨_, rfl⟩
        have HH1 := Lib.hid hh1
        clear hh1
        go_upto_if 46 with fail
        go_cut [3] from 10 (fun x wx => x = .int .i64 h1 ∧ w3 = wx)
        case first =>
          by_cases hc : hh < 1
          · have t1 : decide (hh < 1) = true := by simpa using hc
            go_wp2
            go_meet
            case rel => exact ⟨val_i (by rw [HH1.out]; omega), rfl⟩
          · have t1 : decide (hh < 1) = false := by simpa using hc
            go_wp2
            go_meet
            case rel => exact ⟨val_i (by rw [HH1.out]; omega), rfl⟩
        case rest =>
        obtain ⟨rfl, rfl⟩ := hcut
        obtain ⟨m, hm⟩ : ∃ m : Nat, m = clampH hh := ⟨_, rfl⟩
        have HM := Lib.hid (And.intro hm.symm (show 1 ≤ m ∧ m ≤ 12 by rw [hm]; unfold clampH; omega))
        clear hm
        go_upto_if 48 with fail
        go_cut [3] from 10 (fun x wx => x = .int .i64 (m : Int) ∧ w3 = wx)
        case first =>
          by_cases hc : 12 < h1
          · have t1 : decide (12 < h1) = true := by simpa using hc
            go_wp2
            go_meet
            case rel => exact ⟨val_i (by rw [← HM.out.1]; unfold clampH; rw [HH1.out] at hc; omega), rfl⟩
          · have t1 : decide (12 < h1) = false := by simpa using hc
            go_wp2
            go_meet
            case rel => exact ⟨val_i (by rw [← HM.out.1]; unfold clampH; rw [HH1.out] at hc; rw [HH1.out]; omega), rfl⟩
        case rest =>
        obtain ⟨rfl, rfl⟩ := hcut
        have HHN := Lib.hid HM.out.2
        have HHC := Lib.hid HM.out.1
        go_wp2_with fail
        have kd : w3.drew.cell? ⟨rb, 0, none⟩ = some (.slice (some ⟨g, 0, none⟩) n cap) := d0
        have HB : Hid (Below w.heap.size w w3.drew) := HB1.out.trans (Below.refl _ w3).drew
        have hzz : w.heap.size ≤ w3.heap.size := HB1.out.size
        clear d0
        refine wp_region_K (fun w' => w'.cell? ⟨rb, 0, none⟩ = some (.slice (some ⟨g, 0, none⟩) n cap)) 24 25 (by kernel_rfl) (by kernel_rfl) kd (fun hH => ?_)
        refine wpAnyK_take (i := 0) [24] (v := ?v23) rfl (by kernel_rfl) (by kernel_rfl) (by kernel_rfl) (by kernel_rfl) (fun _ _ _ h => h) (Or.inl ⟨by rfl, ?hy23⟩) hH ?rest23
        case hy23 => (intro w hSw; (try dsimp only at hSw); go_simp; with_reducible rfl)
        try simp only [Act.put, List.setIfInBounds_toArray, List.set_cons_zero, List.set_cons_succ]
        refine wpAnyK_take (i := 1) [24] (v := ?v24) rfl (by kernel_rfl) (by kernel_rfl) (by kernel_rfl) (by kernel_rfl) (fun _ _ _ h => h) (Or.inl ⟨by rfl, ?hy24⟩) hH ?rest24
        case hy24 => (intro w hSw; (try dsimp only at hSw); go_simp; with_reducible rfl)
        try simp only [Act.put, List.setIfInBounds_toArray, List.set_cons_zero, List.set_cons_succ]
        refine wpAnyK_take (i := 2) [24] (v := ?v25) rfl (by kernel_rfl) (by kernel_rfl) (by kernel_rfl) (by kernel_rfl) (fun _ _ _ h => h) (Or.inl ⟨by rfl, ?hy25⟩) hH ?rest25
        case hy25 => (intro w hSw; (try dsimp only at hSw); go_simp; with_reducible rfl)
        try simp only [Act.put, List.setIfInBounds_toArray, List.set_cons_zero, List.set_cons_succ]
        refine wpAnyK_take (i := 3) [24] (v := ?v26) rfl (by kernel_rfl) (by kernel_rfl) (by kernel_rfl) (by kernel_rfl) (fun _ _ _ h => h) (Or.inl ⟨by rfl, ?hy26⟩) hH ?rest26
        case hy26 => (intro w hSw; (try dsimp only at hSw); go_simp; with_reducible rfl)
        try simp only [Act.put, List.setIfInBounds_toArray, List.set_cons_zero, List.set_cons_succ]
        refine wpAnyK_take (i := 4) [24] (v := ?v27) rfl (by kernel_rfl) (by kernel_rfl) (by kernel_rfl) (by kernel_rfl) (fun _ _ _ h => h) (Or.inl ⟨by rfl, ?hy27⟩) hH ?rest27
        case hy27 => (intro w hSw; (try dsimp only at hSw); go_simp; with_reducible rfl)
        try simp only [Act.put, List.setIfInBounds_toArray, List.set_cons_zero, List.set_cons_succ]
        refine wpAnyK_take (i := 5) [24] (v := ?v28) rfl (by kernel_rfl) (by kernel_rfl) (by kernel_rfl) (by kernel_rfl) (fun _ _ _ h => h) (Or.inl ⟨by rfl, ?hy28⟩) hH ?rest28
        case hy28 => (intro w hSw; (try dsimp only at hSw); go_simp; with_reducible rfl)
        try simp only [Act.put, List.setIfInBounds_toArray, List.set_cons_zero, List.set_cons_succ]
        refine wpAnyK_take (i := 6) [24] (v := ?v29) rfl (by kernel_rfl) (by kernel_rfl) (by kernel_rfl) (by kernel_rfl) (fun _ _ _ h => h) (Or.inl ⟨by rfl, ?hy29⟩) hH ?rest29
        case hy29 => (intro w hSw; (try dsimp only at hSw); go_simp; with_reducible rfl)
        try simp only [Act.put, List.setIfInBounds_toArray, List.set_cons_zero, List.set_cons_succ]
        refine wpAnyK_take (i := 8) [24] (v := ?v30) rfl (by kernel_rfl) (by kernel_rfl) (by kernel_rfl) (by kernel_rfl) (fun _ _ _ h => h) (Or.inl ⟨by rfl, ?hy30⟩) hH ?rest30
        case hy30 => (intro w hSw; (try dsimp only at hSw); go_simp; with_reducible rfl)
        try simp only [Act.put, List.setIfInBounds_toArray, List.set_cons_zero, List.set_cons_succ]
        refine wpAnyK_take (i := 9) [24] (v := ?v31) rfl (by kernel_rfl) (by kernel_rfl) (by kernel_rfl) (by kernel_rfl) (fun _ _ _ h => h) (Or.inl ⟨by rfl, ?hy31⟩) hH ?rest31
        case hy31 => (intro w hSw; (try dsimp only at hSw); go_simp; with_reducible rfl)
        try simp only [Act.put, List.setIfInBounds_toArray, List.set_cons_zero, List.set_cons_succ]
        refine wpAnyK_take (i := 10) [24] (v := ?v32) rfl (by kernel_rfl) (by kernel_rfl) (by kernel_rfl) (by kernel_rfl) (fun _ _ _ h => h) (Or.inl ⟨by rfl, ?hy32⟩) hH ?rest32
        case hy32 => (intro w hSw; (try dsimp only at hSw); go_simp; with_reducible rfl)
        try simp only [Act.put, List.setIfInBounds_toArray, List.set_cons_zero, List.set_cons_succ]
        refine wpAnyK_take (i := 11) [24] (v := ?v33) rfl (by kernel_rfl) (by kernel_rfl) (by kernel_rfl) (by kernel_rfl) (fun _ _ _ h => h) (Or.inl ⟨by rfl, ?hy33⟩) hH ?rest33
        case hy33 => (intro w hSw; (try dsimp only at hSw); go_simp; with_reducible rfl)
        try simp only [Act.put, List.setIfInBounds_toArray, List.set_cons_zero, List.set_cons_succ]
        refine wpAnyK_take (i := 12) [24] (v := ?v34) rfl (by kernel_rfl) (by kernel_rfl) (by kernel_rfl) (by kernel_rfl) (fun _ _ _ h => h) (Or.inl ⟨by rfl, ?hy34⟩) hH ?rest34
        case hy34 => (intro w hSw; (try dsimp only at hSw); go_simp; with_reducible rfl)
        try simp only [Act.put, List.setIfInBounds_toArray, List.set_cons_zero, List.set_cons_succ]
        refine wpAnyK_take (i := 15) [24] (v := ?v35) rfl (by kernel_rfl) (by kernel_rfl) (by kernel_rfl) (by kernel_rfl) (fun _ _ _ h => h) (Or.inl ⟨by rfl, ?hy35⟩) hH ?rest35
        case hy35 => (intro w hSw; (try dsimp only at hSw); go_simp; with_reducible rfl)
        try simp only [Act.put, List.setIfInBounds_toArray, List.set_cons_zero, List.set_cons_succ]
        refine wpAnyK_take (i := 16) [24] (v := ?v36) rfl (by kernel_rfl) (by kernel_rfl) (by kernel_rfl) (by kernel_rfl) (fun _ _ _ h => h) (Or.inl ⟨by rfl, ?hy36⟩) hH ?rest36
        case hy36 => (intro w hSw; (try dsimp only at hSw); go_simp; with_reducible rfl)
        try simp only [Act.put, List.setIfInBounds_toArray, List.set_cons_zero, List.set_cons_succ]
        refine wpAnyK_take (i := 17) [24] (v := ?v37) rfl (by kernel_rfl) (by kernel_rfl) (by kernel_rfl) (by kernel_rfl) (fun _ _ _ h => h) (Or.inl ⟨by rfl, ?hy37⟩) hH ?rest37
        case hy37 => (intro w hSw; (try dsimp only at hSw); go_simp; with_reducible rfl)
        try simp only [Act.put, List.setIfInBounds_toArray, List.set_cons_zero, List.set_cons_succ]
        refine wpAnyK_take (i := 18) [24] (v := ?v38) rfl (by kernel_rfl) (by kernel_rfl) (by kernel_rfl) (by kernel_rfl) (fun _ _ _ h => h) (Or.inl ⟨by rfl, ?hy38⟩) hH ?rest38
        case hy38 => (intro w hSw; (try dsimp only at hSw); go_simp; with_reducible rfl)
        try simp only [Act.put, List.setIfInBounds_toArray, List.set_cons_zero, List.set_cons_succ]
        refine wpAnyK_take (i := 19) [24] (v := ?v39) rfl (by kernel_rfl) (by kernel_rfl) (by kernel_rfl) (by kernel_rfl) (fun _ _ _ h => h) (Or.inl ⟨by rfl, ?hy39⟩) hH ?rest39
        case hy39 => (intro w hSw; (try dsimp only at hSw); go_simp; with_reducible rfl)
        try simp only [Act.put, List.setIfInBounds_toArray, List.set_cons_zero, List.set_cons_succ]
        refine wpAnyK_take (i := 20) [24] (v := ?v40) rfl (by kernel_rfl) (by kernel_rfl) (by kernel_rfl) (by kernel_rfl) (fun _ _ _ h => h) (Or.inl ⟨by rfl, ?hy40⟩) hH ?rest40
        case hy40 => (intro w hSw; (try dsimp only at hSw); go_simp; with_reducible rfl)
        try simp only [Act.put, List.setIfInBounds_toArray, List.set_cons_zero, List.set_cons_succ]
        refine wpAnyK_all (rs := [7, 13]) (by kernel_rfl) (by simp) (fun jj hjj => ?_)
        rcases List.mem_cons.1 hjj with rfl | hjj2
        · refine wpOp_K rfl (fun K hK => ?_) (by kernel_rfl)
          refine step_app eRf rfl _ _ rfl (l := []) (l2 := E.take i) rfl rfl (World.ownsRow_nil _ w3.drew.heap.size _ _) (src_take HROW.out HN.out hbl (HB.out)) (by have := HL0.out; simp <;> omega) (Nat.le_refl _) ?_
          intro a1 cp1 wa ho1 hb1 _ _
          have hl1 : ([] : List Nd).length + (E.take i).length = i := by rw [List.length_take]; simp; have := HN.out; omega
          rw [hl1] at ho1 ⊢
          have HO1 := Lib.hid (row_mono (show Own eRf wa w3.drew.heap.size (.slice a1 i cp1) (E.take i) from ho1) HB.out.size)
          have hba := hb1
          clear ho1 hl1 hb1
          have kd2 := (HB.out.trans (hba.mono HB.out.size)).cell (p := ⟨rb, 0, none⟩) hrbw |>.trans c0
          have HB2 := Lib.hid (HB.out.trans (hba.mono HB.out.size))
          refine hK.out _ _ kd2 (fun hH => ?_)
          clear hK K
          try simp only [Act.put, List.setIfInBounds_toArray, List.set_cons_zero, List.set_cons_succ]
          refine wpAnyK_one (i := 13) (by kernel_rfl) rfl (fun K hK => ?_) (by kernel_rfl)
          go_simp
          obtain ⟨wb, hwb⟩ : ∃ wb, wb = wa.alloc (.cells #[.string k, .string v, .int .i64 (m : Int)] 76) := ⟨_, rfl⟩
          have hbb : Below wa.heap.size wa wb := by rw [hwb]; exact (Below.refl _ _).alloc (Nat.le_refl _) _
          have hsx : Src eRf wb (.slice (some ⟨wa.heap.size, 0, none⟩) 1 1) [⟨0, k, v, m⟩] := by rw [hwb]; exact src_one wa (⟨0, k, v, m⟩ : Nd) _ _ rfl 1
          rw [← hwb]
          clear hwb
          have HB3 := Lib.hid (HB2.out.trans (hbb.mono HB2.out.size))
          have HO3 := Lib.hid (And.intro (row_below HO1.out hbb) hsx)
          clear hbb hsx hba
          have kd3 := HB3.out.cell (p := ⟨rb, 0, none⟩) hrbw |>.trans c0
          refine hK.out _ _ kd3 (fun hH => ?_)
          clear hK K
          try simp only [Act.put, List.setIfInBounds_toArray, List.set_cons_zero, List.set_cons_succ]
          refine wpAnyK_one (i := 14) (by kernel_rfl) rfl (fun K hK => ?_) (by kernel_rfl)
          have hlt : (E.take i).length = i := by rw [List.length_take]; have := HN.out; omega
          refine step_app eRf rfl _ _ rfl (l := E.take i) (l2 := [⟨0, k, v, m⟩]) rfl rfl HO3.out.1 HO3.out.2 (by rw [hlt]; have := HL0.out; simp <;> omega) HB3.out.size ?_
          intro a4 cp4 wd ho4 hb4 _ _
          rw [hlt] at ho4 ⊢
          have HO4 := Lib.hid (show Own eRf wd w.heap.size (.slice a4 (i + 1) cp4) (E.take i ++ [⟨0, k, v, m⟩]) from ho4)
          have HB4 := Lib.hid (HB3.out.trans hb4)
          clear ho4 hb4
          have kd4 := HB4.out.cell (p := ⟨rb, 0, none⟩) hrbw |>.trans c0
          refine hK.out _ _ kd4 (fun hH => ?_)
          clear hK K
          try simp only [Act.put, List.setIfInBounds_toArray, List.set_cons_zero, List.set_cons_succ]
          refine wpAnyK_one (i := 21) (by kernel_rfl) rfl (fun K hK => ?_) (by kernel_rfl)
          have hlt4 : (E.take i ++ [(⟨0, k, v, m⟩ : Nd)]).length = i + 1 := by rw [List.length_append, hlt]; rfl
          have hld : (E.drop i).length = n - i := by rw [List.length_drop, ← HN.out]
          refine step_app eRf rfl _ _ rfl (l := E.take i ++ [⟨0, k, v, m⟩]) (l2 := E.drop i) rfl rfl HO4.out (src_drop2 HROW.out HN.out hbl HCAP.out HB4.out) (by rw [hlt4, hld]; have := HL0.out; have := HN.out; omega) HB4.out.size ?_
          intro a5 cp5 we ho5 hb5 _ _
          rw [hlt4, hld] at ho5 ⊢
          obtain ⟨n5, hn5⟩ : ∃ n5, n5 = i + 1 + (n - i) := ⟨_, rfl⟩
          rw [← hn5] at ho5 ⊢
          have HB5 := Lib.hid (HB4.out.trans hb5)
          have HO5 := Lib.hid (show Own eRf we w.heap.size (.slice a5 n5 cp5) (ins E (below E k) ⟨0, k, v, m⟩) from (by unfold ins; rw [HRI.out]; rw [List.append_assoc] at ho5; exact ho5))
          clear ho5 hb5 hn5 hlt4 hld hlt
          have kd5 := HB5.out.cell (p := ⟨rb, 0, none⟩) hrbw |>.trans c0
          have hfz5 : we.frozen? ⟨rb, 0, none⟩ = false := (HB5.out.frozen (p := ⟨rb, 0, none⟩) hrbw).trans (H0.out.fz 0)
          refine hK.out _ _ kd5 (fun hH => ?_)
          clear hK K
          try simp only [Act.put, List.setIfInBounds_toArray, List.set_cons_zero, List.set_cons_succ]
          refine wpAnyK_take (i := 22) [23, 24] (v := ?v41) rfl (by kernel_rfl) (by kernel_rfl) (by kernel_rfl) (by kernel_rfl) (fun _ _ _ h => h) (Or.inl ⟨by rfl, ?hy41⟩) hH ?rest41
          case hy41 => (intro w hSw; (try dsimp only at hSw); go_simp; with_reducible rfl)
          try simp only [Act.put, List.setIfInBounds_toArray, List.set_cons_zero, List.set_cons_succ]
          refine wpAnyK_take (i := 23) [24] (v := ?v42) rfl (by kernel_rfl) (by kernel_rfl) (by kernel_rfl) (by kernel_rfl) (fun _ _ _ h => h) (Or.inl ⟨by rfl, ?hy42⟩) hH ?rest42
          case hy42 => (intro w hSw; (try dsimp only at hSw); go_simp; with_reducible rfl)
          try simp only [Act.put, List.setIfInBounds_toArray, List.set_cons_zero, List.set_cons_succ]
          refine wpAnyK_last (by kernel_rfl) rfl (fun K hK => ?_) (by kernel_rfl)
          go_simp
          refine hK.out _ _ (wpAnyK_done (by kernel_rfl) ?_ _)
          clear hK K hH
          have hfin := rf_put_end (x := ⟨0, k, v, m⟩) H0.out HB5.out HO5.out HB0.out HL0.out HSZ.out HHN.out HNE.out
          have HFIN := Lib.hid hfin
          clear hfin kd5 kd4 kd3 hfz5 kd
          go_wp2_with fail
          all_goals
            go_ret
            refine ⟨ret_i HP.out.symm, _, ?_, HFIN.out.2.1, fun q hq => .inr (HFIN.out.2.2 q hq)⟩
            unfold putL
            rw [if_pos HP.out, HHC.out]
            exact HFIN.out.1
        · obtain rfl := List.mem_singleton.1 hjj2
          refine wpOp_K rfl (fun K hK => ?_) (by kernel_rfl)
          go_simp
          obtain ⟨wx, hwx⟩ : ∃ wx, wx = (w3.alloc (.cells #[.string k, .string v, .int .i64 (m : Int)] 76)).drew := ⟨_, rfl⟩
          have hbx : Below w3.drew.heap.size w3.drew wx := by rw [hwx]; exact (Below.refl _ w3.drew).alloc (Nat.le_refl _) _
          have hsx : Src eRf wx (.slice (some ⟨w3.heap.size, 0, none⟩) 1 1) [⟨0, k, v, m⟩] := by rw [hwx]; exact src_one w3.drew (⟨0, k, v, m⟩ : Nd) _ _ rfl 1
          have hsxlt : w3.heap.size < wx.heap.size := by rw [hwx]; simp [go_sem]
          rw [← hwx]
          clear hwx
          have HB2 := Lib.hid (HB.out.trans (hbx.mono HB.out.size))
          have hxx : wx.heap.size ≥ w3.heap.size + 0 := hbx.size
          have kd2 := HB2.out.cell (p := ⟨rb, 0, none⟩) hrbw |>.trans c0
          refine hK.out _ _ kd2 (fun hH => ?_)
          clear hK K
          try simp only [Act.put, List.setIfInBounds_toArray, List.set_cons_zero, List.set_cons_succ]
          clear HB
          have HB := HB2
          clear HB2
          have HSX := Lib.hid hsx
          clear hsx hbx hxx
          refine wpAnyK_one (i := 7) (by kernel_rfl) rfl (fun K hK => ?_) (by kernel_rfl)
          refine step_app eRf rfl _ _ rfl (l := []) (l2 := E.take i) rfl rfl (World.ownsRow_nil _ wx.heap.size _ _) (src_take HROW.out HN.out hbl (HB.out)) (by have := HL0.out; simp <;> omega) (Nat.le_refl _) ?_
          intro a1 cp1 wa ho1 hb1 _ _
          have hl1 : ([] : List Nd).length + (E.take i).length = i := by rw [List.length_take]; simp; have := HN.out; omega
          rw [hl1] at ho1 ⊢
          have HO1 := Lib.hid (row_mono (show Own eRf wa wx.heap.size (.slice a1 i cp1) (E.take i) from ho1) HB.out.size)
          have hba := hb1
          clear ho1 hl1 hb1
          obtain ⟨wb, hwb⟩ : ∃ wb, wb = wa := ⟨_, rfl⟩
          rw [← hwb] at hba HO1
          rw [← hwb]
          clear hwb
          have HB3 := Lib.hid (HB.out.trans (hba.mono HB.out.size))
          have HO3 := Lib.hid (And.intro HO1.out (HSX.out.below (n := wx.heap.size) hba (fun q hq => Option.some.inj hq ▸ hsxlt)))
          clear hba HO1
          have kd3 := HB3.out.cell (p := ⟨rb, 0, none⟩) hrbw |>.trans c0
          refine hK.out _ _ kd3 (fun hH => ?_)
          clear hK K
          try simp only [Act.put, List.setIfInBounds_toArray, List.set_cons_zero, List.set_cons_succ]
          refine wpAnyK_one (i := 14) (by kernel_rfl) rfl (fun K hK => ?_) (by kernel_rfl)
          have hlt : (E.take i).length = i := by rw [List.length_take]; have := HN.out; omega
          refine step_app eRf rfl _ _ rfl (l := E.take i) (l2 := [⟨0, k, v, m⟩]) rfl rfl HO3.out.1 HO3.out.2 (by rw [hlt]; have := HL0.out; simp <;> omega) HB3.out.size ?_
          intro a4 cp4 wd ho4 hb4 _ _
          rw [hlt] at ho4 ⊢
          have HO4 := Lib.hid (show Own eRf wd w.heap.size (.slice a4 (i + 1) cp4) (E.take i ++ [⟨0, k, v, m⟩]) from ho4)
          have HB4 := Lib.hid (HB3.out.trans hb4)
          clear ho4 hb4
          have kd4 := HB4.out.cell (p := ⟨rb, 0, none⟩) hrbw |>.trans c0
          refine hK.out _ _ kd4 (fun hH => ?_)
          clear hK K
          try simp only [Act.put, List.setIfInBounds_toArray, List.set_cons_zero, List.set_cons_succ]
          refine wpAnyK_one (i := 21) (by kernel_rfl) rfl (fun K hK => ?_) (by kernel_rfl)
          have hlt4 : (E.take i ++ [(⟨0, k, v, m⟩ : Nd)]).length = i + 1 := by rw [List.length_append, hlt]; rfl
          have hld : (E.drop i).length = n - i := by rw [List.length_drop, ← HN.out]
          refine step_app eRf rfl _ _ rfl (l := E.take i ++ [⟨0, k, v, m⟩]) (l2 := E.drop i) rfl rfl HO4.out (src_drop2 HROW.out HN.out hbl HCAP.out HB4.out) (by rw [hlt4, hld]; have := HL0.out; have := HN.out; omega) HB4.out.size ?_
          intro a5 cp5 we ho5 hb5 _ _
          rw [hlt4, hld] at ho5 ⊢
          obtain ⟨n5, hn5⟩ : ∃ n5, n5 = i + 1 + (n - i) := ⟨_, rfl⟩
          rw [← hn5] at ho5 ⊢
          have HB5 := Lib.hid (HB4.out.trans hb5)
          have HO5 := Lib.hid (show Own eRf we w.heap.size (.slice a5 n5 cp5) (ins E (below E k) ⟨0, k, v, m⟩) from (by unfold ins; rw [HRI.out]; rw [List.append_assoc] at ho5; exact ho5))
          clear ho5 hb5 hn5 hlt4 hld hlt
          have kd5 := HB5.out.cell (p := ⟨rb, 0, none⟩) hrbw |>.trans c0
          have hfz5 : we.frozen? ⟨rb, 0, none⟩ = false := (HB5.out.frozen (p := ⟨rb, 0, none⟩) hrbw).trans (H0.out.fz 0)
          refine hK.out _ _ kd5 (fun hH => ?_)
          clear hK K
          try simp only [Act.put, List.setIfInBounds_toArray, List.set_cons_zero, List.set_cons_succ]
          refine wpAnyK_take (i := 22) [23, 24] (v := ?v43) rfl (by kernel_rfl) (by kernel_rfl) (by kernel_rfl) (by kernel_rfl) (fun _ _ _ h => h) (Or.inl ⟨by rfl, ?hy43⟩) hH ?rest43
          case hy43 => (intro w hSw; (try dsimp only at hSw); go_simp; with_reducible rfl)
          try simp only [Act.put, List.setIfInBounds_toArray, List.set_cons_zero, List.set_cons_succ]
          refine wpAnyK_take (i := 23) [24] (v := ?v44) rfl (by kernel_rfl) (by kernel_rfl) (by kernel_rfl) (by kernel_rfl) (fun _ _ _ h => h) (Or.inl ⟨by rfl, ?hy44⟩) hH ?rest44
          case hy44 => (intro w hSw; (try dsimp only at hSw); go_simp; with_reducible rfl)
          try simp only [Act.put, List.setIfInBounds_toArray, List.set_cons_zero, List.set_cons_succ]
          refine wpAnyK_last (by kernel_rfl) rfl (fun K hK => ?_) (by kernel_rfl)
          go_simp
          refine hK.out _ _ (wpAnyK_done (by kernel_rfl) ?_ _)
          clear hK K hH
          have hfin := rf_put_end (x := ⟨0, k, v, m⟩) H0.out HB5.out HO5.out HB0.out HL0.out HSZ.out HHN.out HNE.out
          have HFIN := Lib.hid hfin
          clear hfin kd5 kd4 kd3 hfz5 kd
          go_wp2_with fail
          all_goals
            go_ret
            refine ⟨ret_i HP.out.symm, _, ?_, HFIN.out.2.1, fun q hq => .inr (HFIN.out.2.2 q hq)⟩
            unfold putL
            rw [if_pos HP.out, HHC.out]
            exact HFIN.out.1
end Go.Proofs.YtmodgjjlgobjcaaGreat