import Derived.Test.YtjebpppjhkkebaaGreatDoorM4
import Derived.Test.YtjebpppjhkkebaaGreatDoorGen
import Derived.Sort.OwnSorted
import Derived.Shelf.SlSortCmp.NoneTotal
import Derived.Test.YtjebpppjhkkebaaGreatDoorM2
import Derived.Test.YtjebpppjhkkebaaGreatDoorShelf
/-
  Manifest: files and notes are sorted.
-/
set_option linter.unusedSimpArgs false
set_option linter.unusedVariables false
namespace Go.Proofs.YtjebpppjhkkebaaGreatDoor
open Go.RowKit Go.Shelf

section
variable {α : Type} [Inhabited α] {cell : α → List Value} {k by_ : Nat} {P : Program} {T E : TypeId} {w : World} {B g cap : Nat}
theorem flatK_list (e : Elm P T E k by_ cell) (l : List α) : (Sort.flatK cell k l.toArray).toList = l.flatMap cell := by
  apply List.ext_getElem?
  intro t
  have hlen := e.lens l
  have hk0 := e.pos
  by_cases ht : t < l.length * k
  · have hi : t / k < l.length := (Nat.div_lt_iff_lt_mul hk0).2 ht
    have hr := Nat.mod_lt t hk0
    have hg := e.get l (t / k) (t % k) hi hr
    have hdm : t / k * k + t % k = t := by rw [Nat.mul_comm]; exact Nat.div_add_mod t k
    rw [hdm] at hg
    have hsz : t < (Sort.flatK cell k l.toArray).size := by rw [Sort.size_flatK]; simpa using ht
    rw [hg, Array.getElem?_toList, Array.getElem?_eq_getElem hsz]
    have h2 := Sort.get_flatK cell k l.toArray t (by simpa using ht)
    rw [getElem!_pos _ t hsz] at h2
    rw [h2]
    have h3 : l.toArray[t / k]! = l[t / k] := by rw [getElem!_pos _ _ (by simpa using hi)]; simp
    rw [h3]
    have h4 : t % k < (cell l[t / k]).length := by rw [e.len]; exact hr
    rw [getElem!_pos (cell l[t / k]) (t % k) h4, List.getElem?_eq_getElem h4]
  · rw [List.getElem?_eq_none (by rw [Array.length_toList, Sort.size_flatK]; simp; omega), List.getElem?_eq_none (by omega)]
theorem own_holdsK {e : Elm P T E k by_ cell} {l : List α} (h : Own e w B (.slice (some ⟨g, 0, none⟩) l.length cap) l) : Sort.HoldsK cell k w g 0 l.toArray := by
  intro j hj
  rw [Sort.size_flatK] at hj
  have hj' : j < l.length * k := by simpa using hj
  refine ⟨?_, h.frozenAt _⟩
  have h1 := h.cellAt j hj'
  rw [Nat.zero_add, h1, ← flatK_list e l, Array.getElem?_toList]
  have hsz : j < (Sort.flatK cell k l.toArray).size := by rw [Sort.size_flatK]; exact hj
  rw [Array.getElem?_eq_getElem hsz, getElem!_pos (Sort.flatK cell k l.toArray) j hsz]
  rfl
theorem take_putV (cur F : Array Value) (h : F.size ≤ cur.size) : (Sort.putCells id 0 F cur).toList.take F.size = F.toList := by
  apply List.ext_getElem?
  intro j
  by_cases hj : j < F.size
  · rw [List.getElem?_take_of_lt hj, Array.getElem?_toList]
    simp [Sort.putCells, hj, show j < cur.size by omega]
  · rw [List.getElem?_take_eq_none (by omega), List.getElem?_eq_none (by simp; omega)]
theorem own_sortedK {e : Elm P T E k by_ cell} {l d : List α} (h : Own e w B (.slice (some ⟨g, 0, none⟩) l.length cap) l) (hd : d.length = l.length) (n : Nat) (os : Array Obj) :
    Own e (sortWorldK cell k w g 0 n d.toArray os) B (.slice (some ⟨g, 0, none⟩) l.length cap) d ∧ Tn (fun q => q = g) w (sortWorldK cell k w g 0 n d.toArray os) := by
  obtain ⟨h1, h2⟩ := h
  rcases h2 with ⟨h2, _⟩ | ⟨g', cap', cur, hv, hg, hh, hn, hc, hcl, htk⟩
  · cases h2
  · injection hv with e1 e2 e3
    injection e1 with e1
    injection e1 with e1
    subst e1 e3
    have hlt : g < w.heap.size := (Array.getElem?_eq_some_iff.1 hh).1
    have hF : (Sort.flatK cell k d.toArray).size = l.length * k := by rw [Sort.size_flatK]; simp [hd]
    have hle : l.length * k ≤ cap * k := Nat.mul_le_mul_right k hn
    constructor
    · refine ⟨by rw [e.lens], .inr ⟨g, cap, Sort.putCells id 0 (Sort.flatK cell k d.toArray) cur, ?_, hg, ?_, by rw [hd]; exact hn, hc, by simp [Sort.putCells, hcl], ?_⟩⟩
      · rw [hd]
      · unfold sortWorldK Sort.putRowK
        rw [Sort.heap_grow_old _ _ (by simpa using hlt)]
        simp [Sort.putRow, Sort.mapBlock, Sort.ahead, Array.getElem?_modify, hh, Sort.onCells]
      · rw [hd, ← flatK_list e d, ← hF]
        exact take_putV cur _ (by rw [hF, hcl]; exact hle)
    · refine ⟨rfl, rfl, rfl, by unfold sortWorldK Sort.putRowK; simp, fun i hi hne => ?_⟩
      unfold sortWorldK Sort.putRowK
      rw [Sort.heap_grow_old _ _ (by simpa using hi)]
      have : g ≠ i := fun e => hne e.symm
      simp [Sort.putRow, Sort.mapBlock, Sort.ahead, Array.getElem?_modify, this]
theorem perm_of_in {d d' : Array α} (h : Sort.PermIn 0 d.size d d') : d'.toList.Perm d.toList ∧ d'.size = d.size := by
  obtain ⟨p1, _, p3⟩ := h
  refine ⟨?_, p1⟩
  have e1 : d'.extract 0 d.size = d' := by rw [← p1]; exact Array.extract_size
  have e2 : d.extract 0 d.size = d := Array.extract_size
  rwa [e1, e2] at p3
theorem pairwise_of_in {R : α → α → Prop} {lt : α → α → Bool} (hR : ∀ a b, lt b a = false → R a b) {n : Nat} {d' : Array α} (hn : d'.size = n) (h : Sort.SortedIn lt 0 n d') : d'.toList.Pairwise R := by
  rw [List.pairwise_iff_getElem]
  intro i j hi hj hij
  have hi3 : i < d'.size := by simpa using hi
  have hj3 : j < d'.size := by simpa using hj
  have := h i j (Nat.zero_le _) hij (by omega)
  rw [getElem!_pos d' i hi3, getElem!_pos d' j hj3] at this
  exact hR _ _ this
end
set_option maxRecDepth 100000 in
theorem sortFi_any {w : World} {B : Nat} {v : Value} {l : List Fi} (h : Own eFi w B v l) (hn : NumsF l) (hl : l.length ≤ 1000000) (hB : B ≤ w.heap.size) :
    Calls Tryz.prog 84 #[v, .func (.func 85) #[] #[]] w fun e w' => e = .returned (.tuple #[]) ∧ Own eFi w' B v (sortFi l) ∧ Tn (fun q => v.ownBlock = some q) w w' := by
  have h0 := h
  obtain ⟨h1, h2⟩ := h
  rcases h2 with ⟨rfl, h3⟩ | ⟨g, cap, cur, rfl, hg, hh, hle, hc, hcl, htk⟩
  · obtain rfl := List.eq_nil_of_length_eq_zero h3
    refine (AnyF.slices_SortFunc_none Tryz.gl_sortFi none 0 _ w).mono ?_
    rintro e w' ⟨rfl, rfl⟩
    exact ⟨rfl, by rw [show sortFi ([] : List Fi) = [] from by unfold sortFi; simp]; exact h0, Tn.refl _ _⟩
  · have eg : ∀ args w, (callFunc 85 args).run Tryz.prog w = .ok (.enter 85 args) w := enters_of Tryz.func85 (by kernel_rfl) rfl
    have hcon := AnyQ.slices_SortFunc Tryz.gl_sortFi 6 (fun _ => by kernel_rfl) (fun _ => by kernel_rfl) Fi.cells (fun _ => rfl) eFi.one cfF swoF 85 #[] g 0 cap l.toArray w eg
      (fun m os dk _ x y => tables1_any x y _) (own_holdsK h0) (h0.lt g rfl).2 (by simp; omega)
    have hsz : l.toArray.size = l.length := by simp
    rw [hsz] at hcon
    refine hcon.mono ?_
    rintro e w' ⟨rfl, d', n, os, hp, hso, rfl⟩
    rw [← hsz] at hp
    obtain ⟨hperm, hs⟩ := perm_of_in hp
    have hd : d'.toList = sortFi l := sortFi_uniq hn (by simpa using hperm) (pairwise_of_in (fun a b hab hlt => (of_decide_eq_false hab : ¬ cfF b a < 0) ((cfF_lt b a).2 hlt)) (hs.trans hsz) hso)
    have hlen : d'.toList.length = l.length := by rw [Array.length_toList, hs, hsz]
    have := own_sortedK h0 hlen n os
    rw [Array.toArray_toList] at this
    refine ⟨rfl, by rw [← hd]; exact this.1, this.2.mono (fun q hq => by rw [hq]; rfl)⟩
set_option maxRecDepth 100000 in
theorem sortNt_any {w : World} {B : Nat} {v : Value} {l : List KV} (h : Own eNt w B v l) (hn : (l.map (·.1)).Nodup) (hl : l.length ≤ 1000000) (hB : B ≤ w.heap.size) :
    Calls Tryz.prog 90 #[v, .func (.func 91) #[] #[]] w fun e w' => e = .returned (.tuple #[]) ∧ Own eNt w' B v (sortN l) ∧ Tn (fun q => v.ownBlock = some q) w w' := by
  have h0 := h
  obtain ⟨h1, h2⟩ := h
  rcases h2 with ⟨rfl, h3⟩ | ⟨g, cap, cur, rfl, hg, hh, hle, hc, hcl, htk⟩
  · obtain rfl := List.eq_nil_of_length_eq_zero h3
    refine (AnyF.slices_SortFunc_none Tryz.gl_sortNt none 0 _ w).mono ?_
    rintro e w' ⟨rfl, rfl⟩
    exact ⟨rfl, by rw [show sortN ([] : List KV) = [] from by unfold sortN; simp]; exact h0, Tn.refl _ _⟩
  · have eg : ∀ args w, (callFunc 91 args).run Tryz.prog w = .ok (.enter 91 args) w := enters_of Tryz.func91 (by kernel_rfl) rfl
    have hcon := AnyQ.slices_SortFunc Tryz.gl_sortNt 2 (fun _ => by kernel_rfl) (fun _ => by kernel_rfl) cNt (fun _ => rfl) eNt.one (fun a b : KV => kc a.1 b.1) swoN 91 #[] g 0 cap l.toArray w eg
      (fun m os dk _ x y => notes1_any x y _) (own_holdsK h0) (h0.lt g rfl).2 (by simp; omega)
    have hsz : l.toArray.size = l.length := by simp
    rw [hsz] at hcon
    refine hcon.mono ?_
    rintro e w' ⟨rfl, d', n, os, hp, hso, rfl⟩
    rw [← hsz] at hp
    obtain ⟨hperm, hs⟩ := perm_of_in hp
    have hd : d'.toList = sortN l := sortN_uniq hn (by simpa using hperm) (pairwise_of_in (R := fun a b => ¬ LtN b a) (fun a b hab => (of_decide_eq_false hab : ¬ kc b.1 a.1 < 0)) (hs.trans hsz) hso)
    have hlen : d'.toList.length = l.length := by rw [Array.length_toList, hs, hsz]
    have := own_sortedK h0 hlen n os
    rw [Array.toArray_toList] at this
    refine ⟨rfl, by rw [← hd]; exact this.1, this.2.mono (fun q hq => by rw [hq]; rfl)⟩
end Go.Proofs.YtjebpppjhkkebaaGreatDoor
/-
  Manifest: do tables of a level meet; are notes too long.
-/
set_option linter.unusedSimpArgs false
set_option linter.unusedVariables false
namespace Go.Proofs.YtjebpppjhkkebaaGreatDoor
open Go.RowKit

theorem rdf_cells {w : World} {a : Option Addr} {n c i : Nat} {l : List Fi} (h : RdF w (.slice a n c) l) (hi : i < l.length) : ∃ b off, a = some ⟨b, off, none⟩ ∧ b < w.heap.size ∧
    w.cell? ⟨b, off + i * 6, none⟩ = some (.int .i64 l[i].lv) ∧ w.cell? ⟨b, off + i * 6 + 1, none⟩ = some (.int .i64 l[i].nu) ∧ w.cell? ⟨b, off + i * 6 + 2, none⟩ = some (.int .i64 l[i].ct) ∧
    w.cell? ⟨b, off + i * 6 + 3, none⟩ = some (.int .i64 l[i].sz) ∧ w.cell? ⟨b, off + i * 6 + 4, none⟩ = some (.string l[i].f) ∧ w.cell? ⟨b, off + i * 6 + 5, none⟩ = some (.string l[i].l) := by
  obtain ⟨b, off, h1, h2, _, _, _, hc⟩ := h.at_ hi
  exact ⟨b, off, h1, h2, hc 0 _ rfl, hc 1 _ rfl, hc 2 _ rfl, hc 3 _ rfl, hc 4 _ rfl, hc 5 _ rfl⟩
theorem rdn_cells {w : World} {a : Option Addr} {n c i : Nat} {l : List KV} (h : RdN w (.slice a n c) l) (hi : i < l.length) : ∃ b off, a = some ⟨b, off, none⟩ ∧ b < w.heap.size ∧
    w.cell? ⟨b, off + i * 2, none⟩ = some (.string l[i].1) ∧ w.cell? ⟨b, off + i * 2 + 1, none⟩ = some (.string l[i].2) := by
  obtain ⟨b, off, h1, h2, _, _, _, hc⟩ := h.at_ hi
  exact ⟨b, off, h1, h2, hc 0 _ rfl, hc 1 _ rfl⟩
theorem textsN_take (l : List KV) (i : Nat) (hi : i < l.length) : textsN (l.take (i + 1)) = textsN (l.take i) + l[i].2.size := by
  unfold textsN
  rw [List.take_succ_eq_append_getElem hi, List.map_append, List.sum_append]
  simp
theorem textsN_le (l : List KV) (i : Nat) : textsN (l.take i) ≤ textsN l := by
  have : l = l.take i ++ l.drop i := (List.take_append_drop i l).symm
  conv => rhs; rw [this]
  unfold textsN
  rw [List.map_append, List.sum_append]
  omega
set_option maxHeartbeats 1000000 in
theorem long_any {w : World} {x : Value} {l : List KV} (h : RdN w x l) (hl : l.length ≤ 1000000000000000000) (ht : textsN l ≤ 1000000000000000000) :
    Calls Tryz.prog 43 #[x] w fun e w' => e = .returned (.bool (decide (50000 < textsN l))) ∧ Below w.heap.size w w' := by
  obtain ⟨a, c, rfl, hc1, hc2⟩ := h.form
  obtain ⟨n, hn⟩ : ∃ n, l.length = n := ⟨_, rfl⟩
  rw [hn] at h hl hc1 ⊢
  have H := Lib.hid (And.intro h (And.intro ht hn))
  clear h ht hn
  go_enter Tryz.func43, Tryz.ntmps43
  go_wp2_with fail
  go_loopw [3, 8] (fun s y wr => ∃ i : Nat, i ≤ n ∧ y = .int .i64 (i : Int) ∧ s = .int .i64 (textsN (l.take i) : Int) ∧ Below w.heap.size w wr) (fun _ y _ => n - (intOf y).toNat)
  case atStart => exact ⟨0, by omega, rfl, rfl, Below.refl _ _⟩
  case round =>
    obtain ⟨i, hi, rfl, rfl, hb⟩ := hrel
    have hle := textsN_le l i
    by_cases hlt : i < n
    · have hil : i < l.length := by rw [H.out.2.2]; exact hlt
      obtain ⟨b, off, rfl, hbl, c0, c1⟩ := rdn_cells H.out.1 hil
      have d0 := (hb.cell (p := ⟨b, off + i * 2, none⟩) hbl).trans c0
      have d1 := (hb.cell (p := ⟨b, off + i * 2 + 1, none⟩) hbl).trans c1
      have hnx := textsN_take l i hil
      have hle2 := textsN_le l (i + 1)
      have ht := H.out.2.1
      obtain ⟨kp, hkp⟩ : ∃ z, l[i].1 = z := ⟨_, rfl⟩
      obtain ⟨vp, hvp⟩ : ∃ z, l[i].2 = z := ⟨_, rfl⟩
      rw [hkp] at d0
      rw [hvp] at d1 hnx
      obtain ⟨q, hq⟩ : ∃ q, textsN (l.take i) = q := ⟨_, rfl⟩
      rw [hq] at hnx hle ⊢
      have hq2 : q + vp.size ≤ 1000000000000000000 := by omega
      have HB := Lib.hid (And.intro hb hnx)
      have z0 : (i : Int) < (n : Int) := by omega
      have z1 : (0 : Int) ≤ (i : Int) := by omega
      clear c0 c1 hb hnx hkp hvp hq hle hle2 ht
      go_wp2_with fail
      go_roundw
      case rel => exact ⟨i + 1, by omega, by go_num, by rw [HB.out.2]; go_num, HB.out.1.alloc HB.out.1.size _⟩
      case measure => simp [intOf]; omega
    · obtain rfl : i = n := by omega
      have hfull : l.take i = l := by rw [← H.out.2.2]; exact List.take_length
      rw [hfull]
      obtain ⟨q, hq⟩ : ∃ q, textsN l = q := ⟨_, rfl⟩
      rw [hq]
      have HB := Lib.hid hb
      have HQ := Lib.hid hq
      have z0 : ¬ (i : Int) < (i : Int) := by omega
      clear hb hfull hq hle
      by_cases h5 : 50000 < q
      · have z5 : (50000 : Int) < (q : Int) := by omega
        go_wp2_with fail
        go_ret
        exact ⟨by rw [HQ.out, decide_eq_true h5]; rfl, HB.out⟩
      · have z5 : ¬ (50000 : Int) < (q : Int) := by omega
        go_wp2_with fail
        go_ret
        exact ⟨by rw [HQ.out, decide_eq_false h5]; rfl, HB.out⟩
set_option maxRecDepth 100000 in
set_option maxHeartbeats 2000000 in
theorem mmeet_any {w : World} {x : Value} {l : List Fi} (h : RdF w x l) (hl : l.length ≤ 1000000) :
    Calls Tryz.prog 42 #[x] w fun e w' => ((ApartF l ∧ e = .returned (.bool false)) ∨ (¬ ApartF l ∧ e = .returned (.bool true))) ∧ Below w.heap.size w w' := by
  obtain ⟨a, c, rfl, hc1, hc2⟩ := h.form
  obtain ⟨n, hn⟩ : ∃ n, l.length = n := ⟨_, rfl⟩
  rw [hn] at h hl hc1 ⊢
  have H := Lib.hid (And.intro h hn)
  clear h hn
  go_enter Tryz.func42, Tryz.ntmps42
  go_wp2_with fail
  go_loopw [9] (fun y wr => ∃ i : Nat, i ≤ n ∧ y = .int .i64 (i : Int) ∧ ApartF (l.take i) ∧ Below w.heap.size w wr) (fun y _ => n - (intOf y).toNat)
  case atStart => exact ⟨0, by omega, rfl, List.Pairwise.nil, Below.refl _ _⟩
  case round =>
    obtain ⟨i, hi, rfl, hap, hb⟩ := hrel
    obtain ⟨wo, rfl⟩ : ∃ wo, wo = wr := ⟨_, rfl⟩
    by_cases hlt : i < n
    · have hil : i < l.length := by rw [H.out.2]; exact hlt
      obtain ⟨b, off, rfl, hbl, c0, c1, c2, c3, c4, c5⟩ := rdf_cells H.out.1 hil
      have hblo : b < wo.heap.size := Nat.lt_of_lt_of_le hbl hb.size
      have e0 := (hb.cell (p := ⟨b, off + i * 6, none⟩) hbl).trans c0
      have e1 := (hb.cell (p := ⟨b, off + i * 6 + 1, none⟩) hbl).trans c1
      have e2 := (hb.cell (p := ⟨b, off + i * 6 + 2, none⟩) hbl).trans c2
      have e3 := (hb.cell (p := ⟨b, off + i * 6 + 3, none⟩) hbl).trans c3
      have e4 := (hb.cell (p := ⟨b, off + i * 6 + 4, none⟩) hbl).trans c4
      have e5 := (hb.cell (p := ⟨b, off + i * 6 + 5, none⟩) hbl).trans c5
      have htk : l.take (i + 1) = l.take i ++ [l[i]] := List.take_succ_eq_append_getElem hil
      have hmet : ∀ j (hj : j < i), metF l[i] (l[j]'(by omega)) → ¬ ApartF l := fun j hj hm hA => List.pairwise_iff_getElem.1 hA j i (by omega) hil hj hm
      have hstep : (∀ j (hj : j < i), ¬ metF l[i] (l[j]'(by omega))) → ApartF (l.take (i + 1)) := by
        intro hno
        rw [htk]
        refine List.pairwise_append.2 ⟨hap, List.pairwise_singleton _ _, fun p hp q hq => ?_⟩
        rw [List.mem_singleton] at hq
        subst hq
        obtain ⟨j, hj, rfl⟩ := List.mem_iff_getElem.1 hp
        rw [List.length_take] at hj
        rw [List.getElem_take]
        exact hno j (by omega)
      obtain ⟨A, hA⟩ : ∃ A, l[i] = A := ⟨_, rfl⟩
      rw [hA] at e0 e1 e2 e3 e4 e5 hstep hmet
      obtain ⟨alv, anu, act, asz, af, al⟩ := A
      simp only at e0 e1 e2 e3 e4 e5
      obtain ⟨w4, hw4⟩ : ∃ w4, w4 = wo.alloc (.cells #[.int .i64 alv, .int .i64 anu, .int .i64 act, .int .i64 asz, .string af, .string al] 54) := ⟨_, rfl⟩
      have p0 : w4.cell? ⟨wo.heap.size, 0, none⟩ = some (.int .i64 alv) := by rw [hw4]; simp [go_sem]
      have p4 : w4.cell? ⟨wo.heap.size, 4, none⟩ = some (.string af) := by rw [hw4]; simp [go_sem]
      have p5 : w4.cell? ⟨wo.heap.size, 5, none⟩ = some (.string al) := by rw [hw4]; simp [go_sem]
      have hb4 : Below w.heap.size w w4 := by rw [hw4]; exact hb.alloc hb.size _
      have hz4 : wo.heap.size < w4.heap.size := by rw [hw4]; simp
      have HI := Lib.hid (And.intro hstep (And.intro hmet (And.intro hb4 (And.intro p0 (And.intro p4 (And.intro p5 hz4))))))
      have z0 : (i : Int) < (n : Int) := by omega
      have z1 : (0 : Int) ≤ (i : Int) := by omega
      have z2 : ((i : Int)).toNat = i := by omega
      have z3 : (i : Int) ≤ (c : Int) := by omega
      clear c0 c1 c2 c3 c4 c5 htk hstep hmet hap hb hb4 p0 p4 p5 hA
      go_wp2_with fail
      rw [← hw4]
      clear hw4 e0 e1 e2 e3 e4 e5
      go_wp2_with fail
      go_loopw [18] (fun y wx => ∃ j : Nat, j ≤ i ∧ y = .int .i64 (j : Int) ∧ (∀ k (hk : k < j) (hki : k < i), ¬ metF ⟨alv, anu, act, asz, af, al⟩ (l[k]'(by omega))) ∧ Below w4.heap.size w4 wx) (fun y _ => i - (intOf y).toNat)
      case atStart => exact ⟨0, by omega, rfl, fun k hk => by omega, Below.refl _ _⟩
      case round =>
        obtain ⟨j, hj, rfl, hno, hbx⟩ := hrel
        by_cases hji : j < i
        · have hjl : j < l.length := by omega
          have q0 := (hbx.cell (p := ⟨wo.heap.size, 0, none⟩) HI.out.2.2.2.2.2.2).trans HI.out.2.2.2.1
          have q4 := (hbx.cell (p := ⟨wo.heap.size, 4, none⟩) HI.out.2.2.2.2.2.2).trans HI.out.2.2.2.2.1
          have q5 := (hbx.cell (p := ⟨wo.heap.size, 5, none⟩) HI.out.2.2.2.2.2.2).trans HI.out.2.2.2.2.2.1
          obtain ⟨b', off', hbb, hbl', c0, c1, c2, c3, c4, c5⟩ := rdf_cells H.out.1 hjl
          injection hbb with hbb
          injection hbb with hb1 hb2 _
          subst hb1 hb2
          have hbw : Below w.heap.size w wr := HI.out.2.2.1.trans (hbx.mono HI.out.2.2.1.size)
          have e0 := (hbw.cell (p := ⟨b, off + j * 6, none⟩) hbl).trans c0
          have e1 := (hbw.cell (p := ⟨b, off + j * 6 + 1, none⟩) hbl).trans c1
          have e2 := (hbw.cell (p := ⟨b, off + j * 6 + 2, none⟩) hbl).trans c2
          have e3 := (hbw.cell (p := ⟨b, off + j * 6 + 3, none⟩) hbl).trans c3
          have e4 := (hbw.cell (p := ⟨b, off + j * 6 + 4, none⟩) hbl).trans c4
          have e5 := (hbw.cell (p := ⟨b, off + j * 6 + 5, none⟩) hbl).trans c5
          have hmj := HI.out.2.1 j hji
          have hnx : ∀ (hm : ¬ metF ⟨alv, anu, act, asz, af, al⟩ l[j]), ∀ k (hk : k < j + 1) (hki : k < i), ¬ metF ⟨alv, anu, act, asz, af, al⟩ (l[k]'(by omega)) := by
            intro hm k hk hki
            by_cases hkj : k = j
            · subst hkj; exact hm
            · exact hno k (by omega) hki
          obtain ⟨B, hB⟩ : ∃ B, l[j] = B := ⟨_, rfl⟩
          rw [hB] at e0 e1 e2 e3 e4 e5 hmj hnx
          obtain ⟨blv, bnu, bct, bsz, bf, bl⟩ := B
          simp only at e0 e1 e2 e3 e4 e5
          unfold metF at hmj hnx
          simp only at hmj hnx
          obtain ⟨w5, hw5⟩ : ∃ w5, wr.alloc (.cells #[.int .i64 blv, .int .i64 bnu, .int .i64 bct, .int .i64 bsz, .string bf, .string bl] 54) = w5 := ⟨_, rfl⟩
          have r0 : w5.cell? ⟨wr.heap.size, 0, none⟩ = some (.int .i64 blv) := by rw [← hw5]; simp [go_sem]
          have r4 : w5.cell? ⟨wr.heap.size, 4, none⟩ = some (.string bf) := by rw [← hw5]; simp [go_sem]
          have r5 : w5.cell? ⟨wr.heap.size, 5, none⟩ = some (.string bl) := by rw [← hw5]; simp [go_sem]
          have hb5 : Below wr.heap.size wr w5 := by rw [← hw5]; exact (Below.refl _ _).alloc (Nat.le_refl _) _
          have q0' := (hb5.cell (p := ⟨wo.heap.size, 0, none⟩) (World.block_lt_of_cell? _ _ q0)).trans q0
          have q4' := (hb5.cell (p := ⟨wo.heap.size, 4, none⟩) (World.block_lt_of_cell? _ _ q4)).trans q4
          have q5' := (hb5.cell (p := ⟨wo.heap.size, 5, none⟩) (World.block_lt_of_cell? _ _ q5)).trans q5
          have hb45 : Below w4.heap.size w4 w5 := hbx.trans (hb5.mono hbx.size)
          have hbw5 : Below w.heap.size w w5 := hbw.trans (hb5.mono hbw.size)
          have HJ := Lib.hid (And.intro hmj (And.intro hnx (And.intro hb45 hbw5)))
          have y0 : (j : Int) < (i : Int) := by omega
          have y1 : (0 : Int) ≤ (j : Int) := by omega
          clear c0 c1 c2 c3 c4 c5 hmj hnx hb45 hbw5 hb5 hbw hbx hno hB q0 q4 q5
          by_cases m1 : 1 ≤ alv
          · by_cases m2 : alv = blv
            · subst m2
              have t2 : (alv == alv) = true := beq_self_eq_true _
              by_cases m3 : kc af bl ≤ 0
              · by_cases m4 : kc bf al ≤ 0
                · have hA := HJ.out.1 ⟨m1, rfl, m3, m4⟩
                  have HA := Lib.hid hA
                  clear hA
                  go_wp2_with (go_at_call 45; refine (kcompare_any _ _ _).mono ?_; rintro e w' ⟨rfl, rfl⟩)
                  go_ret
                  exact ⟨.inr ⟨HA.out, rfl⟩, HJ.out.2.2.2⟩
                · have hm := HJ.out.2.1 (fun h => m4 h.2.2.2)
                  have HN := Lib.hid hm
                  clear hm
                  go_wp2_with (go_at_call 45; refine (kcompare_any _ _ _).mono ?_; rintro e w' ⟨rfl, rfl⟩)
                  go_roundw
                  case rel => first | exact ⟨j + 1, by omega, by go_num, HN.out, HJ.out.2.2.1⟩ | exact ⟨.int .i64 ((j : Int) + 1), ⟨j + 1, by omega, by go_num, HN.out, HJ.out.2.2.1⟩, rfl⟩ | exact ⟨_, _, .int .i64 ((j : Int) + 1), ⟨j + 1, by omega, by go_num, HN.out, HJ.out.2.2.1⟩, rfl, rfl, rfl⟩
                  case measure => simp [intOf]; omega
              · have hm := HJ.out.2.1 (fun h => m3 h.2.2.1)
                have HN := Lib.hid hm
                clear hm
                go_wp2_with (go_at_call 45; refine (kcompare_any _ _ _).mono ?_; rintro e w' ⟨rfl, rfl⟩)
                go_roundw
                case rel => first | exact ⟨j + 1, by omega, by go_num, HN.out, HJ.out.2.2.1⟩ | exact ⟨.int .i64 ((j : Int) + 1), ⟨j + 1, by omega, by go_num, HN.out, HJ.out.2.2.1⟩, rfl⟩ | exact ⟨_, _, .int .i64 ((j : Int) + 1), ⟨j + 1, by omega, by go_num, HN.out, HJ.out.2.2.1⟩, rfl, rfl, rfl⟩
                case measure => simp [intOf]; omega
            · have t2 : (alv == blv) = false := beq_eq_false_iff_ne.2 m2
              have hm := HJ.out.2.1 (fun h => m2 h.2.1)
              have HN := Lib.hid hm
              clear hm
              go_wp2_with (go_at_call 45; refine (kcompare_any _ _ _).mono ?_; rintro e w' ⟨rfl, rfl⟩)
              go_roundw
              case rel => first | exact ⟨j + 1, by omega, by go_num, HN.out, HJ.out.2.2.1⟩ | exact ⟨.int .i64 ((j : Int) + 1), ⟨j + 1, by omega, by go_num, HN.out, HJ.out.2.2.1⟩, rfl⟩ | exact ⟨_, _, .int .i64 ((j : Int) + 1), ⟨j + 1, by omega, by go_num, HN.out, HJ.out.2.2.1⟩, rfl, rfl, rfl⟩
              case measure => simp [intOf]; omega
          · have hm := HJ.out.2.1 (fun h => m1 h.1)
            have HN := Lib.hid hm
            clear hm
            go_wp2_with (go_at_call 45; refine (kcompare_any _ _ _).mono ?_; rintro e w' ⟨rfl, rfl⟩)
            go_roundw
            case rel => first | exact ⟨j + 1, by omega, by go_num, HN.out, HJ.out.2.2.1⟩ | exact ⟨.int .i64 ((j : Int) + 1), ⟨j + 1, by omega, by go_num, HN.out, HJ.out.2.2.1⟩, rfl⟩ | exact ⟨_, _, .int .i64 ((j : Int) + 1), ⟨j + 1, by omega, by go_num, HN.out, HJ.out.2.2.1⟩, rfl, rfl, rfl⟩
            case measure => simp [intOf]; omega
        · obtain rfl : j = i := by omega
          have hst := HI.out.1 (fun k hk => hno k hk hk)
          have hbw : Below w.heap.size w wr := HI.out.2.2.1.trans (hbx.mono HI.out.2.2.1.size)
          have HJ := Lib.hid (And.intro hst hbw)
          have y0 : ¬ (j : Int) < (j : Int) := by omega
          clear hst hbw hbx hno
          go_wp2_with fail
          go_roundw
          case rel => exact ⟨j + 1, by omega, by go_num, HJ.out.1, HJ.out.2⟩
          case measure => simp [intOf]; omega
    · obtain rfl : i = n := by omega
      have hfull : l.take i = l := by rw [← H.out.2]; exact List.take_length
      rw [hfull] at hap
      have HB := Lib.hid (And.intro hap hb)
      have z0 : ¬ (i : Int) < (i : Int) := by omega
      clear hap hb hfull
      go_wp2_with fail
      go_ret
      exact ⟨.inl ⟨HB.out.1, rfl⟩, HB.out.2⟩
end Go.Proofs.YtjebpppjhkkebaaGreatDoor
/-
  Disk: is a text a name?
-/
set_option linter.unusedSimpArgs false
set_option linter.unusedVariables false
namespace Go.Proofs.YtjebpppjhkkebaaGreatDoor
open Go.RowKit

def csetL : List UInt8 := [97, 98, 99, 100, 101, 102, 103, 104, 105, 106, 107, 108, 109, 110, 111, 112, 113, 114, 115, 116, 117, 118, 119, 120, 121, 122, 48, 49, 50, 51, 52, 53, 54, 55, 56, 57, 46, 45, 95, 47]
def csetB : ByteArray := ⟨csetL.toArray⟩
theorem cset_okc (c : UInt8) : csetL.contains c = okc c := by
  have h : (List.range 256).all (fun n => csetL.contains (UInt8.ofNat n) == okc (UInt8.ofNat n)) = true := by decide +kernel
  have h2 := List.all_eq_true.1 h c.toNat (List.mem_range.2 c.toNat_lt)
  simpa using h2
theorem cset_ascii : ∀ (j : Nat) b, csetB.data.toList[j]? = some b → b.toNat < 128 := by
  have h : csetL.all (fun b => decide (b.toNat < 128)) = true := by decide +kernel
  intro j b hb
  have hm : b ∈ csetL := List.mem_of_getElem? hb
  simpa using List.all_eq_true.1 h b hm

/-- What is left of a text when all letters of the set ahead are cut off; behind. -/
def TlE (s : ByteArray) (e : Ending) : Prop := ∃ t : ByteArray, e = .returned (.string t) ∧ ∃ k, k ≤ s.size ∧ t = ⟨(s.data.toList.drop k).toArray⟩ ∧ (∀ (j : Nat) b, j < k → s.data.toList[j]? = some b → csetL.contains b = true) ∧ ∀ b, s.data.toList[k]? = some b → csetL.contains b = false
def TrE (s : ByteArray) (e : Ending) : Prop := ∃ t : ByteArray, e = .returned (.string t) ∧ ∃ k, k ≤ s.size ∧ t = ⟨(s.data.toList.take k).toArray⟩ ∧ (∀ (j : Nat) b, k ≤ j → s.data.toList[j]? = some b → csetL.contains b = true) ∧ ∀ b, 0 < k → s.data.toList[k - 1]? = some b → csetL.contains b = false
set_option maxHeartbeats 2000000 in
set_option maxRecDepth 1000000 in
theorem tl_any (s : ByteArray) (b : Nat) (w : World) (hset : ∀ x : UInt8, w.cell? ⟨b, x.toNat, none⟩ = some (.bool (csetL.contains x))) :
    Calls Tryz.prog 96 #[.string s, .pointer (some ⟨b, 0, none⟩)] w fun e w' => TlE s e ∧ w = w' := by
  have HS := Lib.hid hset
  clear hset
  go_enter Tryz.func96, Tryz.ntmps96
  go_wp2
  go_loop [0] (fun v => ∃ k : Nat, k ≤ s.size ∧ v = .string ⟨(s.data.toList.drop k).toArray⟩ ∧ ∀ (j : Nat) b, j < k → s.data.toList[j]? = some b → csetL.contains b = true) (fun v => Lib.strSize v)
  case atStart => exact ⟨0, Nat.zero_le _, by simp, fun j b hj => absurd hj (Nat.not_lt_zero _)⟩
  case round =>
    obtain ⟨k, hk, rfl, hc⟩ := hrel
    have hts : (⟨(s.data.toList.drop k).toArray⟩ : ByteArray).size = s.size - k := by rw [Lib.size_mk, List.length_drop, ← Lib.size_eq]
    have hb0 : ∀ h, s.data.toList[k]? = some ((⟨(s.data.toList.drop k).toArray⟩ : ByteArray)[0]'h) := by
      intro h
      rw [← Lib.getElem_mk (s.data.toList.drop k) 0 h, List.getElem?_drop]
      rfl
    have hx1 : (⟨(s.data.toList.drop k).toArray⟩ : ByteArray).extract 1 (s.size - k) = ⟨(s.data.toList.drop (k + 1)).toArray⟩ := by
      rw [Lib.extract_mk, List.drop_drop, List.take_of_length_le (by simp; omega)]
    have hK := Lib.hid hc
    clear hc
    obtain ⟨t, ht⟩ : ∃ t, (⟨(s.data.toList.drop k).toArray⟩ : ByteArray) = t := ⟨_, rfl⟩
    rw [ht] at hts hb0 hx1 ⊢
    have hK3 := Lib.hid ht
    clear ht
    have hkl := Lib.hid (show k ≤ s.data.toList.length by rw [← Lib.size_eq]; exact hk)
    by_cases h0 : 0 < t.size
    · have hbk := hb0 h0
      clear hb0
      have hK2 := Lib.hid hbk
      clear hbk
      have hcx := HS.out (t[0]'h0)
      cases hin : csetL.contains (t[0]'h0) <;> rw [hin] at hcx
      · have HI := Lib.hid hin
        clear hin
        go_wp2_with (go_at_call 140; refine (Tryz.asciiSet_contains _ (t[0]'h0) _ _ hcx).mono ?_; rintro e w' ⟨rfl, hw⟩; rw [hw])
        go_ret
        refine ⟨⟨t, rfl, k, hk, hK3.out.symm, hK.out, fun b hb => ?_⟩, rfl⟩
        rw [hK2.out] at hb
        rw [← Option.some.inj hb]
        exact HI.out
      · have HI := Lib.hid hin
        clear hin
        go_wp2_with (go_at_call 140; refine (Tryz.asciiSet_contains _ (t[0]'h0) _ _ hcx).mono ?_; rintro e w' ⟨rfl, hw⟩; rw [hw])
        refine ⟨⟨k + 1, by omega, rfl, fun j b hj hb => ?_⟩, ?_⟩
        · by_cases e : j = k
          · subst e
            have h3 : s.data.toList[j]? = some b := by simpa using hb
            rw [hK2.out] at h3
            rw [← Option.some.inj h3]
            exact HI.out
          · exact hK.out j b (by omega) (by simpa using hb)
        · rw [Lib.strSize_string, Lib.strSize_string, Lib.size_mk, List.length_drop, ← Lib.size_eq]
          omega
    · clear hb0
      go_wp2
      go_ret
      refine ⟨⟨t, rfl, k, hk, hK3.out.symm, hK.out, fun b hb => ?_⟩, rfl⟩
      have : s.data.toList.length ≤ k := by rw [← Lib.size_eq]; omega
      simp [List.getElem?_eq_none this] at hb

set_option maxHeartbeats 2000000 in
set_option maxRecDepth 1000000 in
theorem tr_any (s : ByteArray) (b : Nat) (w : World) (hs : s.size ≤ 9223372036854775807) (hset : ∀ x : UInt8, w.cell? ⟨b, x.toNat, none⟩ = some (.bool (csetL.contains x))) :
    Calls Tryz.prog 97 #[.string s, .pointer (some ⟨b, 0, none⟩)] w fun e w' => TrE s e ∧ w = w' := by
  have HS := Lib.hid hset
  clear hset
  go_enter Tryz.func97, Tryz.ntmps97
  go_wp2
  go_loop [0] (fun v => ∃ k : Nat, k ≤ s.size ∧ v = .string ⟨(s.data.toList.take k).toArray⟩ ∧ ∀ (j : Nat) b, k ≤ j → s.data.toList[j]? = some b → csetL.contains b = true) (fun v => Lib.strSize v)
  case atStart =>
    refine ⟨s.size, Nat.le_refl _, ?_, fun j b hj hb => ?_⟩
    · rw [Lib.size_eq, List.take_length, Lib.mk_data]
    · have : s.data.toList.length ≤ j := by rw [← Lib.size_eq]; exact hj
      simp [List.getElem?_eq_none this] at hb
  case round =>
    obtain ⟨k, hk, rfl, hc⟩ := hrel
    have hkl : k ≤ s.data.toList.length := by rw [← Lib.size_eq]; exact hk
    have hts : (⟨(s.data.toList.take k).toArray⟩ : ByteArray).size = k := by rw [Lib.size_mk, List.length_take]; omega
    have hb0 : ∀ h, s.data.toList[k - 1]? = some ((⟨(s.data.toList.take k).toArray⟩ : ByteArray)[k - 1]'h) := by
      intro h
      rw [← Lib.getElem_mk (s.data.toList.take k) (k - 1) h, List.getElem?_take]
      rw [hts] at h
      rw [if_pos h]
    have hx1 : (⟨(s.data.toList.take k).toArray⟩ : ByteArray).extract 0 (k - 1) = ⟨(s.data.toList.take (k - 1)).toArray⟩ := by
      rw [Lib.extract_mk, List.drop_zero, List.take_take]
      congr 3
      omega
    have hK := Lib.hid hc
    clear hc
    have hkl' := Lib.hid hkl
    clear hkl
    obtain ⟨t, ht⟩ : ∃ t, (⟨(s.data.toList.take k).toArray⟩ : ByteArray) = t := ⟨_, rfl⟩
    rw [ht] at hts hb0 hx1 ⊢
    have hK3 := Lib.hid ht
    clear ht
    by_cases h0 : 0 < k
    · have h1 : k - 1 < t.size := by omega
      have hwr : ((k : Int) - 1 + 9223372036854775808) % 18446744073709551616 - 9223372036854775808 = ((k - 1 : Nat) : Int) := by omega
      have hbk := hb0 h1
      clear hb0
      have hK2 := Lib.hid hbk
      clear hbk
      have hcx := HS.out (t[k - 1]'h1)
      cases hin : csetL.contains (t[k - 1]'h1) <;> rw [hin] at hcx
      · have HI := Lib.hid hin
        clear hin
        go_wp2_with (go_at_call 140; refine (Tryz.asciiSet_contains _ (t[k - 1]'h1) _ _ hcx).mono ?_; rintro e w' ⟨rfl, hw⟩; rw [hw])
        go_ret
        refine ⟨⟨t, rfl, k, hk, hK3.out.symm, hK.out, fun b _ hb => ?_⟩, rfl⟩
        rw [hK2.out] at hb
        rw [← Option.some.inj hb]
        exact HI.out
      · have HI := Lib.hid hin
        clear hin
        go_wp2_with (go_at_call 140; refine (Tryz.asciiSet_contains _ (t[k - 1]'h1) _ _ hcx).mono ?_; rintro e w' ⟨rfl, hw⟩; rw [hw])
        refine ⟨⟨k - 1, by omega, rfl, fun j b hj hb => ?_⟩, ?_⟩
        · by_cases e : j = k - 1
          · subst e
            have h3 : s.data.toList[k - 1]? = some b := by simpa using hb
            rw [hK2.out] at h3
            rw [← Option.some.inj h3]
            exact HI.out
          · exact hK.out j b (by omega) (by simpa using hb)
        · have hkl := hkl'.out
          rw [Lib.strSize_string, Lib.strSize_string, Lib.size_mk, List.length_take]
          omega
    · clear hb0
      go_wp2
      go_ret
      exact ⟨⟨t, rfl, k, hk, hK3.out.symm, hK.out, fun b hk0 _ => absurd hk0 h0⟩, rfl⟩

theorem trim_empty {s t : ByteArray} {e : Ending} (h1 : TrE s (.returned (.string t))) (h2 : TlE t e) : ∃ u : ByteArray, e = .returned (.string u) ∧ (u.size = 0 ↔ s.data.toList.all okc = true) := by
  obtain ⟨t', e1, k, hk, ht, ha, hb⟩ := h1
  injection e1 with e1
  injection e1 with e1
  subst e1
  obtain ⟨u, rfl, j, hj, hu, hc, hd⟩ := h2
  have htl : t.data.toList = s.data.toList.take k := by rw [ht]
  have hkl : k ≤ s.data.toList.length := by rw [← Lib.size_eq]; exact hk
  have hts : t.size = k := by rw [Lib.size_eq, htl, List.length_take]; omega
  rw [htl] at hc hd hu
  refine ⟨u, rfl, ?_⟩
  have hus : u.size = k - j := by rw [hu, Lib.size_mk, List.length_drop, List.length_take]; omega
  rw [hus]
  constructor
  · intro h0
    rw [List.all_eq_true]
    intro b hb'
    obtain ⟨i, hi⟩ := List.getElem?_of_mem hb'
    rw [← cset_okc]
    rcases Nat.lt_or_ge i k with h | h
    · exact hc i b (by omega) (by rw [List.getElem?_take, if_pos h]; exact hi)
    · exact ha i b h hi
  · intro hall
    rcases Nat.eq_zero_or_pos k with h | h
    · omega
    · have hlt : k - 1 < s.data.toList.length := by omega
      have h3 := hb _ h (List.getElem?_eq_getElem hlt)
      rw [cset_okc, List.all_eq_true.1 hall _ (List.getElem_mem hlt)] at h3
      cases h3

theorem info_set : (Tryz.prog.info? 133).map (·.size) = some 256 := by kernel_rfl

set_option maxHeartbeats 8000000 in
set_option maxRecDepth 1000000 in
theorem trim_any (s : ByteArray) (w : World) (h0 : 0 < s.size) (hs : s.size ≤ 9223372036854775807) :
    Calls Tryz.prog 46 #[.string s, .string csetB] w fun e w' => (∃ u : ByteArray, e = .returned (.string u) ∧ (u.size = 0 ↔ s.data.toList.all okc = true)) ∧ Below w.heap.size w w' := by
  have hM := Tryz.strings_makeASCIISet Tryz.zeroValue133 csetB w (by decide) cset_ascii
  have hemp : csetB.toList.isEmpty = false := by rw [Lib.toList_data]; rfl
  have hemps : s.toList.isEmpty = false := by
    rw [Lib.toList_data]
    cases h : s.data.toList with
    | nil => have := Lib.size_eq s; rw [h, List.length_nil] at this; omega
    | cons _ _ => rfl
  have hn1 : ((csetB.size : Int) == 1) = false := by decide
  have hcd : csetB.data.toList = csetL := rfl
  have hsc : (storeCells ⟨w.heap.size + 1, 0, none⟩ (Lib.setCells csetB.data.toList).toList 0).run Tryz.prog ((w.alloc (.cells (Lib.setCells csetB.data.toList) 133)).alloc (.cells Tryz.zeroCells133 133)) = .ok () ((w.alloc (.cells (Lib.setCells csetB.data.toList) 133)).alloc (.cells (Lib.setCells csetB.data.toList) 133)) := by
    have := run_storeCells_new (P := Tryz.prog) (w.alloc (.cells (Lib.setCells csetB.data.toList) 133)) 133 Tryz.zeroCells133 (Lib.setCells csetB.data.toList) (by rw [Lib.setCells_size]; exact info_set) (by rw [Lib.setCells_size]; kernel_rfl) (Lib.setCells_one _)
    simpa using this
  have hsz := Lib.setCells_size csetB.data.toList
  have hcellAt : ∀ x : UInt8, ((w.alloc (.cells (Lib.setCells csetB.data.toList) 133)).alloc (.cells (Lib.setCells csetB.data.toList) 133)).cell? ⟨w.heap.size + 1, x.toNat, none⟩ = some (.bool (csetL.contains x)) := fun x => by
    rw [World.cell?_alloc_at _ _ _ _ (by simp), Lib.setCells_at]
    rfl
  have HC := Lib.hid hcellAt
  clear hcellAt hcd
  obtain ⟨cb, hcb⟩ : ∃ cb, csetB = cb := ⟨_, rfl⟩
  rw [hcb] at hM hemp hn1 hsc hsz HC ⊢
  obtain ⟨cs, hcs⟩ : ∃ cs, Lib.setCells cb.data.toList = cs := ⟨_, rfl⟩
  rw [hcs] at hM hsc hsz HC
  clear hcs hcb
  go_enter Tryz.func46, Tryz.ntmps46
  go_wp2_with (go_at_call 95; refine hM.mono ?_; rintro e w' ⟨rfl, hw⟩; rw [hw])
  clear hM hsc
  refine (tr_any s (w.heap.size + 1) _ hs HC.out).mono ?_
  rintro e w' ⟨hte, rfl⟩
  obtain ⟨t, rfl, hk⟩ := hte
  have HT := Lib.hid (show TrE s (.returned (.string t)) from ⟨t, rfl, hk⟩)
  clear hk
  go_wp2_with fail
  refine (tl_any t (w.heap.size + 1) _ HC.out).mono ?_
  rintro e w' ⟨hle, rfl⟩
  obtain ⟨u, rfl, hu⟩ := trim_empty HT.out hle
  have HU := Lib.hid hu
  clear hu hle
  go_wp2_with fail
  go_ret
  exact ⟨⟨u, rfl, HU.out⟩, ((Below.refl _ _).alloc (Nat.le_refl _) _).alloc (by simp) _⟩
end Go.Proofs.YtjebpppjhkkebaaGreatDoor
