/-
  Lease: all leases are told.
-/
import Derived.Test.YtmdhegmnfcodbaaLsC
namespace Go.Proofs.Ytmdhegmnfcodbaa
open Go.RowKit

theorem info_lease : (Try.prog.info? 35).map (fun i => (i.zero, i.size, i.bytes)) = some (some (.agg #[.int .i64 0, .slice none 0 0, .int .i64 0]), 3, 40) := by kernel_rfl
/-- Slices of leases. -/
theorem eLse : Elm Try.prog 26 35 3 40 (fun x : Lv => [.int .i64 x.id, x.sl, .int .i64 x.till]) where
  und := Try.underlying26
  info := by
    obtain ⟨i0, hi0, hz0, hs0, hy0⟩ := info_parts info_lease
    exact ⟨i0, _, hi0, hz0, hs0, hy0, rfl⟩
  pos := by decide
  few := by decide
  len _ := rfl
  one := by
    intro x u hu
    simp only [List.mem_cons, List.not_mem_nil, or_false] at hu
    rcases hu with rfl | rfl | rfl <;> rfl

variable {w w' w0 w1 w2 w3 : World} {mb lb B : Nat} {ob : Option Nat} {m : Lm} {last : Int}
/-- Blocks of leases. -/
def foot (lb : Nat) (ob : Option Nat) (q : Nat) : Prop := q = lb ∨ ob = some q
/-- A lease's vector can be read, in a block that F has not. -/
def RdX (F : Nat → Prop) (w : World) (x : Lv) : Prop := x.vs = [] ∨ ∃ b off, x.sa = some ⟨b, off, none⟩ ∧ ¬ F b ∧ b < w.heap.size ∧ ∀ i (hi : i < x.vs.length), w.cell? ⟨b, off + i, none⟩ = some (.int .i64 x.vs[i])
theorem RdX.tn {F G : Nat → Prop} {x : Lv} (h : RdX F w x) (ht : Tn G w w') (hG : ∀ q, q < w.heap.size → G q → F q) : RdX F w' x := by
  refine h.imp id ?_
  rintro ⟨b, off, ha, hf, hlt, hc⟩
  exact ⟨b, off, ha, hf, Nat.lt_of_lt_of_le hlt ht.size, fun i hi => ht.cell (hc i hi) (fun hg => hf (hG b hlt hg))⟩
theorem RdX.rd {F : Nat → Prop} {x : Lv} (h : RdX F w x) : RdI w x.sl x.vs := ⟨x.sa, x.sc, rfl, h.imp id (fun ⟨b, off, ha, _, hlt, hc⟩ => ⟨b, off, ha, hlt, hc⟩)⟩
structure LOk (m : Lm) (last : Int) : Prop where
  id : ∀ p ∈ m, p.2.id = p.1
  key : ∀ p ∈ m, 1 ≤ p.1 ∧ p.1 ≤ last
  vec : ∀ p ∈ m, validB p.2.vs = true
  last : 0 ≤ last ∧ last ≤ 72057594037927935
  few : m.length ≤ 16
/-- Leases lie in the block lb, in the map ob. -/
structure LsAt (w : World) (lb : Nat) (ob : Option Nat) (m : Lm) (last : Int) : Prop where
  c0 : w.cell? ⟨lb, 0, none⟩ = some (.map ob)
  c1 : w.cell? ⟨lb, 1, none⟩ = some (.int .i64 last)
  mp : MapV ckZ cvL w ob m
  fz : ∀ j, w.frozen? ⟨lb, j, none⟩ = false
  rd : ∀ p ∈ m, RdX (foot lb ob) w p.2
  ok : LOk m last
  ne : ob ≠ some lb
theorem LsAt.ltd (h : LsAt w lb ob m last) : lb < w.heap.size := World.block_lt_of_cell? _ _ h.c0
theorem LsAt.tn (h : LsAt w lb ob m last) {G : Nat → Prop} (ht : Tn G w w') (hG : ∀ q, q < w.heap.size → ¬ G q) : LsAt w' lb ob m last :=
  ⟨ht.cell h.c0 (hG _ h.ltd), ht.cell h.c1 (hG _ h.ltd), h.mp.tn ht (fun b hb => hG b (h.mp.lt hb)), fun j => (ht.frozen (p := ⟨lb, j, none⟩) h.ltd (hG _ h.ltd)).trans (h.fz j), fun p hp => (h.rd p hp).tn ht (fun q hq hg => absurd hg (hG q hq)), h.ok, h.ne⟩
theorem LsAt.below (h : LsAt w lb ob m last) (hb : Below w.heap.size w w') : LsAt w' lb ob m last := h.tn (Tn.ofBelow (F := fun _ => False) hb) (fun _ _ e => e)

/-- What a lease is, wherever its vector lies. -/
def core (x : Lv) : Int × List Int × Int := (x.id, x.vs, x.till)
/-- The leases in the order of their ids. -/
def sortM (m : Lm) : List Lv := (sortZ (m.map (·.1))).filterMap (getL m)
/-- A slice of leases of one's own, each vector in a block of its own. -/
def LOwn (w : World) (B : Nat) (v : Value) (L : List Lv) : Prop := Own eLse w B v L ∧ ∀ x ∈ L, Own eVec w B x.sl x.vs ∧ ∀ q, x.sl.ownBlock = some q → v.ownBlock ≠ some q
theorem LOwn.below {v : Value} {L : List Lv} (h : LOwn w B v L) (hb : Below w.heap.size w w') : LOwn w' B v L := ⟨row_below h.1 hb, fun x hx => ⟨row_below (h.2 x hx).1 hb, (h.2 x hx).2⟩⟩
theorem LOwn.add {v v' : Value} {L : List Lv} {x : Lv} (h : LOwn w B v L) (hB : B ≤ w.heap.size) (hx : Own eVec w1 w.heap.size x.sl x.vs) (hb : Below w.heap.size w w1) (hb2 : Below w1.heap.size w1 w2)
    (ho : Own eLse w3 B v' (L ++ [x])) (hg : w2.grownBy w3 v.ownBlock) (hv : v'.ownBlock = v.ownBlock ∨ v'.ownBlock = some w2.heap.size) : LOwn w3 B v' (L ++ [x]) := by
  have ht : Tn (fun q => v.ownBlock = some q) w2 w3 := Tn.ofGrown hg (fun q hq => hq)
  have hz1 := hb.size
  have hz2 := hb2.size
  refine ⟨ho, fun y hy => ?_⟩
  rcases List.mem_append.1 hy with hy | hy
  · obtain ⟨h1, h2⟩ := h.2 y hy
    have hlt := h1.lt
    refine ⟨ht.row (row_below (row_below h1 hb) hb2) (fun q hq hv => h2 q hq hv), fun q hq => ?_⟩
    rcases hv with e | e
    · rw [e]; exact h2 q hq
    · rw [e]
      intro e2
      have := (hlt q hq).2
      have := Option.some.inj e2
      omega
  · rw [List.mem_singleton] at hy
    subst hy
    have hlt := hx.lt
    refine ⟨row_mono (ht.row (row_below hx hb2) (fun q hq hv => by have := (hlt q hq).1; have := (h.1.lt q hv).2; omega)) hB, fun q hq => ?_⟩
    rcases hv with e | e
    · rw [e]
      intro e2
      have := (hlt q hq).1
      have := (h.1.lt q e2).2
      omega
    · rw [e]
      intro e2
      have := (hlt q hq).2
      have := Option.some.inj e2
      omega

theorem getL_some {m : Lm} {k : Int} (h : k ∈ m.map (·.1)) : ∃ x, getL m k = some x ∧ (k, x) ∈ m := by
  induction m with
  | nil => simp at h
  | cons p m ih =>
    by_cases hp : p.1 = k
    · subst hp
      exact ⟨p.2, by simp [getL], List.mem_cons_self⟩
    · have h' : k ∈ m.map (·.1) := by
        rw [List.map_cons] at h
        exact (List.mem_cons.1 h).resolve_left (fun e => hp e.symm)
      obtain ⟨x, h1, h2⟩ := ih h'
      exact ⟨x, by simpa [getL, List.find?_cons, hp] using h1, List.mem_cons_of_mem _ h2⟩
theorem sortZ_mem {l : List Int} {k : Int} : k ∈ sortZ l ↔ k ∈ l := (List.mergeSort_perm l _).mem_iff
theorem sortZ_len (l : List Int) : (sortZ l).length = l.length := (List.mergeSort_perm l _).length_eq

set_option maxRecDepth 100000 in
set_option maxHeartbeats 2000000 in
theorem list_any (h : LsAt w lb ob m last) : Calls Try.prog 18 #[.pointer (some ⟨lb, 0, none⟩)] w fun e w' =>
    ∃ a c L, e = .returned (.slice a m.length c) ∧ L.map core = (sortM m).map core ∧ L.length = m.length ∧ LOwn w' w.heap.size (.slice a m.length c) L ∧ Below w.heap.size w w' := by
  have c0 := h.c0
  have H := Lib.hid h
  have hlt := h.ltd
  have hk := sorted_any (w := w.alloc (.cells #[.map ob] 51)) (Bm := w.heap.size) (h.mp.below ((Below.refl _ _).alloc (Nat.le_refl _) _)) (fun p hp => by have := h.ok.key p hp; have := h.ok.last; omega) (by have := h.ok.few; omega) (by simp [go_sem])
  obtain ⟨n, hn⟩ : ∃ n, m.length = n := ⟨_, rfl⟩
  rw [hn] at hk ⊢
  have HN := Lib.hid hn
  have HK := Lib.hid hk
  clear h hk hn
  go_enter Try.func18, Try.ntmps18
  go_wp2_with (go_at_call 32; refine (keys_any _ _).mono ?_; rintro e w' ⟨rfl, rfl⟩)
  refine HK.out.mono ?_
  rintro e w1 ⟨v, rfl, hrow, hb1⟩
  obtain ⟨ka, kc, rfl, _, _⟩ := row_form hrow
  have hn := HN.out
  have hz0 : (w.alloc (.cells #[.map ob] 51)).heap.size = w.heap.size + 1 := by simp
  have hb01 : Below w.heap.size w w1 := ((Below.refl _ _).alloc (Nat.le_refl _) _).trans (hb1.mono (by simp))
  have hkl : (sortZ (m.map (·.1))).length = n := by rw [sortZ_len, List.length_map, hn]
  have h1 := H.out.below hb01
  have H1 := Lib.hid (And.intro hrow (And.intro hb01 (And.intro hkl (And.intro h1 hn))))
  have hn16 : n ≤ 16 := by have := h1.ok.few; omega
  clear hrow hb1 hz0 hb01 hkl HK hn c0 h1
  go_wp2
  go_loopw [3, 5, 6, 16] (fun v _ _ iv wr => ∃ i : Nat, i ≤ n ∧ iv = .int .i64 (i : Int) ∧ ∃ a c L, v = .slice a i c ∧ L.length = i ∧ L.map core = (((sortZ (m.map (·.1))).take i).filterMap (getL m)).map core ∧ LOwn wr w1.heap.size (.slice a i c) L ∧ Below w1.heap.size w1 wr) (fun _ _ _ iv _ => n - (intOf iv).toNat)
  case atStart => exact ⟨0, by omega, rfl, none, 0, [], rfl, rfl, by simp, ⟨World.ownsRow_nil _ _ _ _, fun x hx => by simp at hx⟩, Below.refl _ _⟩
  case round =>
    obtain ⟨i, hi, rfl, oa, oc, L, rfl, hLl, hLc, hLo, hb⟩ := hrel
    have HB := Lib.hid (And.intro hLl (And.intro hLc (And.intro hLo hb)))
    have hr := H1.out.2.2.2.1.below hb
    have HR := Lib.hid hr
    have hbz := hb.size
    clear hLc
    by_cases hlt2 : i < n
    · have hik : i < (sortZ (m.map (·.1))).length := by rw [H1.out.2.2.1]; exact hlt2
      obtain ⟨k, hk⟩ : ∃ k, (sortZ (m.map (·.1)))[i] = k := ⟨_, rfl⟩
      have hkm : k ∈ m.map (·.1) := by rw [← hk]; exact sortZ_mem.1 (List.getElem_mem hik)
      obtain ⟨x, hx, hxm⟩ := getL_some hkm
      obtain ⟨g, rfl, d0⟩ : ∃ g, ka = some ⟨g, 0, none⟩ ∧ w1.cell? ⟨g, i, none⟩ = some (.int .i64 k) := by
        have h0 := H1.out.1
        rcases h0.2 with ⟨e, e0⟩ | ⟨g, cap', cur, e, hg, hh, hn', hc, hcl, htk⟩
        · omega
        · injection e with e1 e2 e3
          subst e1
          refine ⟨g, rfl, ?_⟩
          have h5 := h0.cellAt i (by omega)
          rw [h5, List.getElem?_map, List.getElem?_eq_getElem hik, hk]
          rfl
      have d1 : wr.cell? ⟨g, i, none⟩ = some (.int .i64 k) := (hb.cell (p := ⟨g, i, none⟩) (World.block_lt_of_cell? _ _ d0)).trans d0
      have hxr := hr.rd _ hxm
      have hxv := hr.ok.vec _ hxm
      obtain ⟨xi, xa, xc, xv, xt⟩ := x
      have hv8 : xv.length ≤ 8 := by
        simp only [validB, Bool.and_eq_true, decide_eq_true_eq] at hxv
        exact hxv.1.2
      have hlk : (Instr.lookup 51 (.map ob) (.int .i64 k) false).run Try.prog wr = .ok (.agg #[.int .i64 xi, .slice xa xv.length xc, .int .i64 xt]) wr := by
        have h5 := MapV.look hr.mp keyZ und_map (z := .agg #[.int .i64 0, .slice none 0 0, .int .i64 0]) (Try.zeroValue35 _) false k
        rw [hx] at h5
        exact h5
      have c0 := hr.c0
      obtain ⟨W1, hW1⟩ : ∃ W1, wr.alloc (.cells #[.int .i64 xi, .slice xa xv.length xc, .int .i64 xt] 35) = W1 := ⟨_, rfl⟩
      have hbW : Below wr.heap.size wr W1 := by rw [← hW1]; exact (Below.refl _ _).alloc (Nat.le_refl _) _
      have hzW : W1.heap.size = wr.heap.size + 1 := by rw [← hW1]; simp
      have q0 : W1.cell? ⟨wr.heap.size, 0, none⟩ = some (.int .i64 xi) := by rw [← hW1]; simp [go_sem]
      have q1 : W1.cell? ⟨wr.heap.size, 1, none⟩ = some (.slice xa xv.length xc) := by rw [← hW1]; simp [go_sem]
      have q2 : W1.cell? ⟨wr.heap.size, 2, none⟩ = some (.int .i64 xt) := by rw [← hW1]; simp [go_sem]
      have qf : ∀ j, W1.frozen? ⟨wr.heap.size, j, none⟩ = false := fun j => by rw [← hW1]; simp [go_sem]
      have hcl := clone_any (RdI.below hxr.rd hbW) (by show xv.length ≤ _; omega)
      have hcl' : Calls Try.prog 22 #[.slice xa xv.length xc] W1 fun e w' => ∃ a c, e = .returned (.slice a xv.length c) ∧ Own eVec w' W1.heap.size (.slice a xv.length c) xv ∧ Below W1.heap.size W1 w' := hcl
      obtain ⟨nv, hnv⟩ : ∃ nv, xv.length = nv := ⟨_, rfl⟩
      rw [hnv] at hlk q1 hW1 hcl' hv8
      have HX := Lib.hid (And.intro hx (And.intro hxm (And.intro hnv (And.intro hk (And.intro hbW (And.intro hzW hik))))))
      have r1 : (i : Int) < (n : Int) := by omega
      clear hx hxm hnv hk hbW hxr hxv hcl hkm d0 hLo hb hr hLl
      go_wp2_with (first
        | (go_at_call 22; refine hcl'.mono ?_; rintro e w2 ⟨ca, cc, rfl, hco, hcb⟩; have p0 := (hcb.cell (p := ⟨wr.heap.size, 0, none⟩) (by simp; omega)).trans q0; have p1 := (hcb.cell (p := ⟨wr.heap.size, 1, none⟩) (by simp; omega)).trans q1; have p2 := (hcb.cell (p := ⟨wr.heap.size, 2, none⟩) (by simp; omega)).trans q2; have pf := (hcb.frozen (p := ⟨wr.heap.size, 1, none⟩) (by simp; omega)).trans (qf 1)
           obtain ⟨W3, hW3⟩ : ∃ W3, w2.setCell ⟨wr.heap.size, 1, none⟩ (.slice ca nv cc) = W3 := ⟨_, rfl⟩
           have s0 : W3.cell? ⟨wr.heap.size, 0, none⟩ = some (.int .i64 xi) := by rw [← hW3, World.cell?_setCell_other _ _ _ _ (by intro e; injection e with _ e2; omega)]; exact p0
           have s1 : W3.cell? ⟨wr.heap.size, 1, none⟩ = some (.slice ca nv cc) := by rw [← hW3]; exact World.cell?_setCell_same _ _ _ p1
           have s2 : W3.cell? ⟨wr.heap.size, 2, none⟩ = some (.int .i64 xt) := by rw [← hW3, World.cell?_setCell_other _ _ _ _ (by intro e; injection e with _ e2; omega)]; exact p2
           have b3 : Below wr.heap.size wr W3 := by rw [← hW3]; exact (HX.out.2.2.2.2.1.trans (hcb.mono (by omega))).setCell (by simp) _
           have o3 : Own eVec W3 W1.heap.size (.slice ca nv cc) xv := by
             rw [← hW3]
             exact (Tn.setCell (F := fun q => q = wr.heap.size) w2 ⟨wr.heap.size, 1, none⟩ (.slice ca nv cc) rfl).row hco (fun q hq e => by have := (hco.lt q hq).1; omega)
           obtain ⟨W4, hW4⟩ : ∃ W4, W3.alloc (.cells #[.int .i64 xi, .slice ca nv cc, .int .i64 xt] 35) = W4 := ⟨_, rfl⟩
           have hsrc : Src eLse W4 (.slice (some ⟨W3.heap.size, 0, none⟩) 1 1) [⟨xi, ca, cc, xv, xt⟩] := by rw [← hW4]; exact src_one W3 _ _ _ (by show [Value.int .i64 xi, Value.slice ca xv.length cc, Value.int .i64 xt] = _; rw [HX.out.2.2.1]) 1
           have b4 : Below W3.heap.size W3 W4 := by rw [← hW4]; exact (Below.refl _ _).alloc (Nat.le_refl _) _
           have HC := Lib.hid (And.intro b3 (And.intro o3 (And.intro b4 hsrc))); clear hco hcb b3 o3 b4 hsrc)
        | (at_builtin; go_loud (refine wpl_app eLse rfl _ _ rfl rfl rfl (row_below HB.out.2.2.1.1 (HC.out.1.trans (HC.out.2.2.1.mono HC.out.1.size))) HC.out.2.2.2 (by rw [HB.out.1]; simp; omega) (Nat.le_trans hbz (Nat.le_trans HC.out.1.size HC.out.2.2.1.size)) ?_); rw [HB.out.1]; intro a5 cap5 w5 ho5 hb5 hg5 hv5; have H5 := Lib.hid (And.intro ho5 (And.intro hb5 (And.intro hg5 hv5))); clear ho5 hb5 hg5 hv5))
      go_roundw
      case rel =>
        have hown := HB.out.2.2.1.add hbz (x := ⟨xi, ca, cc, xv, xt⟩) (row_mono (by rw [show (⟨xi, ca, cc, xv, xt⟩ : Lv).sl = .slice ca nv cc from by show Value.slice ca xv.length cc = _; rw [HX.out.2.2.1]]; exact HC.out.2.1) (by omega)) HC.out.1 HC.out.2.2.1 (v' := .slice a5 (i + 1) cap5) H5.out.1 H5.out.2.2.1 H5.out.2.2.2
        refine ⟨i + 1, by omega, by go_num, a5, cap5, L ++ [⟨xi, ca, cc, xv, xt⟩], rfl, by rw [List.length_append, HB.out.1]; rfl, ?_, hown, HB.out.2.2.2.trans (((HC.out.1.trans (HC.out.2.2.1.mono HC.out.1.size)).mono hbz).trans H5.out.2.1)⟩
        rw [List.map_append, HB.out.2.1, List.take_succ_eq_append_getElem HX.out.2.2.2.2.2.2, List.filterMap_append, List.map_append, HX.out.2.2.2.1]
        simp [HX.out.1, core]
      case measure => simp [intOf]; omega
    · obtain rfl : i = n := by omega
      clear hLo hb hr
      go_wp2
      go_ret
      have h6 := HB.out.2.1
      rw [List.take_of_length_le (by rw [H1.out.2.2.1]; omega)] at h6
      exact ⟨oa, oc, L, rfl, h6, HB.out.1, ⟨row_mono HB.out.2.2.1.1 H1.out.2.1.size, fun x hx => ⟨row_mono (HB.out.2.2.1.2 x hx).1 H1.out.2.1.size, (HB.out.2.2.1.2 x hx).2⟩⟩, H1.out.2.1.trans (HB.out.2.2.2.mono H1.out.2.1.size)⟩
end Go.Proofs.Ytmdhegmnfcodbaa
