/-
  Book: the kind Lists: same, mark, copy.
-/
import Derived.Test.YtkeggcfnoonakaaGreatBlL
import Derived.Test.YtkeggcfnoonakaaGreatBkAt
import Derived.Test.YtkeggcfnoonakaaGreatHold
import Derived.Test.YtkeggcfnoonakaaGreatMgM
import Derived.StillTailTactics
set_option linter.unusedSimpArgs false
set_option linter.unusedVariables false
namespace Go.Proofs.YtkeggcfnoonakaaGreat
open Go.RowKit

theorem cLK_one : ∀ (s : LK), ∀ u ∈ cLK s, u.oneCell' = true := by
  intro s u hu
  unfold cLK at hu
  rw [List.mem_singleton] at hu
  subst hu
  rfl
theorem kLists : Elm Tryz.prog 22 23 1 24 cLK where
  und := eSl.und
  info := eSl.info
  pos := by decide
  few := by decide
  len _ := rfl
  one := cLK_one
theorem kListsS_info : (Tryz.prog.info? 22).map (fun i => (i.zero, i.size, i.bytes)) = some (some (.slice none 0 0), 1, 24) := by kernel_rfl
theorem kListsS : Elm Tryz.prog 40 22 1 24 sCell where
  und := Tryz.underlying40
  info := by
    obtain ⟨i0, hi0, hz0, hs0, hy0⟩ := info_parts kListsS_info
    exact ⟨i0, _, hi0, hz0, hs0, hy0, rfl⟩
  pos := by decide
  few := by decide
  len _ := rfl
  one := sCell_one
theorem lk_flat (l : List LK) : (l.map (·.1)).flatMap sCell = l.flatMap cLK := by
  induction l with
  | nil => rfl
  | cons a l ih => rw [List.map_cons, List.flatMap_cons, List.flatMap_cons, ih]; rfl
/-- A list of lists of the walk's own is a row of the kind Lists. -/
theorem own_lk {w : World} {B : Nat} {vo : Value} {S : List LK} (h : Own eSl w B vo (S.map (·.1))) : Own kLists w B vo S := by
  have h' : World.ownsRow _ _ _ _ _ _ _ := h
  rw [lk_flat, List.length_map] at h'
  exact h'
theorem own_kl {w : World} {B : Nat} {vo : Value} {S : List LK} (h : Own kLists w B vo S) : Own eSl w B vo (S.map (·.1)) := by
  show World.ownsRow _ _ _ _ _ _ _
  rw [lk_flat, List.length_map]
  exact h
theorem lk_cells {w : World} {B : Nat} {v : Value} {l : List LK} (h : Own kLists w B v l) {j : Nat} (hj : j < l.length) : ∃ g cap, v = .slice (some ⟨g, 0, none⟩) l.length cap ∧ B ≤ g ∧ g < w.heap.size ∧ w.cell? ⟨g, j, none⟩ = some l[j].1.val ∧ ∀ o, w.frozen? ⟨g, o, none⟩ = false := by
  have h0 := h
  obtain ⟨h1, h2⟩ := h
  rcases h2 with ⟨_, h3⟩ | ⟨g, cap, cur, rfl, hg, hh, hn, hc, hcl, htk⟩
  · omega
  · have c0 := h0.cellAt (j * 1) (by omega)
    have e0 := kLists.get l j 0 hj (by decide)
    rw [Nat.add_zero] at e0
    rw [e0] at c0
    rw [Nat.mul_one] at c0
    exact ⟨g, cap, rfl, hg, (Array.getElem?_eq_some_iff.1 hh).1, c0, fun o => World.ownsRow.frozenAt h0 o⟩
theorem lk_get {w : World} {B n cap : Nat} {a : Option Addr} {l : List LK} (h : Own kLists w B (.slice a n cap) l) {j : Nat} (hj : j < l.length) : ∃ g, a = some ⟨g, 0, none⟩ ∧ n = l.length ∧ w.cell? ⟨g, j, none⟩ = some l[j].1.val ∧ (∀ o, w.frozen? ⟨g, o, none⟩ = false) ∧ B ≤ g ∧ g < w.heap.size := by
  obtain ⟨g, cap', e, h1, h2, h3, h4⟩ := lk_cells h hj
  injection e with e1 e2 e3
  exact ⟨g, e1, e2, h3, h4, h1, h2⟩

/-- Lists of pairs that can be read. -/
def RdV (w : World) (x : Value) (l : List LK) : Prop := ∃ a c, x = .slice a (l.map coreK).length c ∧ RdL w a (l.map coreK)
theorem RdL.drewN {w : World} {a : Option Addr} {L : List (List KV)} (h : RdL w a L) (n : Nat) : RdL (w.drewN n) a L := h.below ((tn_drewN (F := fun _ => False) w n).below (Nat.le_refl _) (fun _ e => e.elim))
theorem RdV.below {w w' : World} {x : Value} {l : List LK} (h : RdV w x l) (hb : Below w.heap.size w w') : RdV w' x l := by
  obtain ⟨a, c, hx, h⟩ := h
  exact ⟨a, c, hx, h.below hb⟩
theorem RdV.drewN {w : World} {x : Value} {l : List LK} (h : RdV w x l) (n : Nat) : RdV (w.drewN n) x l := by
  obtain ⟨a, c, hx, h⟩ := h
  exact ⟨a, c, hx, h.drewN n⟩
theorem rdV_own {w : World} {B : Nat} {v : Value} {l : List LK} (h : Own kLists w B v l) (hv : ∀ x ∈ l, RdK w x.1.val x.2) : RdV w v l := by
  obtain ⟨a, c, rfl, _, _⟩ := row_form h
  refine ⟨a, c, by rw [List.length_map], ?_⟩
  by_cases h0 : l = []
  · exact .inl (by rw [h0]; rfl)
  · have hl : 0 < l.length := List.length_pos_iff.2 h0
    obtain ⟨g, e1, _, _, _, _⟩ := lk_get h hl
    refine .inr ⟨g, 0, e1, fun i hi => ?_⟩
    have hi' : i < l.length := by rw [List.length_map] at hi; exact hi
    obtain ⟨g', e2, _, hc, _, _⟩ := lk_get h hi'
    rw [e1] at e2
    injection e2 with e2
    injection e2 with e2
    subst e2
    obtain ⟨ai, ci, hx, hr⟩ := hv _ (List.getElem_mem hi')
    rw [hx] at hc
    have hm : (l.map coreK)[i] = l[i].2 := by simp [coreK]
    rw [hm, Nat.zero_add]
    exact ⟨ai, ci, hc, hr⟩
theorem same_Lists {w : World} {x y : Value} {l l2 : List LK} (hx : RdV w x l) (hy : RdV w y l2) (hc : l.map coreK = l2.map coreK) (hl : l.length ≤ 100000) (hv : ∀ x ∈ l, x.2.length ≤ 100000) : Calls Tryz.prog 13 #[x, y] w fun e w' => e = .returned (.bool true) ∧ ∃ a, w' = w.drewN a := by
  obtain ⟨a1, c1, rfl, h1⟩ := hx
  obtain ⟨a2, c2, rfl, h2⟩ := hy
  rw [← hc] at h2 ⊢
  have hv2 : ∀ k ∈ l.map coreK, k.length ≤ 100000 := fun k hk => by
    obtain ⟨x, hx, rfl⟩ := List.mem_map.1 hk
    exact hv x hx
  have := samelists_quiet (ca := c1) (cb := c2) h1 h2 (by rw [List.length_map]; exact hl) (by rw [List.length_map]; exact hl) hv2 hv2
  rw [decide_eq_true rfl] at this
  exact this
theorem coreK_len {l l2 : List LK} (h : l.map coreK = l2.map coreK) : l.length = l2.length := by
  have := congrArg List.length h
  rwa [List.length_map, List.length_map] at this

/-- What the mark number k of the list number i holds. -/
def mkL (i k : Nat) : List KV := [mkKeys i k]
/-- A list of lists, each in a block of its own behind N. -/
def NewK (N : Nat) (w : World) (x : LK) : Prop := Own eKV w N x.1.val x.2
/-- Marks: the lists in it are new, and none lies where the list itself does. -/
structure MkdL (w : World) (N : Nat) (v : Value) (i from_ n : Nat) (M : List LK) : Prop where
  own : Own kLists w N v M
  len : M.length = n
  core : ∀ t (ht : t < M.length), M[t].2 = mkL i (from_ + t)
  each : ∀ t (ht : t < M.length), Own eKV w N M[t].1.val M[t].2
theorem MkdL.below {w w' : World} {N : Nat} {v : Value} {i from_ n : Nat} {M : List LK} (h : MkdL w N v i from_ n M) (hb : Below w.heap.size w w') : MkdL w' N v i from_ n M :=
  ⟨row_below h.own hb, h.len, h.core, fun t ht => row_below (h.each t ht) hb⟩
/-- A list of one mark, newly laid. -/
def newLK (w1 : World) (i k : Nat) : LK := (⟨some ⟨w1.heap.size, 0, none⟩, 1, 1⟩, mkL i k)
structure Room (w1 W2 : World) (N : Nat) (v : Value) (i from_ j : Nat) (M : List LK) (t1 t2 : TypeId) : Prop where
  own : Own kLists W2 N v M
  src : Src kLists W2 (.slice (some ⟨w1.heap.size + 1, 0, none⟩) 1 1) [newLK w1 i (from_ + j)]
  bel : Below w1.heap.size w1 W2
  m : MkdL w1 N v i from_ j M
  sep : ∀ t (ht : t < M.length) q, M[t].1.val.ownBlock = some q → v.ownBlock ≠ some q
  new : Own eKV W2 w1.heap.size (newLK w1 i (from_ + j)).1.val (newLK w1 i (from_ + j)).2
  size : W2.heap.size = w1.heap.size + 1 + 1
theorem mark_room {w1 : World} {N : Nat} {v : Value} {i from_ j : Nat} {M : List LK} (h : MkdL w1 N v i from_ j M) (hs : ∀ t (ht : t < M.length) q, M[t].1.val.ownBlock = some q → v.ownBlock ≠ some q) (hN : N ≤ w1.heap.size) :
    Room w1 ((w1.alloc (.cells #[.string (nm i (from_ + j)), .string ⟨#[]⟩] 54)).alloc (.cells #[.slice (some ⟨w1.heap.size, 0, none⟩) 1 1] 23)) N v i from_ j M 54 23 := by
  have hb1 : Below w1.heap.size w1 (w1.alloc (.cells #[.string (nm i (from_ + j)), .string ⟨#[]⟩] 54)) := (Below.refl _ _).alloc (Nat.le_refl _) _
  have hb2 : Below w1.heap.size w1 ((w1.alloc (.cells #[.string (nm i (from_ + j)), .string ⟨#[]⟩] 54)).alloc (.cells #[.slice (some ⟨w1.heap.size, 0, none⟩) 1 1] 23)) := hb1.alloc hb1.size _
  have hsz : (w1.alloc (.cells #[.string (nm i (from_ + j)), .string ⟨#[]⟩] 54)).heap.size = w1.heap.size + 1 := by simp
  refine ⟨row_below h.own hb2, ?_, hb2, h, hs, ?_, by simp⟩
  · have := src_one (e := kLists) (w1.alloc (.cells #[.string (nm i (from_ + j)), .string ⟨#[]⟩] 54)) (newLK w1 i (from_ + j)) #[.slice (some ⟨w1.heap.size, 0, none⟩) 1 1] 23 rfl 1
    rw [hsz] at this
    exact this
  · have := own_new eKV (B := w1.heap.size) w1 (mkKeys i (from_ + j)) #[.string (nm i (from_ + j)), .string ⟨#[]⟩] rfl (Nat.le_refl _)
    exact row_below this ((Below.refl _ _).alloc (Nat.le_refl _) _)
theorem Room.done {w1 W2 w3 : World} {N : Nat} {v v' : Value} {i from_ j : Nat} {M : List LK} {t1 t2 : TypeId} (h : Room w1 W2 N v i from_ j M t1 t2) (hN : N ≤ w1.heap.size) (hap : Appd kLists W2 w3 N v v' M [newLK w1 i (from_ + j)]) :
    MkdL w3 N v' i from_ (j + 1) (M ++ [newLK w1 i (from_ + j)]) ∧ ∀ t (ht : t < (M ++ [newLK w1 i (from_ + j)]).length) q, (M ++ [newLK w1 i (from_ + j)])[t].1.val.ownBlock = some q → v'.ownBlock ≠ some q := by
  have hlt : ∀ q, v.ownBlock = some q → q < w1.heap.size := fun q hq => (h.m.own.lt q hq).2
  have hml := h.m.len
  refine ⟨⟨hap.own, by rw [List.length_append, hml]; rfl, fun t ht => ?_, fun t ht => ?_⟩, fun t ht q hq => ?_⟩
  · rcases Nat.lt_or_ge t M.length with h1 | h1
    · rw [List.getElem_append_left h1]; exact h.m.core t h1
    · obtain rfl : t = M.length := by rw [List.length_append] at ht; simp at ht; omega
      rw [List.getElem_append_right (Nat.le_refl _)]
      simp only [Nat.sub_self, List.getElem_cons_zero]
      rw [hml]; rfl
  · rcases Nat.lt_or_ge t M.length with h1 | h1
    · rw [List.getElem_append_left h1]
      exact hap.tn.row (row_below (h.m.each t h1) h.bel) (fun q hq hv => h.sep t h1 q hq hv)
    · obtain rfl : t = M.length := by rw [List.length_append] at ht; simp at ht; omega
      rw [List.getElem_append_right (Nat.le_refl _)]
      simp only [Nat.sub_self, List.getElem_cons_zero]
      exact hap.tn.row (row_mono h.new hN) (fun q hq hv => by have := hlt q hv; have := (h.new.lt q hq).1; omega)
  · rcases Nat.lt_or_ge t M.length with h1 | h1
    · rw [List.getElem_append_left h1] at hq
      rcases hap.block with hb | hb
      · rw [hb]; exact h.sep t h1 q hq
      · intro hv
        have := hb q hv; have := ((h.m.each t h1).lt q hq).2; have := h.bel.size; omega
    · obtain rfl : t = M.length := by rw [List.length_append] at ht; simp at ht; omega
      rw [List.getElem_append_right (Nat.le_refl _)] at hq
      simp only [Nat.sub_self, List.getElem_cons_zero] at hq
      rcases hap.block with hb | hb
      · rw [hb]; intro hv; have := hlt q hv; have := (h.new.lt q hq).1; omega
      · intro hv; have := hb q hv; have := (h.new.lt q hq).2; omega
set_option maxRecDepth 100000 in
set_option maxHeartbeats 1000000 in
theorem mark_Lists (i from_ n : Nat) (hi : i ≤ 1000) (hf : from_ ≤ 1000000) (hn : n ≤ 1000000) (w : World) : Calls Tryz.prog 111 #[.int .i64 i, .int .i64 from_, .int .i64 n] w fun e w' =>
    ∃ a cap M, e = .returned (.slice a n cap) ∧ MkdL w' w.heap.size (.slice a n cap) i from_ n M ∧ Below w.heap.size w w' := by
  go_enter Tryz.func111, Tryz.ntmps111
  go_wp2
  go_loopw [7, 8] (fun v y wr => ∃ j : Nat, j ≤ n ∧ y = .int .i64 ((from_ + j : Nat) : Int) ∧ (∃ a c M, v = .slice a j c ∧ MkdL wr w.heap.size (.slice a j c) i from_ j M ∧ ∀ t (ht : t < M.length) q, M[t].1.val.ownBlock = some q → (Value.slice a j c).ownBlock ≠ some q) ∧ Below w.heap.size w wr) (fun _ y _ => from_ + n - (intOf y).toNat)
  case atStart => exact ⟨0, by omega, by simp, ⟨none, 0, [], rfl, ⟨World.ownsRow_nil _ _ _ _, rfl, fun t ht => by simp at ht, fun t ht => by simp at ht⟩, fun t ht => by simp at ht⟩, Below.refl _ _⟩
  case round =>
    obtain ⟨j, hj, rfl, ⟨av, capv, M, rfl, hm, hsep⟩, hbel⟩ := hrel
    have hml := hm.len
    have HM := Lib.hid (And.intro hm hsep)
    have HB := Lib.hid hbel
    have HML := Lib.hid hml
    clear hml hm hsep hbel
    by_cases hlt : j < n
    · go_wp2_with (first
        | (go_at_call 133; refine (name_any i (from_ + j) (by omega) (by omega) _).mono ?_; rintro e w1 ⟨rfl, hb⟩; have HN := Lib.hid (HB.out.trans (hb.mono HB.out.size)); have hst := mark_room (HM.out.1.below hb) HM.out.2 HN.out.size; have HST := Lib.hid hst; clear hb hst)
        | (at_builtin; have tok := HST; go_loud (refine wpl_app2 kLists rfl _ _ rfl rfl rfl (l := M) (l2 := [newLK w1 i (from_ + j)]) HST.out.own HST.out.src (by rw [HML.out]; simp; omega) (Nat.le_trans HN.out.size HST.out.bel.size) ?_); go_loud (rw [HML.out]; intro a3 cap3 w3 hap; have hap2 : Appd kLists _ w3 w.heap.size (.slice av j capv) (.slice a3 (j + 1) cap3) M [newLK w1 i (from_ + j)] := hap; have hfin := HST.out.done HN.out.size hap2; have HF := Lib.hid (And.intro hfin (HN.out.trans (HST.out.bel.mono HN.out.size) |>.trans (hap2.tn.below (Nat.le_trans HN.out.size HST.out.bel.size) (fun q hq => (HST.out.own.lt q hq).1)))); clear hap hap2 hfin)))
      go_roundw
      case rel => exact ⟨j + 1, by omega, by go_num, ⟨a3, cap3, _, rfl, HF.out.1.1, HF.out.1.2⟩, HF.out.2⟩
      case measure => simp [intOf]; omega
    · obtain rfl : j = n := by omega
      go_wp2
      go_ret
      exact ⟨av, capv, M, rfl, HM.out.1, HB.out⟩

/-- A list in a list that lies outside of F. -/
def InK (F : Nat → Prop) (w : World) (x : LK) : Prop := ∃ B, Own eKV w B x.1.val x.2 ∧ ∀ q, x.1.val.ownBlock = some q → ¬ F q
theorem InK.tn {F G : Nat → Prop} {w w' : World} {x : LK} (h : InK F w x) (ht : Tn G w w') (hG : ∀ q, G q → F q) : InK F w' x := by
  obtain ⟨B, ho, hf⟩ := h
  exact ⟨B, ht.row ho (fun q hq hg => hf q hq (hG q hg)), hf⟩
theorem InK.below {F : Nat → Prop} {w w' : World} {x : LK} (h : InK F w x) (hb : Below w.heap.size w w') : InK F w' x := by
  obtain ⟨B, ho, hf⟩ := h
  exact ⟨B, row_below ho hb, hf⟩
theorem InK.rd {F : Nat → Prop} {w : World} {x : LK} (h : InK F w x) : RdK w x.1.val x.2 := by
  obtain ⟨B, ho, _⟩ := h
  exact rdK_own ho
theorem lset_cells : ∀ (l : List LK) (i : Nat) (x : LK), (l.set i x).flatMap cLK = (l.flatMap cLK).set i x.1.val
  | [], i, x => rfl
  | m :: ms, 0, x => by simp [cLK]
  | m :: ms, i + 1, x => by
    have ih := lset_cells ms i x
    rw [List.set_cons_succ, List.flatMap_cons, List.flatMap_cons, ih]
    rfl
theorem lset_row {w : World} {B g n cap : Nat} {l : List LK} (h : Own kLists w B (.slice (some ⟨g, 0, none⟩) n cap) l) (hn : l.length = n) (i : Nat) (x : LK) : Own kLists (w.setCell ⟨g, i, none⟩ x.1.val) B (.slice (some ⟨g, 0, none⟩) n cap) (l.set i x) := by
  subst hn
  have h1 := (World.ownsRow.stored h i x.1.val).1
  show World.ownsRow _ _ _ _ _ _ _
  rw [lset_cells, List.length_set]
  exact h1
theorem sl_form {w : World} {B : Nat} {s : Sl} {l : List KV} (h : Own eKV w B s.val l) : s.val = .slice s.a l.length s.cap := by
  obtain ⟨a, c, hv, _, _⟩ := row_form h
  unfold Sl.val at hv ⊢
  injection hv with _ e2 _
  rw [e2]

set_option maxRecDepth 100000 in
set_option maxHeartbeats 2000000 in
theorem copy_Lists {w : World} {x : Value} {l : List LK} (hx : Src kLists w x l) (hv : ∀ y ∈ l, ∃ B, Own eKV w B y.1.val y.2) (hl1 : ∀ y ∈ l, y.2.length ≤ 100000) (hl : l.length ≤ 100000) : Calls Tryz.prog 27 #[x] w fun e w' =>
    ∃ (s : Sl) (l2 : List LK), e = .returned s.val ∧ Own kLists w' w.heap.size s.val l2 ∧ l2.map coreK = l.map coreK ∧ (∀ y ∈ l2, Own eKV w' w.heap.size y.1.val y.2) ∧ Below w.heap.size w w' := by
  obtain ⟨n, hn⟩ : ∃ n, l.length = n := ⟨_, rfl⟩
  have HN := Lib.hid hn
  have H := Lib.hid (And.intro hx (And.intro hv hl1))
  have hl : n ≤ 100000 := by omega
  obtain ⟨xa, xn, xc, rfl⟩ : ∃ a n c, x = .slice a n c := by
    rcases hx with ⟨e, _⟩ | ⟨ad, c, e, _⟩
    · exact ⟨_, _, _, e⟩
    · exact ⟨_, _, _, e⟩
  clear hx hv hl1 hn
  go_enter Tryz.func27, Tryz.ntmps27
  go_wp2_with (at_builtin; refine wpl_app kLists (l := []) rfl _ _ rfl rfl rfl (World.ownsRow_nil _ w.heap.size _ _) H.out.1 (by simp; have := HN.out; omega) (Nat.le_refl _) ?_; intro a3 cap3 w3 ho3 hb3 _ _; have h3 : Own kLists w3 w.heap.size (.slice a3 n cap3) l := (by rw [List.nil_append, show ([] : List LK).length + l.length = n by rw [HN.out]; simp] at ho3; exact ho3); rw [show ([] : List LK).length + l.length = n by rw [HN.out]; simp]; have H3 := Lib.hid (And.intro h3 hb3); clear ho3 hb3 h3)
  go_loopw [3] (fun iv wr => ∃ i : Nat, i ≤ n ∧ iv = .int .i64 (i : Int) ∧ ∃ L2, Own kLists wr w.heap.size (.slice a3 n cap3) L2 ∧ L2.length = n ∧ L2.map coreK = l.map coreK ∧ (∀ j (hj : j < L2.length), j < i → Own eKV wr w3.heap.size L2[j].1.val L2[j].2) ∧ (∀ j (hj : j < L2.length) (hj2 : j < l.length), i ≤ j → L2[j] = l[j]) ∧ Below w.heap.size w wr ∧ w3.heap.size ≤ wr.heap.size) (fun iv _ => n - (intOf iv).toNat)
  case atStart => exact ⟨0, by omega, rfl, l, H3.out.1, HN.out, rfl, fun j hj h => by omega, fun j hj hj2 _ => rfl, H3.out.2, Nat.le_refl _⟩
  case round =>
    obtain ⟨i, hi, rfl, L2, ho, hlen, hcore, hnew, hold, hb, hz⟩ := hrel
    by_cases hlt : i < n
    · have hil : i < L2.length := by omega
      have hil2 : i < l.length := by have := HN.out; omega
      have he := hold i hil hil2 (Nat.le_refl _)
      have hmem : l[i] ∈ l := List.getElem_mem hil2
      obtain ⟨B2, hown2⟩ := H.out.2.1 _ hmem
      have hown3 := row_below hown2 hb
      have hvl := H.out.2.2 _ hmem
      obtain ⟨g, e1, e2, k1, hfz0, hgB, hg⟩ := lk_get ho hil
      subst e1
      have hfz := hfz0 i
      have hg3 : g < w3.heap.size := (H3.out.1.lt g rfl).2
      obtain ⟨y, hy⟩ : ∃ y, l[i] = y := ⟨_, rfl⟩
      rw [hy] at he hown3 hvl
      rw [he] at k1
      have hC := copy_Keys (Own.src hown3) (by omega)
      have hyv := sl_form hown3
      obtain ⟨⟨ya, yn, yc⟩, yv⟩ := y
      have d1 : wr.cell? ⟨g, i, none⟩ = some (.slice ya yn yc) := k1
      replace hC : Calls Tryz.prog 26 #[.slice ya yn yc] wr fun e w' => ∃ s : Sl, e = .returned s.val ∧ Own eKV w' wr.heap.size s.val yv ∧ Below wr.heap.size wr w' := hC
      have r1 : (i : Int) < (n : Int) := by omega
      have HB := Lib.hid (And.intro ho (And.intro hlen (And.intro hcore (And.intro hnew (And.intro hold (And.intro hb (And.intro hz (And.intro he (And.intro hil hg3)))))))))
      have hlg : g < wr.heap.size := hg
      clear ho hlen hcore hnew hold hb hz he hown3 hown2 hvl k1 hy hmem e2 hg3 hyv hfz0
      go_wp2_with (go_at_call 26; refine hC.mono ?_; rintro e w4 ⟨⟨ca, cn, cc⟩, rfl, hco, hcb⟩; have f1 := (hcb.cell (p := ⟨g, i, none⟩) hlg).trans d1; have z1 := (hcb.frozen (p := ⟨g, i, none⟩) hlg).trans hfz; have H4 := Lib.hid (And.intro hco hcb); clear hco hcb; try simp only [Sl.val])
      go_roundw
      case rel =>
        obtain ⟨ho, hlen, hcore, hnew, hold, hb, hz, he, hil, hg3⟩ := HB.out
        have hts : Tn (fun q => q = g) w4 (w4.setCell ⟨g, i, none⟩ (.slice ca cn cc)) := Tn.setCell _ _ _ rfl
        have hvs : L2[i].2 = yv := by rw [he]
        have hset := lset_row (row_below ho H4.out.2) hlen i ((⟨ca, cn, cc⟩, yv) : LK)
        refine ⟨i + 1, by omega, by go_num, L2.set i ((⟨ca, cn, cc⟩, yv) : LK), hset, by rw [List.length_set]; exact hlen, ?_, fun j hj hji => ?_, fun j hj hj2 hij => ?_, (hb.trans (H4.out.2.mono hb.size)).setCell hgB _, ?_⟩
        · rw [List.map_set, show coreK ((⟨ca, cn, cc⟩, yv) : LK) = coreK L2[i] from hvs.symm, ← List.getElem_map coreK (l := L2) (h := by rw [List.length_map]; exact hil), List.set_getElem_self]
          exact hcore
        · rw [List.length_set] at hj
          by_cases hji2 : j = i
          · subst hji2
            rw [List.getElem_set_self]
            exact row_mono (hts.row H4.out.1 (fun q hq e => by have := (H4.out.1.lt q hq).1; omega)) hz
          · rw [List.getElem_set_ne (fun e => hji2 e.symm)]
            have := hnew j hj (by omega)
            exact hts.row (row_below this H4.out.2) (fun q hq e => by have := (this.lt q hq).1; omega)
        · rw [List.getElem_set_ne (by omega)]
          exact hold j (by rw [List.length_set] at hj; exact hj) hj2 (by omega)
        · have := H4.out.2.size
          simp
          omega
      case measure => simp [intOf]; omega
    · obtain rfl : i = n := by omega
      have HB := Lib.hid (And.intro ho (And.intro hlen (And.intro hcore (And.intro hnew hb))))
      clear ho hlen hcore hnew hold hb hz
      go_wp2
      go_ret
      refine ⟨⟨a3, i, cap3⟩, L2, rfl, HB.out.1, HB.out.2.2.1, fun y hy => ?_, HB.out.2.2.2.2⟩
      obtain ⟨j, hj, rfl⟩ := List.mem_iff_getElem.1 hy
      exact row_mono (HB.out.2.2.2.1 j hj (by have := HB.out.2.1; omega)) H3.out.2.size
end Go.Proofs.YtkeggcfnoonakaaGreat
