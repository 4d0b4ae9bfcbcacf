import Derived.Test.YtnegappgdpeabaaGreatLe10
import Derived.Test.YtnegappgdpeabaaGreatShelf
import Derived.StillTailTactics
import Derived.Test.YtnegappgdpeabaaGreatLe1
set_option linter.unusedSimpArgs false
set_option linter.unusedVariables false
/-
  Book: the kind Vecs: same, mark, copy.
-/
namespace Go.Proofs.YtnegappgdpeabaaGreat
open Go.RowKit

theorem kVecs_info : (Tryz.prog.info? 3).map (fun i => (i.zero, i.size, i.bytes)) = some (some (.int .i64 0), 1, 8) := by kernel_rfl
theorem kVecsS_info : (Tryz.prog.info? 50).map (fun i => (i.zero, i.size, i.bytes)) = some (some (.slice none 0 0), 1, 24) := by kernel_rfl
theorem kVecs : Elm Tryz.prog 50 3 1 8 (fun k : Int => [.int .i64 k]) where
  und := Tryz.underlying50
  info := by
    obtain ⟨i0, hi0, hz0, hs0, hy0⟩ := info_parts kVecs_info
    exact ⟨i0, _, hi0, hz0, hs0, hy0, rfl⟩
  pos := by decide
  few := by decide
  len _ := rfl
  one := by
    intro x u hu
    rw [List.mem_singleton] at hu
    subst hu
    rfl
theorem kVecsS : Elm Tryz.prog 35 50 1 24 sCell where
  und := Tryz.underlying35
  info := by
    obtain ⟨i0, hi0, hz0, hs0, hy0⟩ := info_parts kVecsS_info
    exact ⟨i0, _, hi0, hz0, hs0, hy0, rfl⟩
  pos := by decide
  few := by decide
  len _ := rfl
  one := sCell_one

/-- Numbers that can be read. -/
def RdVc (w : World) (x : Value) (l : List Int) : Prop := ∃ a c, x = .slice a l.length c ∧ (l = [] ∨ ∃ b off, a = some ⟨b, off, none⟩ ∧ b < w.heap.size ∧ ∀ i (hi : i < l.length), w.cell? ⟨b, off + i, none⟩ = some (.int .i64 l[i]))
theorem RdVc.below {w w' : World} {x : Value} {l : List Int} (h : RdVc w x l) (hb : Below w.heap.size w w') : RdVc w' x l := by
  obtain ⟨a, c, hx, h⟩ := h
  refine ⟨a, c, hx, h.imp id ?_⟩
  rintro ⟨b, off, ha, hlt, hc⟩
  exact ⟨b, off, ha, Nat.lt_of_lt_of_le hlt hb.size, fun i hi => (hb.cell (p := ⟨b, off + i, none⟩) hlt).trans (hc i hi)⟩
theorem rdVc_own {w : World} {B : Nat} {v : Value} {l : List Int} (h : Own kVecs w B v l) : RdVc w v l := by
  have h0 := h
  obtain ⟨h1, h2⟩ := h
  rcases h2 with ⟨rfl, h3⟩ | ⟨g, cap', cur, rfl, hg, hh, hn', hc, hcl, htk⟩
  · obtain rfl := List.eq_nil_of_length_eq_zero h3
    exact ⟨none, 0, rfl, .inl rfl⟩
  · refine ⟨_, cap', rfl, .inr ⟨g, 0, rfl, (Array.getElem?_eq_some_iff.1 hh).1, fun i hi => ?_⟩⟩
    have := h0.cellAt i (by omega)
    rw [Nat.zero_add, this]
    have h4 := kVecs.get l i 0 hi (by omega)
    rw [Nat.mul_one, Nat.add_zero] at h4
    rw [h4]
    rfl

theorem RdVc.drewN {w : World} {x : Value} {l : List Int} (h : RdVc w x l) (n : Nat) : RdVc (w.drewN n) x l := h
set_option maxHeartbeats 400000 in
theorem same_Vecs {w : World} {x y : Value} {l : List Int} (hx : RdVc w x l) (hy : RdVc w y l) (hl : l.length ≤ 1000000) : Calls Tryz.prog 127 #[x, y] w fun e w' => e = .returned (.bool true) ∧ ∃ a, w' = w.drewN a := by
  obtain ⟨a1, c1, rfl, h1⟩ := hx
  obtain ⟨a2, c2, rfl, h2⟩ := hy
  obtain ⟨n, hn⟩ : ∃ n, n = l.length := ⟨_, rfl⟩
  rw [← hn] at hl ⊢
  have HN := Lib.hid hn
  have H := Lib.hid (And.intro h1 h2)
  clear hn h1 h2
  have t0 : ((n : Int) != (n : Int)) = false := by simp
  have t0b : (n != n) = false := by simp
  go_enter Tryz.func127, Tryz.ntmps127
  go_wp2
  go_loopw [5] (fun iv wr => ∃ i : Nat, i ≤ n ∧ iv = .int .i64 (i : Int) ∧ ∃ a, wr = w.drewN a) (fun iv _ => n - (intOf iv).toNat)
  case atStart => exact ⟨0, by omega, rfl, 0, rfl⟩
  case round =>
    obtain ⟨i, hi, rfl, a, rfl⟩ := hrel
    by_cases hlt : i < n
    · have hil : i < l.length := by have := HN.out; omega
      obtain ⟨b1, o1, rfl, l1, k1⟩ := H.out.1.resolve_left (fun e => by rw [e] at hil; simp at hil)
      obtain ⟨b2, o2, rfl, l2, k2⟩ := H.out.2.resolve_left (fun e => by rw [e] at hil; simp at hil)
      have d1 := k1 i hil
      have d2 := k2 i hil
      obtain ⟨u, hu⟩ : ∃ u, l[i] = u := ⟨_, rfl⟩
      rw [hu] at d1 d2
      have t1 : (u == u) = true := by simp
      have r1 : (i : Int) < (n : Int) := by omega
      clear k1 k2 hu
      go_wp2
      go_quiet (fail)
      go_wp2
      go_roundw
      case rel => exact ⟨i + 1, by omega, by go_num, _, rfl⟩
      case measure => simp [intOf]; omega
    · obtain rfl : i = n := by omega
      go_wp2
      go_ret
      exact ⟨rfl, _, rfl⟩

/-- The mark number k of the list number i. -/
def mkVecs (i k : Nat) : Int := -1000000 * i - k - 9
set_option maxHeartbeats 400000 in
theorem mark_Vecs (i from_ n : Nat) (hi : i ≤ 1000) (hf : from_ ≤ 10000000) (hn : n ≤ 10000000) (w : World) : Calls Tryz.prog 146 #[.int .i64 i, .int .i64 from_, .int .i64 n] w fun e w' =>
    ∃ a cap, e = .returned (.slice a n cap) ∧ Own kVecs w' w.heap.size (.slice a n cap) (marks mkVecs i from_ n) ∧ Below w.heap.size w w' := by
  go_enter Tryz.func146, Tryz.ntmps146
  go_wp2
  go_loopw [7, 8] (fun v y wr => ∃ j : Nat, j ≤ n ∧ y = .int .i64 ((from_ + j : Nat) : Int) ∧ Own kVecs wr w.heap.size v (marks mkVecs i from_ j) ∧ Below w.heap.size w wr) (fun _ y _ => from_ + n - (intOf y).toNat)
  case atStart => exact ⟨0, by omega, by simp, World.ownsRow_nil _ _ _ _, Below.refl _ _⟩
  case round =>
    obtain ⟨j, hj, rfl, hown, hbel⟩ := hrel
    obtain ⟨av, capv, rfl, _, _⟩ := row_form hown
    rw [marks_len] at hown ⊢
    have HO := Lib.hid hown
    have HB := Lib.hid hbel
    clear hown
    by_cases hlt : j < n
    · have hst := marks_succ mkVecs i from_ j
      have HST := Lib.hid hst
      obtain ⟨W1, hW1⟩ : ∃ W1, wr.alloc (.cells #[.int .i64 (-1000000 * (i : Int) - ((from_ : Int) + (j : Int)) - 9)] 3) = W1 := ⟨_, rfl⟩
      have hsrc : Src kVecs W1 (.slice (some ⟨wr.heap.size, 0, none⟩) 1 1) [mkVecs i (from_ + j)] := by
        rw [← hW1]
        exact src_one wr (mkVecs i (from_ + j)) _ _ (by unfold mkVecs; simp) 1
      have ho1 : Own kVecs W1 w.heap.size (.slice av j capv) (marks mkVecs i from_ j) := by rw [← hW1]; exact World.ownsRow.alloc HO.out _
      have hb1 : Below w.heap.size w W1 := by rw [← hW1]; exact HB.out.alloc HB.out.size _
      have H1 := Lib.hid (And.intro ho1 (And.intro hb1 hsrc))
      have hml : (marks mkVecs i from_ j).length = j := marks_len _ _ _ _
      have HML := Lib.hid hml
      clear hst hbel hsrc ho1 hb1 hml
      go_wp2_with (at_builtin; refine wpl_app kVecs rfl _ _ rfl rfl rfl H1.out.1 H1.out.2.2 (by rw [HML.out]; simp; omega) H1.out.2.1.size ?_; rw [HML.out]; intro a3 cap3 w3 ho3 hb3 _ _; have H3 := Lib.hid (And.intro ho3 (H1.out.2.1.trans hb3)); clear ho3 hb3)
      go_roundw
      case rel => exact ⟨j + 1, by omega, by go_num, by rw [HST.out]; exact H3.out.1, H3.out.2⟩
      case measure => simp [intOf]; omega
    · obtain rfl : j = n := by omega
      clear hbel
      go_wp2
      go_ret
      exact ⟨av, capv, rfl, HO.out, HB.out⟩

theorem copy_Vecs {w : World} {x : Value} {l : List Int} (hx : Src kVecs w x l) (hl : l.length ≤ 1000000) : Calls Tryz.prog 116 #[x] w fun e w' => ∃ s : Sl, e = .returned s.val ∧ Own kVecs w' w.heap.size s.val l ∧ Below w.heap.size w w' := by
  go_enter Tryz.func116, Tryz.ntmps116
  go_wp2_with (at_builtin; refine wpl_app kVecs (l := []) rfl _ _ rfl rfl rfl (World.ownsRow_nil _ w.heap.size _ _) hx (by simp; omega) (Nat.le_refl _) ?_; intro a3 cap3 w3 ho3 hb3 _ _; have H3 := Lib.hid (And.intro ho3 hb3); clear ho3 hb3)
  go_ret
  have h1 := H3.out.1
  rw [List.nil_append, show ([] : List Int).length + l.length = l.length by simp] at h1
  exact ⟨⟨a3, l.length, cap3⟩, rfl, h1, H3.out.2⟩
end Go.Proofs.YtnegappgdpeabaaGreat
/-
  Book: the kind Vecs: one list more.
-/
namespace Go.Proofs.YtnegappgdpeabaaGreat
open Go.RowKit

theorem src_slv (w : World) (s : Sl) (t : TypeId) : Src kVecsS (w.alloc (.cells #[s.val] t)) (.slice (some ⟨w.heap.size, 0, none⟩) 1 1) [s] := src_one w s _ _ rfl 1

set_option maxRecDepth 100000 in
set_option maxHeartbeats 1000000 in
theorem add_Vecs {w : World} {bk B : Nat} {vo vw : Value} {S Sw : List (Sl × List Int)} (h : Kd kVecs kVecsS w bk 4 B vo vw S Sw) {s : Sl} {l : List Int} (hs : Own kVecs w B s.val l) (hne : ∀ q, s.val.ownBlock = some q → ¬ footL vo S q ∧ ¬ footL vw Sw q) (hS : S.length < 250) (hB : B ≤ w.heap.size) (hl : l.length ≤ 100000) :
    Calls Tryz.prog 41 #[.pointer (some ⟨bk, 0, none⟩), s.val] w fun e w' => e = .returned (.tuple #[]) ∧ ∃ vo' vw' s2, Added kVecs kVecsS w w' bk 4 B vo vw S Sw s l vo' vw' s2 := by
  obtain ⟨ao, co, rfl⟩ := h.l.form
  obtain ⟨aw, cw, rfl⟩ := h.lw.form
  have hlen : Sw.length = S.length := by have := congrArg List.length h.same; simpa using this
  obtain ⟨n, hn⟩ : ∃ n, n = S.length := ⟨_, rfl⟩
  rw [hlen, ← hn] at h hne ⊢
  have H := Lib.hid h
  have HS := Lib.hid hs
  have HN := Lib.hid (And.intro hn hlen)
  have HNE := Lib.hid hne
  have c0 := h.c0
  have c1 := h.c1
  have f0 := h.free 4
  have f1 := h.free 5
  rw [← hn] at hS
  have t1 : (n : Int) < 250 := by omega
  have hbk : bk < w.heap.size := World.block_lt_of_cell? _ _ h.c0
  have hbkB := h.bk0
  clear h hs hn hlen hne
  go_enter Tryz.func41, Tryz.ntmps41
  obtain ⟨sa, hsa⟩ : ∃ sa, s.a = sa := ⟨_, rfl⟩
  obtain ⟨sn, hsn⟩ : ∃ sn, s.n = sn := ⟨_, rfl⟩
  obtain ⟨sc, hsc⟩ : ∃ sc, s.cap = sc := ⟨_, rfl⟩
  have hsv : s.val = .slice sa sn sc := by unfold Sl.val; rw [hsa, hsn, hsc]
  have HSV := Lib.hid hsv
  rw [hsv]
  clear hsv hsa hsn hsc
  obtain ⟨W1, hW1⟩ : ∃ W1, w.alloc (.cells #[.slice sa sn sc] 50) = W1 := ⟨_, rfl⟩
  have hsrc : Src kVecsS W1 (.slice (some ⟨w.heap.size, 0, none⟩) 1 1) [s] := by rw [← hW1, ← HSV.out]; exact src_slv w s _
  have hb1 : Below w.heap.size w W1 := by rw [← hW1]; exact (Below.refl _ _).alloc (Nat.le_refl _) _
  have ho1 : Own kVecsS W1 B (.slice ao n co) (S.map (·.1)) := row_below H.out.l.outer hb1
  have hml : (S.map (·.1)).length = n := by rw [List.length_map, HN.out.1]
  have H1 := Lib.hid (And.intro ho1 (And.intro hsrc (And.intro hb1 hml)))
  have k0 : W1.cell? ⟨bk, 4, none⟩ = some (.slice ao n co) := (hb1.cell (p := ⟨bk, 4, none⟩) hbk).trans c0
  clear hsrc ho1 hb1 hml
  go_wp2_with (at_builtin; go_loud (refine wpl_app2 kVecsS rfl _ _ rfl rfl rfl H1.out.1 H1.out.2.1 (by rw [H1.out.2.2.2]; simp; omega) (Nat.le_trans hB H1.out.2.2.1.size) ?_); go_loud (rw [H1.out.2.2.2]; intro a3 cap3 w3 hap; have hap2 : Appd kVecsS W1 w3 B (.slice ao n co) (.slice a3 (n + 1) cap3) (S.map (·.1)) [s] := hap; have HAP := Lib.hid hap2; have g0 := hap.tn.cell k0 (fun e => absurd ((H1.out.1.lt bk e).1) (by omega)); have g1 := (hap.tn.frozen (p := ⟨bk, 4, none⟩) (World.block_lt_of_cell? _ _ k0) (fun e => absurd ((H1.out.1.lt bk e).1) (by omega))).trans ((H1.out.2.2.1.frozen (p := ⟨bk, 4, none⟩) hbk).trans f0); clear hap hap2))
  have HM := Lib.hid (add_mid H.out HS.out HNE.out H1.out.2.2.1 HAP.out)
  obtain ⟨w4, hw4⟩ : ∃ w4, w3.setCell ⟨bk, 4, none⟩ (.slice a3 (n + 1) cap3) = w4 := ⟨_, rfl⟩
  rw [hw4] at HM
  rw [hw4]
  clear hw4 g0 g1 k0 hW1
  have kd1 : w4.drew.cell? ⟨bk, 5, none⟩ = some (.slice aw n cw) := HM.out.c1
  refine wp_region_K (fun w' => w'.cell? ⟨bk, 5, none⟩ = some (.slice aw n cw)) 11 12 (by kernel_rfl) (by kernel_rfl) kd1 (fun hH => ?_)
  refine wpAnyK_take (i := 0) [11] (v := ?v1) rfl (by kernel_rfl) (by kernel_rfl) (by kernel_rfl) (by kernel_rfl) (fun _ _ _ h => h) (Or.inl ⟨by rfl, ?hy1⟩) hH ?rest1
  case hy1 => (intro w hSw; (try dsimp only at hSw); go_simp; with_reducible rfl)
  try simp only [Act.put, List.setIfInBounds_toArray, List.set_cons_zero, List.set_cons_succ]
  refine wpAnyK_take (i := 1) [11] (v := ?v2) rfl (by kernel_rfl) (by kernel_rfl) (by kernel_rfl) (by kernel_rfl) (fun _ _ _ h => h) (Or.inl ⟨by rfl, ?hy2⟩) hH ?rest2
  case hy2 => (intro w hSw; (try dsimp only at hSw); go_simp; with_reducible rfl)
  try simp only [Act.put, List.setIfInBounds_toArray, List.set_cons_zero, List.set_cons_succ]
  refine wpAnyK_take (i := 2) [11] (v := ?v3) rfl (by kernel_rfl) (by kernel_rfl) (by kernel_rfl) (by kernel_rfl) (fun _ _ _ h => h) (Or.inl ⟨by rfl, ?hy3⟩) hH ?rest3
  case hy3 => (intro w hSw; (try dsimp only at hSw); go_simp; with_reducible rfl)
  try simp only [Act.put, List.setIfInBounds_toArray, List.set_cons_zero, List.set_cons_succ]
  refine wpAnyK_take (i := 3) [11] (v := ?v4) rfl (by kernel_rfl) (by kernel_rfl) (by kernel_rfl) (by kernel_rfl) (fun _ _ _ h => h) (Or.inl ⟨by rfl, ?hy4⟩) hH ?rest4
  case hy4 => (intro w hSw; (try dsimp only at hSw); go_simp; with_reducible rfl)
  try simp only [Act.put, List.setIfInBounds_toArray, List.set_cons_zero, List.set_cons_succ]
  refine wpAnyK_take (i := 4) [11] (v := ?v5) rfl (by kernel_rfl) (by kernel_rfl) (by kernel_rfl) (by kernel_rfl) (fun _ _ _ h => h) (Or.inl ⟨by rfl, ?hy5⟩) hH ?rest5
  case hy5 => (intro w hSw; (try dsimp only at hSw); go_simp; with_reducible rfl)
  try simp only [Act.put, List.setIfInBounds_toArray, List.set_cons_zero, List.set_cons_succ]
  refine wpAnyK_take (i := 5) [11] (v := ?v6) rfl (by kernel_rfl) (by kernel_rfl) (by kernel_rfl) (by kernel_rfl) (fun _ _ _ h => h) (Or.inl ⟨by rfl, ?hy6⟩) hH ?rest6
  case hy6 => (intro w hSw; (try dsimp only at hSw); go_simp; with_reducible rfl)
  try simp only [Act.put, List.setIfInBounds_toArray, List.set_cons_zero, List.set_cons_succ]
  refine wpAnyK_one (i := 6) (by kernel_rfl) rfl (fun K hK => ?_) (by kernel_rfl)
  go_simp
  go_at_call 116
  refine (copy_Vecs (l := l) (by rw [← HSV.out]; exact HM.out.hs.src) (by omega)).mono ?_
  rintro e w5 ⟨s2, rfl, ho5, hb5⟩
  have kd2 := (hb5.cell (p := ⟨bk, 5, none⟩) (World.block_lt_of_cell? _ _ kd1)).trans kd1
  have H5 := Lib.hid (And.intro ho5 hb5)
  clear ho5 hb5
  refine hK.out _ _ kd2 (fun hH => ?_)
  clear hK K
  try simp only [Act.put, List.setIfInBounds_toArray, List.set_cons_zero, List.set_cons_succ]
  obtain ⟨sb, hsb⟩ : ∃ sb, s2.a = sb := ⟨_, rfl⟩
  obtain ⟨sm, hsm⟩ : ∃ sm, s2.n = sm := ⟨_, rfl⟩
  obtain ⟨sd, hsd⟩ : ∃ sd, s2.cap = sd := ⟨_, rfl⟩
  have hsv2 : s2.val = .slice sb sm sd := by unfold Sl.val; rw [hsb, hsm, hsd]
  have HSV2 := Lib.hid hsv2
  rw [hsv2]
  clear hsv2 hsb hsm hsd
  refine wpAnyK_one (i := 7) (by kernel_rfl) rfl (fun K hK => ?_) (by kernel_rfl)
  go_simp
  obtain ⟨w6, hw6⟩ : ∃ w6, w6 = w5.alloc (.cells #[.slice sb sm sd] 50) := ⟨_, rfl⟩
  have hb6 : Below w5.heap.size w5 w6 := by rw [hw6]; exact (Below.refl _ _).alloc (Nat.le_refl _) _
  have hsrc6 : Src kVecsS w6 (.slice (some ⟨w5.heap.size, 0, none⟩) 1 1) [s2] := by rw [hw6, ← HSV2.out]; exact src_slv w5 s2 _
  rw [← hw6]
  clear hw6
  have kd3 := (hb6.cell (p := ⟨bk, 5, none⟩) (World.block_lt_of_cell? _ _ kd2)).trans kd2
  have hb46 : Below w4.heap.size w4 w6 := ((Below.refl _ _).drew.trans H5.out.2).trans (hb6.mono H5.out.2.size)
  have hown6 : Own kVecsS w6 B (.slice aw n cw) (Sw.map (·.1)) := row_below HM.out.lw.outer hb46
  have H6 := Lib.hid (And.intro hb6 (And.intro hsrc6 (And.intro hown6 hb46)))
  clear hb6 hsrc6 hown6 hb46
  refine hK.out _ _ kd3 (fun hH => ?_)
  clear hK K
  try simp only [Act.put, List.setIfInBounds_toArray, List.set_cons_zero, List.set_cons_succ]
  have hml2 : (Sw.map (·.1)).length = n := by rw [List.length_map, HN.out.2, HN.out.1]
  refine wpAnyK_one (i := 8) (by kernel_rfl) rfl (fun K hK => ?_) (by kernel_rfl)
  refine step_app2 kVecsS rfl _ _ rfl rfl rfl H6.out.2.2.1 H6.out.2.1 (by rw [hml2]; simp; omega) (Nat.le_trans hB (Nat.le_trans HM.out.tn.size H6.out.2.2.2.size)) ?_
  rw [hml2]
  intro a7 cap7 w7 hap7'
  have hap7 : Appd kVecsS w6 w7 B (.slice aw n cw) (.slice a7 (n + 1) cap7) (Sw.map (·.1)) [s2] := hap7'
  have HAP7 := Lib.hid hap7
  have kd4 := hap7.tn.cell kd3 (fun e => absurd ((H6.out.2.2.1.lt bk e).1) (by omega))
  have hf7 : w7.frozen? ⟨bk, 5, none⟩ = false := (hap7.tn.frozen (p := ⟨bk, 5, none⟩) (World.block_lt_of_cell? _ _ kd3) (fun e => absurd ((H6.out.2.2.1.lt bk e).1) (by omega))).trans ((H6.out.2.2.2.frozen (p := ⟨bk, 5, none⟩) (World.block_lt_of_cell? _ _ HM.out.c1)).trans (HM.out.free 5))
  clear hap7 hap7'
  refine hK.out _ _ kd4 (fun hH => ?_)
  clear hK K
  try simp only [Act.put, List.setIfInBounds_toArray, List.set_cons_zero, List.set_cons_succ]
  refine wpAnyK_take (i := 9) [10, 11] (v := ?v7) rfl (by kernel_rfl) (by kernel_rfl) (by kernel_rfl) (by kernel_rfl) (fun _ _ _ h => h) (Or.inl ⟨by rfl, ?hy7⟩) hH ?rest7
  case hy7 => (intro w hSw; (try dsimp only at hSw); go_simp; with_reducible rfl)
  try simp only [Act.put, List.setIfInBounds_toArray, List.set_cons_zero, List.set_cons_succ]
  refine wpAnyK_take (i := 10) [11] (v := ?v8) rfl (by kernel_rfl) (by kernel_rfl) (by kernel_rfl) (by kernel_rfl) (fun _ _ _ h => h) (Or.inl ⟨by rfl, ?hy8⟩) hH ?rest8
  case hy8 => (intro w hSw; (try dsimp only at hSw); go_simp; with_reducible rfl)
  try simp only [Act.put, List.setIfInBounds_toArray, List.set_cons_zero, List.set_cons_succ]
  refine wpAnyK_last (by kernel_rfl) rfl (fun K hK => ?_) (by kernel_rfl)
  go_simp
  refine hK.out _ _ (wpAnyK_done (by kernel_rfl) ?_ _)
  clear hK K hH
  have hfin := Lib.hid (add_end HM.out hB H5.out.1 ((Below.refl _ _).drew.trans H5.out.2) H6.out.1 HAP7.out)
  clear kd4 kd3 kd2 kd1 hml2 hf7
  go_wp2_with fail
  go_end0
  exact ⟨rfl, _, _, _, hfin.out⟩
end Go.Proofs.YtnegappgdpeabaaGreat
/-
  Book: the kind Vecs: as it was?
-/
namespace Go.Proofs.YtnegappgdpeabaaGreat
open Go.RowKit

set_option maxHeartbeats 1000000 in
theorem still_Vecs {w : World} {bk B : Nat} {vo vw : Value} {S Sw : List (Sl × List Int)} (h : Kd kVecs kVecsS w bk 4 B vo vw S Sw) (hS : S.length ≤ 1000) (hl : ∀ i (hi : i < S.length), S[i].2.length ≤ 1000000) :
    Calls Tryz.prog 52 #[.pointer (some ⟨bk, 0, none⟩)] w fun e w' => e = .returned (.bool true) ∧ ∃ a, w' = w.drewN a := by
  obtain ⟨ao, co, rfl⟩ := h.l.form
  obtain ⟨aw, cw, rfl⟩ := h.lw.form
  have hlen : Sw.length = S.length := by have := congrArg List.length h.same; simpa using this
  obtain ⟨n, hn⟩ : ∃ n, n = S.length := ⟨_, rfl⟩
  rw [hlen, ← hn] at h
  have H := Lib.hid h
  have HN := Lib.hid (And.intro hn hlen)
  have HL := Lib.hid hl
  have c0 := h.c0
  have c1 := h.c1
  rw [← hn] at hS
  clear h hn hlen hl
  go_enter Tryz.func52, Tryz.ntmps52
  go_wp2
  go_loopw [3] (fun iv wr => ∃ i : Nat, i ≤ n ∧ iv = .int .i64 (i : Int) ∧ ∃ a, wr = w.drewN a) (fun iv _ => n - (intOf iv).toNat)
  case atStart => exact ⟨0, by omega, rfl, 0, rfl⟩
  case round =>
    obtain ⟨i, hi, rfl, a, rfl⟩ := hrel
    by_cases hlt : i < n
    · have hi1 : i < S.length := by have := HN.out.1; omega
      have hi2 : i < Sw.length := by have := HN.out.2; omega
      obtain ⟨g, sa, sc, rfl, d1, s1⟩ := H.out.l.at_ hi1
      obtain ⟨g2, sa2, sc2, rfl, d2, s2⟩ := H.out.lw.at_ hi2
      have hsm : Sw[i].2 = S[i].2 := by
        have h1 := congrArg (fun l => l[i]?) H.out.same
        simp only [List.getElem?_map, List.getElem?_eq_getElem hi1, List.getElem?_eq_getElem hi2, Option.map_some, Option.some.injEq] at h1
        exact h1
      have hc : RdVc w (.slice sa S[i].2.length sc) S[i].2 := by rw [← s1]; exact rdVc_own (H.out.l.each i hi1)
      have hc2 : RdVc w (.slice sa2 Sw[i].2.length sc2) S[i].2 := by rw [← s2, ← hsm]; exact rdVc_own (H.out.lw.each i hi2)
      have hll := HL.out i hi1
      obtain ⟨m, hm⟩ : ∃ m, S[i].2.length = m := ⟨_, rfl⟩
      obtain ⟨l, hll2⟩ : ∃ l, S[i].2 = l := ⟨_, rfl⟩
      rw [hsm] at d2 hc2
      rw [hll2] at d1 d2 hc hc2 hll
      have HC := Lib.hid (And.intro hc hc2)
      have r1 : (i : Int) < (n : Int) := by omega
      clear hc hc2 s1 s2 hm hsm hll2
      go_wp2
      go_quiet ((go_at_call 127; exact quiet_add (same_Vecs (HC.out.1.drewN _) (HC.out.2.drewN _) hll)))
      go_wp2
      go_roundw
      case rel => exact ⟨i + 1, by omega, by go_num, _, rfl⟩
      case measure => simp [intOf]; omega
    · obtain rfl : i = n := by omega
      go_wp2
      go_ret
      exact ⟨rfl, _, rfl⟩
end Go.Proofs.YtnegappgdpeabaaGreat
/-
  Book: the kind Vecs: marks are laid.
-/
namespace Go.Proofs.YtnegappgdpeabaaGreat
open Go.RowKit

theorem vset {w : World} {B g n cap : Nat} {l : List Int} (h : Own kVecs w B (.slice (some ⟨g, 0, none⟩) n cap) l) (hn : l.length = n) (j : Nat) (x : Int) : Own kVecs (w.setCell ⟨g, j, none⟩ (.int .i64 x)) B (.slice (some ⟨g, 0, none⟩) n cap) (l.set j x) := by
  subst hn
  have h1 := (World.ownsRow.stored h j (.int .i64 x)).1
  have e : (l.flatMap (fun k : Int => [Value.int .i64 k])).set j (.int .i64 x) = (l.set j x).flatMap (fun k : Int => [Value.int .i64 k]) := by
    rw [← List.map_eq_flatMap, ← List.map_eq_flatMap, List.map_set]
  show World.ownsRow _ _ _ _ _ _ _
  rw [List.length_set, ← e]
  exact h1
theorem vget {w : World} {B n cap : Nat} {a : Option Addr} {l : List Int} (h : Own kVecs w B (.slice a n cap) l) {j : Nat} {x : Int} (hj : l[j]? = some x) : ∃ g, a = some ⟨g, 0, none⟩ ∧ w.cell? ⟨g, j, none⟩ = some (.int .i64 x) ∧ w.frozen? ⟨g, j, none⟩ = false ∧ B ≤ g ∧ g < w.heap.size := by
  obtain ⟨hjl, he⟩ := List.getElem?_eq_some_iff.1 hj
  have h0 := h
  obtain ⟨h1, h2⟩ := h
  rcases h2 with ⟨_, h3⟩ | ⟨g, cap', cur, hv, hg, hh, hn', hc, hcl, htk⟩
  · omega
  · injection hv with e1 e2 e3
    subst e1 e2
    refine ⟨g, rfl, ?_, ?_, hg, (Array.getElem?_eq_some_iff.1 hh).1⟩
    · have := World.ownsRow.cellAt h0 j (by omega)
      rw [this]
      have h4 := kVecs.get l j 0 hjl (by omega)
      rw [Nat.mul_one, Nat.add_zero] at h4
      rw [h4, he]
      rfl
    · exact World.ownsRow.frozenAt h0 j

set_option maxRecDepth 100000 in
set_option maxHeartbeats 2000000 in
theorem put_Vecs {w : World} {bk B : Nat} {vo : Value} {S : List (Sl × List Int)} (hc : w.cell? ⟨bk, 4, none⟩ = some vo) (hbk : bk < B) (h : Lst kVecs kVecsS w B vo S) (hS : S.length ≤ 1000) (hl : ∀ i (hi : i < S.length), S[i].2.length ≤ 1000000) :
    Calls Tryz.prog 72 #[.pointer (some ⟨bk, 0, none⟩)] w fun e w' => e = .returned (.tuple #[]) ∧ Lst kVecs kVecsS w' B vo (mset mkVecs S.length S) ∧ Tn (footL vo S) w w' := by
  obtain ⟨ao, co, rfl⟩ := h.form
  obtain ⟨n, hn⟩ : ∃ n, n = S.length := ⟨_, rfl⟩
  rw [← hn] at h hc hS ⊢
  have HL := Lib.hid hl
  have HN := Lib.hid hn
  have HC := Lib.hid (And.intro hc h)
  have hlt0 := World.block_lt_of_cell? _ _ hc
  clear hn hl
  go_enter Tryz.func72, Tryz.ntmps72
  go_wp2
  go_loopw [2, 3, 4] (fun iv _ _ wr => ∃ i : Nat, i ≤ n ∧ iv = .int .i64 (i : Int) ∧ Lst kVecs kVecsS wr B (.slice ao n co) (mset mkVecs i S) ∧ Tn (footL (.slice ao n co) S) w wr) (fun iv _ _ _ => n - (intOf iv).toNat)
  case atStart => exact ⟨0, by omega, rfl, by rw [mset_zero]; exact h, Tn.refl _ _⟩
  case round =>
    obtain ⟨wo, rfl⟩ : ∃ wo, wo = wr := ⟨_, rfl⟩
    obtain ⟨i, hi, rfl, hlst, htn⟩ := hrel
    clear hc h
    have hnf : ∀ q, footL (.slice ao n co) S q → q ≠ bk := fun q hq e => by have := (HC.out.2.lt hq).1; omega
    have cb : wo.cell? ⟨bk, 4, none⟩ = some (.slice ao n co) := htn.cell HC.out.1 (fun hq => hnf bk hq rfl)
    have HT := Lib.hid (And.intro hlst (And.intro htn hnf))
    clear htn hnf
    by_cases hlt : i < n
    · have hi1 : i < S.length := by have := HN.out; omega
      have hi2 : i < (mset mkVecs i S).length := by rw [mset_len]; exact hi1
      have hmg : (mset mkVecs i S)[i] = (S[i].1, S[i].2) := by rw [mset_get mkVecs i i S hi2 hi1]; simp
      obtain ⟨g, sa, sc, rfl, d1, s1⟩ := hlst.at_ hi2
      rw [hmg] at d1 s1
      simp only at d1 s1
      obtain ⟨m, hm⟩ : ∃ m, S[i].2.length = m := ⟨_, rfl⟩
      have hll := HL.out i hi1
      rw [hm] at d1 s1 hll
      have HM := Lib.hid (And.intro hm (And.intro s1 hmg))
      have r1 : (i : Int) < (n : Int) := by omega
      clear hm s1 hmg hlst
      go_wp2_with (go_at_call 146; refine (mark_Vecs i 0 m (by omega) (by omega) (by omega) _).mono ?_; rintro e w1 ⟨am, cm, rfl, hom, hbm⟩; have HO := Lib.hid (And.intro hom hbm); clear hom hbm)
      go_loopw [4] (fun kv wr2 => ∃ j : Nat, j ≤ m ∧ kv = .int .i64 (j : Int) ∧ Lst kVecs kVecsS wr2 B (.slice (some ⟨g, 0, none⟩) n co) (relist (mset mkVecs i S) i (marks mkVecs i 0 j ++ S[i].2.drop j)) ∧ Own kVecs wr2 wo.heap.size (.slice am m cm) (marks mkVecs i 0 m) ∧ Tn (footL (.slice (some ⟨g, 0, none⟩) n co) S) w wr2) (fun kv _ => m - (intOf kv).toNat)
      case atStart =>
        refine ⟨0, by omega, rfl, ?_, HO.out.1, HT.out.2.1.trans (Tn.ofBelow HO.out.2)⟩
        have : marks mkVecs i 0 0 ++ S[i].2.drop 0 = (mset mkVecs i S)[i].2 := by rw [HM.out.2.2]; rfl
        rw [this, relist_same _ _ hi2]
        exact HT.out.1.below HO.out.2
      case round =>
        obtain ⟨wr2, rfl⟩ : ∃ wr2, wr2 = wr := ⟨_, rfl⟩
        obtain ⟨j, hj, rfl, hlst2, hom2, htn2⟩ := hrel
        have cb2 : wr2.cell? ⟨bk, 4, none⟩ = some (.slice (some ⟨g, 0, none⟩) n co) := htn2.cell HC.out.1 (fun hq => HT.out.2.2 bk hq rfl)
        by_cases hlt2 : j < m
        · have hi3 : i < (relist (mset mkVecs i S) i (marks mkVecs i 0 j ++ S[i].2.drop j)).length := by rw [relist_len]; exact hi2
          have hrg : (relist (mset mkVecs i S) i (marks mkVecs i 0 j ++ S[i].2.drop j))[i] = (S[i].1, marks mkVecs i 0 j ++ S[i].2.drop j) := by
            rw [relist_get _ i i _ hi3 hi2, HM.out.2.2]; simp
          have hml : (marks mkVecs i 0 j ++ S[i].2.drop j).length = m := by rw [List.length_append, marks_len, List.length_drop, HM.out.1]; omega
          obtain ⟨g', sa', sc', hg', d2, s2⟩ := hlst2.at_ hi3
          obtain rfl : g = g' := by injection hg' with e; injection e
          have hown := hlst2.each i hi3
          rw [hrg] at d2 s2 hown
          simp only [hml] at d2 s2
          simp only at hown
          rw [HM.out.2.1] at s2
          obtain ⟨rfl, -, rfl⟩ := Value.slice.inj s2
          rw [HM.out.2.1] at hown
          have hsd : (marks mkVecs i 0 j ++ S[i].2.drop j)[j]? = some (S[i].2[j]'(by rw [HM.out.1]; exact hlt2)) := by
            rw [List.getElem?_append_right (by rw [marks_len]; omega), marks_len, Nat.sub_self, List.getElem?_drop, Nat.add_zero, List.getElem?_eq_getElem (by rw [HM.out.1]; exact hlt2)]
          obtain ⟨gi, rfl, x1, x2, x3, x4⟩ := vget hown hsd
          obtain ⟨gm, rfl, y1, -, y3, y4⟩ := vget hom2 (marks_get mkVecs i m j hlt2)
          obtain ⟨ov, hov⟩ : ∃ ov, S[i].2[j]'(by rw [HM.out.1]; exact hlt2) = ov := ⟨_, rfl⟩
          rw [hov] at x1
          obtain ⟨nv, hnv⟩ : ∃ nv, mkVecs i j = nv := ⟨_, rfl⟩
          rw [hnv] at y1
          have hset := vset hown (by exact hml) j (mkVecs i j)
          rw [mark_over mkVecs i j _ (by rw [HM.out.1]; exact hlt2)] at hset
          have hgg : gi ≠ gm := fun e => by
            have := (hlst2.lt (q := gi) (.inr ⟨i, hi3, by rw [hrg]; simp only; rw [HM.out.2.1]; rfl⟩)).2
            have h5 : footL (.slice (some ⟨g, 0, none⟩) n co) (mset mkVecs i S) gi := .inr ⟨i, hi2, by rw [HM.out.2.2]; simp only; rw [HM.out.2.1]; rfl⟩
            have := (HT.out.1.lt h5).2
            omega
          have HX := Lib.hid (And.intro hlst2 (And.intro hom2 (And.intro htn2 (And.intro hset (And.intro hrg (And.intro hnv hgg))))))
          have r2 : (j : Int) < (m : Int) := by omega
          clear hlst2 hom2 htn2 hset hrg hnv hov hown s2 hml hsd hg' hgg
          go_wp2
          refine wp_region_K (fun w' => w'.cell? ⟨bk, 4, none⟩ = some (.slice (some ⟨g, 0, none⟩) n co) ∧ w'.cell? ⟨g, i, none⟩ = some (.slice (some ⟨gi, 0, none⟩) m sc) ∧ w'.cell? ⟨gm, j, none⟩ = some (.int .i64 nv)) 13 14 (by kernel_rfl) (by kernel_rfl) ⟨cb2, d2, y1⟩ (fun hH => ?_)
          refine wpAnyK_take (i := 0) [13] (v := ?v9) rfl (by kernel_rfl) (by kernel_rfl) (by kernel_rfl) (by kernel_rfl) (fun _ _ _ h => h) (Or.inl ⟨by rfl, ?hy9⟩) hH ?rest9
          case hy9 => (intro w hSw; (try dsimp only at hSw); go_simp; with_reducible rfl)
          try simp only [Act.put, List.setIfInBounds_toArray, List.set_cons_zero, List.set_cons_succ]
          refine wpAnyK_take (i := 1) [13] (v := ?v10) rfl (by kernel_rfl) (by kernel_rfl) (by kernel_rfl) (by kernel_rfl) (fun _ _ _ h => h) (Or.inl ⟨by rfl, ?hy10⟩) hH ?rest10
          case hy10 => (intro w hSw; (try dsimp only at hSw); go_simp; with_reducible rfl)
          try simp only [Act.put, List.setIfInBounds_toArray, List.set_cons_zero, List.set_cons_succ]
          refine wpAnyK_take (i := 2) [13] (v := ?v11) rfl (by kernel_rfl) (by kernel_rfl) (by kernel_rfl) (by kernel_rfl) (fun _ _ _ h => h) (Or.inl ⟨by rfl, ?hy11⟩) hH ?rest11
          case hy11 => (intro w hSw; (try dsimp only at hSw); go_simp; with_reducible rfl)
          try simp only [Act.put, List.setIfInBounds_toArray, List.set_cons_zero, List.set_cons_succ]
          refine wpAnyK_take (i := 3) [13] (v := ?v12) rfl (by kernel_rfl) (by kernel_rfl) (by kernel_rfl) (by kernel_rfl) (fun _ _ _ h => h) (Or.inl ⟨by rfl, ?hy12⟩) hH ?rest12
          case hy12 => (intro w hSw; (try dsimp only at hSw); go_simp; with_reducible rfl)
          try simp only [Act.put, List.setIfInBounds_toArray, List.set_cons_zero, List.set_cons_succ]
          refine wpAnyK_take (i := 4) [13] (v := ?v13) rfl (by kernel_rfl) (by kernel_rfl) (by kernel_rfl) (by kernel_rfl) (fun _ _ _ h => h) (Or.inl ⟨by rfl, ?hy13⟩) hH ?rest13
          case hy13 => (intro w hSw; (try dsimp only at hSw); go_simp; with_reducible rfl)
          try simp only [Act.put, List.setIfInBounds_toArray, List.set_cons_zero, List.set_cons_succ]
          refine wpAnyK_take (i := 5) [13] (v := ?v14) rfl (by kernel_rfl) (by kernel_rfl) (by kernel_rfl) (by kernel_rfl) (fun _ _ _ h => h) (Or.inl ⟨by rfl, ?hy14⟩) hH ?rest14
          case hy14 => (intro w hSw; (try dsimp only at hSw); go_simp; with_reducible rfl)
          try simp only [Act.put, List.setIfInBounds_toArray, List.set_cons_zero, List.set_cons_succ]
          refine wpAnyK_take (i := 6) [13] (v := ?v15) rfl (by kernel_rfl) (by kernel_rfl) (by kernel_rfl) (by kernel_rfl) (fun _ _ _ h => h) (Or.inl ⟨by rfl, ?hy15⟩) hH ?rest15
          case hy15 => (intro w hSw; (try dsimp only at hSw); go_simp; with_reducible rfl)
          try simp only [Act.put, List.setIfInBounds_toArray, List.set_cons_zero, List.set_cons_succ]
          refine wpAnyK_take (i := 7) [13] (v := ?v16) rfl (by kernel_rfl) (by kernel_rfl) (by kernel_rfl) (by kernel_rfl) (fun _ _ _ h => h) (Or.inl ⟨by rfl, ?hy16⟩) hH ?rest16
          case hy16 => (intro w hSw; (try dsimp only at hSw); go_simp; with_reducible rfl)
          try simp only [Act.put, List.setIfInBounds_toArray, List.set_cons_zero, List.set_cons_succ]
          refine wpAnyK_take (i := 8) [13] (v := ?v17) rfl (by kernel_rfl) (by kernel_rfl) (by kernel_rfl) (by kernel_rfl) (fun _ _ _ h => h) (Or.inl ⟨by rfl, ?hy17⟩) hH ?rest17
          case hy17 => (intro w hSw; (try dsimp only at hSw); go_simp; with_reducible rfl)
          try simp only [Act.put, List.setIfInBounds_toArray, List.set_cons_zero, List.set_cons_succ]
          refine wpAnyK_take (i := 9) [13] (v := ?v18) rfl (by kernel_rfl) (by kernel_rfl) (by kernel_rfl) (by kernel_rfl) (fun _ _ _ h => h) (Or.inl ⟨by rfl, ?hy18⟩) hH ?rest18
          case hy18 => (intro w hSw; (try dsimp only at hSw); go_simp; with_reducible rfl)
          try simp only [Act.put, List.setIfInBounds_toArray, List.set_cons_zero, List.set_cons_succ]
          refine wpAnyK_take (i := 10) [13] (v := ?v19) rfl (by kernel_rfl) (by kernel_rfl) (by kernel_rfl) (by kernel_rfl) (fun _ _ _ h => h) (Or.inl ⟨by rfl, ?hy19⟩) hH ?rest19
          case hy19 => (intro w hSw; (try dsimp only at hSw); go_simp; with_reducible rfl)
          try simp only [Act.put, List.setIfInBounds_toArray, List.set_cons_zero, List.set_cons_succ]
          refine wpAnyK_take (i := 11) [13] (v := ?v20) rfl (by kernel_rfl) (by kernel_rfl) (by kernel_rfl) (by kernel_rfl) (fun _ _ _ h => h) (Or.inl ⟨by rfl, ?hy20⟩) hH ?rest20
          case hy20 => (intro w hSw; (try dsimp only at hSw); go_simp; with_reducible rfl)
          try simp only [Act.put, List.setIfInBounds_toArray, List.set_cons_zero, List.set_cons_succ]
          refine wpAnyK_take (i := 12) [13] (v := ?v21) rfl (by kernel_rfl) (by kernel_rfl) (by kernel_rfl) (by kernel_rfl) (fun _ _ _ h => h) (Or.inl ⟨by rfl, ?hy21⟩) hH ?rest21
          case hy21 => (intro w hSw; (try dsimp only at hSw); go_simp; with_reducible rfl)
          try simp only [Act.put, List.setIfInBounds_toArray, List.set_cons_zero, List.set_cons_succ]
          refine wpAnyK_last (by kernel_rfl) rfl (fun K hK => ?_) (by kernel_rfl)
          go_simp
          refine hK.out _ _ (wpAnyK_done (by kernel_rfl) ?_ _)
          clear hK K hH
          have hfin : Lst kVecs kVecsS (wr2.drew.setCell ⟨gi, j, none⟩ (.int .i64 nv)) B (.slice (some ⟨g, 0, none⟩) n co) (relist (mset mkVecs i S) i (marks mkVecs i 0 (j + 1) ++ S[i].2.drop (j + 1))) := by
            have hl0 : Lst kVecs kVecsS wr2.drew B (.slice (some ⟨g, 0, none⟩) n co) _ := HX.out.1.below (Below.refl _ _).drew
            have h7 := hl0.relist (w' := wr2.drew.setCell ⟨gi, j, none⟩ (.int .i64 nv)) hi3 (l := marks mkVecs i 0 (j + 1) ++ S[i].2.drop (j + 1)) (Tn.setCell _ _ _ (by rw [HX.out.2.2.2.2.1]; simp only; rw [HM.out.2.1]; rfl)) (by
              rw [HX.out.2.2.2.2.1]
              simp only
              rw [HM.out.2.1, ← HX.out.2.2.2.2.2.1]
              exact HX.out.2.2.2.1)
            rw [relist_twice] at h7
            exact h7
          have hom3 : Own kVecs (wr2.drew.setCell ⟨gi, j, none⟩ (.int .i64 nv)) wo.heap.size (.slice (some ⟨gm, 0, none⟩) m cm) (marks mkVecs i 0 m) :=
            (Tn.setCell (F := fun q => q = gi) wr2.drew ⟨gi, j, none⟩ _ rfl).row (World.ownsRow.drew HX.out.2.1) (fun q hq e => HX.out.2.2.2.2.2.2 (by rw [← e]; exact (Option.some.inj hq).symm))
          have htn3 : Tn (footL (.slice (some ⟨g, 0, none⟩) n co) S) w (wr2.drew.setCell ⟨gi, j, none⟩ (.int .i64 nv)) :=
            (HX.out.2.2.1.trans (Tn.drew _)).trans (Tn.setCell _ _ _ (.inr ⟨i, hi1, by rw [HM.out.2.1]; rfl⟩))
          have HF := Lib.hid (And.intro hfin (And.intro hom3 htn3))
          clear hfin hom3 htn3
          go_wp2_with fail
          go_roundw
          case rel => exact ⟨j + 1, by omega, by go_num, HF.out.1, HF.out.2.1, HF.out.2.2⟩
          case measure => simp [intOf]; omega
        · obtain rfl : j = m := by omega
          clear hom2
          have HZ := Lib.hid (And.intro hlst2 htn2)
          clear hlst2 htn2
          go_wp2
          go_roundw
          case rel =>
            refine ⟨i + 1, by omega, by go_num, ?_, HZ.out.2⟩
            have h6 := HZ.out.1
            rw [List.drop_of_length_le (by rw [HM.out.1]; omega), List.append_nil] at h6
            rw [← mset_succ mkVecs i S hi1, HM.out.1]
            exact h6
          case measure => simp [intOf]; omega
    · obtain rfl : i = n := by omega
      clear hlst
      go_wp2
      go_end0
      exact ⟨rfl, HT.out.1, HT.out.2.1⟩
end Go.Proofs.YtnegappgdpeabaaGreat
/-
  Book: the kind Vecs: lists are grown; are all marked?
-/
namespace Go.Proofs.YtnegappgdpeabaaGreat
open Go.RowKit

set_option maxRecDepth 100000 in
set_option maxHeartbeats 2000000 in
theorem grow_Vecs {w : World} {bk B : Nat} {vo : Value} {S : List (Sl × List Int)} (hc : w.cell? ⟨bk, 4, none⟩ = some vo) (hbk : bk < B) (h : Lst kVecs kVecsS w B vo S) (hS : S.length ≤ 1000) (hl : ∀ i (hi : i < S.length), S[i].2.length ≤ 1000000) (hmk : Mkd mkVecs S) (hB : B ≤ w.heap.size) :
    Calls Tryz.prog 82 #[.pointer (some ⟨bk, 0, none⟩)] w fun e w' => ∃ outv Sg, e = .returned outv ∧ Grow kVecs kVecsS mkVecs w w' B vo S outv Sg S.length := by
  obtain ⟨ao, co, rfl⟩ := h.form
  obtain ⟨n, hn⟩ : ∃ n, n = S.length := ⟨_, rfl⟩
  rw [← hn] at h hc hS ⊢
  have HL := Lib.hid hl
  have HN := Lib.hid hn
  have HC := Lib.hid (And.intro hc (And.intro h hmk))
  have hlt0 : bk < w.heap.size := World.block_lt_of_cell? _ _ hc
  clear hn hl hmk
  go_enter Tryz.func82, Tryz.ntmps82
  go_wp2
  go_loopw [3, 4, 5, 6] (fun ov iv _ _ wr => ∃ i : Nat, i ≤ n ∧ iv = .int .i64 (i : Int) ∧ ∃ Sg, Grow kVecs kVecsS mkVecs w wr B (.slice ao n co) S ov Sg i) (fun _ iv _ _ _ => n - (intOf iv).toNat)
  case atStart => exact ⟨0, by omega, rfl, [], Grow.start h⟩
  case round =>
    obtain ⟨wo, rfl⟩ : ∃ wo, wo = wr := ⟨_, rfl⟩
    obtain ⟨i, hi, rfl, Sg, hgr⟩ := hrel
    clear hc h
    have cb : wo.cell? ⟨bk, 4, none⟩ = some (.slice ao n co) := hgr.tn.cell HC.out.1 (fun hq => by have := (HC.out.2.1.lt (q := bk) hq).1; omega)
    obtain ⟨aout, cout, rfl⟩ := hgr.g.form
    have hsg := hgr.len
    rw [hsg] at hgr ⊢
    have HG := Lib.hid (And.intro hgr hsg)
    clear hsg
    by_cases hlt : i < n
    · have hi1 : i < S.length := by have := HN.out; omega
      obtain ⟨g, sa, sc, rfl, d1, s1⟩ := hgr.l.at_ hi1
      have hin := hgr.in_ hi1 HC.out.2.2
      rw [s1] at hin
      obtain ⟨m, hm⟩ : ∃ m, S[i].2.length = m := ⟨_, rfl⟩
      have hll := HL.out i hi1
      rw [hm] at d1 s1 hll hin
      have HM := Lib.hid (And.intro hm (And.intro s1 hin))
      have r1 : (i : Int) < (n : Int) := by omega
      clear hm s1 hgr hin
      go_wp2
      go_loopw [5, 6] (fun lv tv wr2 => ∃ t : Nat, t ≤ 12 ∧ tv = .int .i64 (t : Int) ∧ ∃ la lc, lv = .slice la (m + t) lc ∧ GrowIn kVecs kVecsS mkVecs w wr2 B (.slice (some ⟨g, 0, none⟩) n co) S (.slice aout i cout) Sg i lv t) (fun _ tv _ => 12 - (intOf tv).toNat)
      case atStart => exact ⟨0, by omega, rfl, sa, sc, rfl, HM.out.2.2⟩
      case round =>
        obtain ⟨wr2, rfl⟩ : ∃ wr2, wr2 = wr := ⟨_, rfl⟩
        obtain ⟨t, ht, rfl, la, lc, rfl, hin2⟩ := hrel
        have HI := Lib.hid hin2
        clear hin2
        by_cases hlt2 : t < 12
        · have r2 : (t : Int) < 12 := by omega
          have mm := mark_Vecs i (m + t) 1 (by omega) (by omega) (by omega)
          go_wp2_with (first
            | (go_at_call 146; go_loud (refine (mm _).mono ?_); rintro e w3 ⟨am, cm, rfl, hom, hbm⟩; have HO := Lib.hid (And.intro hom hbm); clear hom hbm)
            | (at_builtin; have tok := HO; go_loud (refine wpl_app2 kVecs rfl _ _ rfl rfl rfl (l := marks mkVecs i 0 m ++ marks mkVecs i m t) (l2 := marks mkVecs i (m + t) 1) (by rw [marks_app]; have h9 := (HI.out.below HO.out.2).own; rw [HM.out.1] at h9; have e9 := marks_len mkVecs i 0 (m + t); exact h9) (src_own HO.out.1 (Below.refl _ _)) (by rw [List.length_append, marks_len, marks_len, marks_len]; omega) (Nat.le_trans hB (Nat.le_trans HI.out.gr.tn.size HO.out.2.size)) ?_); go_loud (rw [show (marks mkVecs i 0 m ++ marks mkVecs i m t).length + (marks mkVecs i (m + t) 1).length = m + (t + 1) from by rw [List.length_append, marks_len, marks_len, marks_len]; (try omega)]; intro a4 cap4 w4 hap; have hap2 : Appd kVecs w3 w4 B (.slice la (m + t) lc) (.slice a4 (m + (t + 1)) cap4) (marks mkVecs i 0 m ++ marks mkVecs i m t) (marks mkVecs i (m + t) 1) := hap; have hin3 := (HI.out.below HO.out.2).step HC.out.2.2 (m := 1) (by rw [HM.out.1]; exact hap2); have HI3 := Lib.hid hin3; clear hap hap2 hin3 HO)))
          go_roundw
          case rel => exact ⟨t + 1, by omega, by go_num, a4, cap4, rfl, HI3.out⟩
          case measure => simp [intOf]; omega
        · obtain rfl : t = 12 := by omega
          have mm := mark_Vecs i (m + 12) 60 (by omega) (by omega) (by omega)
          go_wp2_with (first
            | (go_at_call 146; go_loud (refine (mm _).mono ?_); rintro e w3 ⟨am, cm, rfl, hom, hbm⟩; have HO := Lib.hid (And.intro hom hbm); clear hom hbm)
            | (at_builtin; have tok := HO; go_loud (refine wpl_app2 kVecs rfl _ _ rfl rfl rfl (l := marks mkVecs i 0 m ++ marks mkVecs i m 12) (l2 := marks mkVecs i (m + 12) 60) (by rw [marks_app]; have h9 := (HI.out.below HO.out.2).own; rw [HM.out.1] at h9; have e9 := marks_len mkVecs i 0 (m + 12); exact h9) (src_own HO.out.1 (Below.refl _ _)) (by rw [List.length_append, marks_len, marks_len, marks_len]; omega) (Nat.le_trans hB (Nat.le_trans HI.out.gr.tn.size HO.out.2.size)) ?_); go_loud (rw [show (marks mkVecs i 0 m ++ marks mkVecs i m 12).length + (marks mkVecs i (m + 12) 60).length = m + (12 + 60) from by rw [List.length_append, marks_len, marks_len, marks_len]; (try omega)]; intro a4 cap4 w4 hap; have hap2 : Appd kVecs w3 w4 B (.slice la (m + 12) lc) (.slice a4 (m + (12 + 60)) cap4) (marks mkVecs i 0 m ++ marks mkVecs i m 12) (marks mkVecs i (m + 12) 60) := hap; have hin3 := (HI.out.below HO.out.2).step HC.out.2.2 (m := 60) (by rw [HM.out.1]; exact hap2); have HI3 := Lib.hid hin3; clear hap hap2 hin3 HO))
            | (at_builtin; have tok := HI3; have hb5 : Below w4.heap.size w4 (w4.alloc (.cells #[.slice a4 (m + 72) cap4] 50)) := (Below.refl _ _).alloc (Nat.le_refl _) _; have HI5 := Lib.hid (HI3.out.below hb5); go_loud (refine wpl_app2 kVecsS rfl _ _ rfl rfl rfl (l := Sg.map (·.1)) (l2 := [(⟨a4, m + 72, cap4⟩ : Sl)]) HI5.out.gr.g.outer (src_slv w4 ⟨a4, m + 72, cap4⟩ _) (by rw [List.length_map, HG.out.2]; simp; omega) (Nat.le_trans hB HI5.out.gr.tn.size) ?_); go_loud (rw [show (Sg.map (·.1)).length + [(⟨a4, m + 72, cap4⟩ : Sl)].length = i + 1 from by rw [List.length_map, HG.out.2]; rfl]; intro a6 cap6 w6 hap6; have hd := HI5.out.done (s := ⟨a4, m + 72, cap4⟩) hap6; have HD := Lib.hid hd; clear hap6 hd hb5 HI3)))
          go_roundw
          case rel => exact ⟨i + 1, by omega, by go_num, _, HD.out⟩
          case measure => simp [intOf]; omega
    · obtain rfl : i = n := by omega
      clear hgr
      go_wp2
      go_ret
      exact ⟨_, Sg, rfl, HG.out.1⟩

set_option maxRecDepth 100000 in
set_option maxHeartbeats 2000000 in
theorem marked_Vecs {w : World} {B : Nat} {vo : Value} {S : List (Sl × List Int)} (h : Lst kVecs kVecsS w B vo S) (hS : S.length ≤ 1000) (hl : ∀ i (hi : i < S.length), S[i].2.length ≤ 1000000) (hmk : Mkd mkVecs S) :
    Calls Tryz.prog 97 #[vo] w fun e w' => e = .returned (.bool true) ∧ Below w.heap.size w w' := by
  obtain ⟨ao, co, rfl⟩ := h.form
  obtain ⟨n, hn⟩ : ∃ n, n = S.length := ⟨_, rfl⟩
  rw [← hn] at h hS ⊢
  have HL := Lib.hid hl
  have HN := Lib.hid hn
  have HC := Lib.hid (And.intro h hmk)
  clear hn hl hmk h
  go_enter Tryz.func97, Tryz.ntmps97
  go_wp2
  go_loopw [3] (fun iv wr => ∃ i : Nat, i ≤ n ∧ iv = .int .i64 (i : Int) ∧ Below w.heap.size w wr) (fun iv _ => n - (intOf iv).toNat)
  case atStart => exact ⟨0, by omega, rfl, Below.refl _ _⟩
  case round =>
    obtain ⟨i, hi, rfl, hbel⟩ := hrel
    have HB := Lib.hid hbel
    have hlr := HC.out.1.below hbel
    clear hbel
    by_cases hlt : i < n
    · have hi1 : i < S.length := by have := HN.out; omega
      obtain ⟨g, sa, sc, rfl, d1, s1⟩ := hlr.at_ hi1
      have hll := HL.out i hi1
      have hown := hlr.each i hi1
      rw [HC.out.2 i hi1] at hown
      obtain ⟨m, hm⟩ : ∃ m, S[i].2.length = m := ⟨_, rfl⟩
      rw [s1] at hown
      rw [hm] at d1 s1 hll hown
      have HO := Lib.hid hown
      have r1 : (i : Int) < (n : Int) := by omega
      clear s1 hm hlr hown
      go_wp2
      have kd1 : wr.drew.cell? ⟨g, i, none⟩ = some (.slice sa m sc) := d1
      refine wp_region_K (fun w' => w'.cell? ⟨g, i, none⟩ = some (.slice sa m sc)) 12 13 (by kernel_rfl) (by kernel_rfl) kd1 (fun hH => ?_)
      refine wpAnyK_take (i := 0) [2, 3, 11, 12] (v := ?v22) rfl (by kernel_rfl) (by kernel_rfl) (by kernel_rfl) (by kernel_rfl) (fun _ _ _ h => h) (Or.inl ⟨by rfl, ?hy22⟩) hH ?rest22
      case hy22 => (intro w hSw; (try dsimp only at hSw); go_simp; with_reducible rfl)
      try simp only [Act.put, List.setIfInBounds_toArray, List.set_cons_zero, List.set_cons_succ]
      refine wpAnyK_take (i := 1) [2, 3, 11, 12] (v := ?v23) rfl (by kernel_rfl) (by kernel_rfl) (by kernel_rfl) (by kernel_rfl) (fun _ _ _ h => h) (Or.inl ⟨by rfl, ?hy23⟩) hH ?rest23
      case hy23 => (intro w hSw; (try dsimp only at hSw); go_simp; with_reducible rfl)
      try simp only [Act.put, List.setIfInBounds_toArray, List.set_cons_zero, List.set_cons_succ]
      refine wpAnyK_take (i := 2) [3, 11, 12] (v := ?v24) rfl (by kernel_rfl) (by kernel_rfl) (by kernel_rfl) (by kernel_rfl) (fun _ _ _ h => h) (Or.inl ⟨by rfl, ?hy24⟩) hH ?rest24
      case hy24 => (intro w hSw; (try dsimp only at hSw); go_simp; with_reducible rfl)
      try simp only [Act.put, List.setIfInBounds_toArray, List.set_cons_zero, List.set_cons_succ]
      refine wpAnyK_take (i := 3) [11, 12] (v := ?v25) rfl (by kernel_rfl) (by kernel_rfl) (by kernel_rfl) (by kernel_rfl) (fun _ _ _ h => h) (Or.inl ⟨by rfl, ?hy25⟩) hH ?rest25
      case hy25 => (intro w hSw; (try dsimp only at hSw); go_simp; with_reducible rfl)
      try simp only [Act.put, List.setIfInBounds_toArray, List.set_cons_zero, List.set_cons_succ]
      refine wpAnyK_take (i := 4) [10, 11, 12] (v := ?v26) rfl (by kernel_rfl) (by kernel_rfl) (by kernel_rfl) (by kernel_rfl) (fun _ _ _ h => h) (Or.inl ⟨by rfl, ?hy26⟩) hH ?rest26
      case hy26 => (intro w hSw; (try dsimp only at hSw); go_simp; with_reducible rfl)
      try simp only [Act.put, List.setIfInBounds_toArray, List.set_cons_zero, List.set_cons_succ]
      refine wpAnyK_take (i := 5) [7, 8, 9, 10, 11, 12] (v := ?v27) rfl (by kernel_rfl) (by kernel_rfl) (by kernel_rfl) (by kernel_rfl) (fun _ _ _ h => h) (Or.inl ⟨by rfl, ?hy27⟩) hH ?rest27
      case hy27 => (intro w hSw; (try dsimp only at hSw); go_simp; with_reducible rfl)
      try simp only [Act.put, List.setIfInBounds_toArray, List.set_cons_zero, List.set_cons_succ]
      refine wpAnyK_take (i := 6) [7, 8, 9, 10, 11, 12] (v := ?v28) rfl (by kernel_rfl) (by kernel_rfl) (by kernel_rfl) (by kernel_rfl) (fun _ _ _ h => h) (Or.inl ⟨by rfl, ?hy28⟩) hH ?rest28
      case hy28 => (intro w hSw; (try dsimp only at hSw); go_simp; with_reducible rfl)
      try simp only [Act.put, List.setIfInBounds_toArray, List.set_cons_zero, List.set_cons_succ]
      refine wpAnyK_take (i := 7) [8, 9, 10, 11, 12] (v := ?v29) rfl (by kernel_rfl) (by kernel_rfl) (by kernel_rfl) (by kernel_rfl) (fun _ _ _ h => h) (Or.inl ⟨by rfl, ?hy29⟩) hH ?rest29
      case hy29 => (intro w hSw; (try dsimp only at hSw); go_simp; with_reducible rfl)
      try simp only [Act.put, List.setIfInBounds_toArray, List.set_cons_zero, List.set_cons_succ]
      refine wpAnyK_take (i := 8) [9, 10, 11, 12] (v := ?v30) rfl (by kernel_rfl) (by kernel_rfl) (by kernel_rfl) (by kernel_rfl) (fun _ _ _ h => h) (Or.inl ⟨by rfl, ?hy30⟩) hH ?rest30
      case hy30 => (intro w hSw; (try dsimp only at hSw); go_simp; with_reducible rfl)
      try simp only [Act.put, List.setIfInBounds_toArray, List.set_cons_zero, List.set_cons_succ]
      refine wpAnyK_take (i := 9) [10, 11, 12] (v := ?v31) rfl (by kernel_rfl) (by kernel_rfl) (by kernel_rfl) (by kernel_rfl) (fun _ _ _ h => h) (Or.inl ⟨by rfl, ?hy31⟩) hH ?rest31
      case hy31 => (intro w hSw; (try dsimp only at hSw); go_simp; with_reducible rfl)
      try simp only [Act.put, List.setIfInBounds_toArray, List.set_cons_zero, List.set_cons_succ]
      refine wpAnyK_one (i := 10) (by kernel_rfl) rfl (fun K hK => ?_) (by kernel_rfl)
      go_simp
      go_at_call 146
      refine (mark_Vecs i 0 m (by omega) (by omega) (by omega) _).mono ?_
      rintro e w3 ⟨am, cm, rfl, hom, hbm⟩
      have kd2 := (hbm.cell (p := ⟨g, i, none⟩) (World.block_lt_of_cell? _ _ kd1)).trans kd1
      have H3 := Lib.hid (And.intro hom hbm)
      clear hom hbm
      refine hK.out _ _ kd2 (fun hH => ?_)
      clear hK K
      try simp only [Act.put, List.setIfInBounds_toArray, List.set_cons_zero, List.set_cons_succ]
      refine wpAnyK_one (i := 11) (by kernel_rfl) rfl (fun K hK => ?_) (by kernel_rfl)
      go_simp
      go_at_call 127
      have hr1 : RdVc w3 (.slice sa m sc) (marks mkVecs i 0 m) := rdVc_own (row_below (World.ownsRow.drew HO.out) H3.out.2)
      have hr2 : RdVc w3 (.slice am m cm) (marks mkVecs i 0 m) := rdVc_own H3.out.1
      have hml : (marks mkVecs i 0 m).length ≤ 1000000 := by rw [marks_len]; exact hll
      have H4 := Lib.hid (And.intro hr1 (And.intro hr2 hml))
      clear hr1 hr2 hml
      refine (same_Vecs H4.out.1 H4.out.2.1 H4.out.2.2).mono ?_
      rintro e w4 ⟨rfl, a4, rfl⟩
      refine hK.out _ _ kd2 (fun hH => ?_)
      clear hK K
      try simp only [Act.put, List.setIfInBounds_toArray, List.set_cons_zero, List.set_cons_succ]
      refine wpAnyK_last (by kernel_rfl) rfl (fun K hK => ?_) (by kernel_rfl)
      go_simp
      refine hK.out _ _ (wpAnyK_done (by kernel_rfl) ?_ _)
      clear hK K hH
      have HF := Lib.hid (below_drewN (HB.out.trans (((Below.refl _ _).drew.trans H3.out.2).mono HB.out.size)) a4)
      clear kd1 kd2
      go_wp2
      go_roundw
      case rel => exact ⟨i + 1, by omega, by go_num, HF.out⟩
      case measure => simp [intOf]; omega
    · obtain rfl : i = n := by omega
      clear hlr
      go_wp2
      go_ret
      exact ⟨rfl, HB.out⟩
end Go.Proofs.YtnegappgdpeabaaGreat
