/-
  Book: the kind Ints: same, mark, copy.
-/
import Derived.Test.YtnfpnmfgppamgaaGreatBk3
import Derived.Test.YtnfpnmfgppamgaaGreatShelf
import Derived.StillTailTactics
namespace Go.Proofs.YtnfpnmfgppamgaaGreat
open Go.RowKit

theorem kInts_info : (Tryz.prog.info? 3).map (fun i => (i.zero, i.size, i.bytes)) = some (some (.int .i64 0), 1, 8) := by kernel_rfl
theorem kIntsS_info : (Tryz.prog.info? 45).map (fun i => (i.zero, i.size, i.bytes)) = some (some (.slice none 0 0), 1, 24) := by kernel_rfl
theorem kInts : Elm Tryz.prog 45 3 1 8 (fun k : Int => [.int .i64 k]) where
  und := Tryz.underlying45
  info := by
    obtain ⟨i0, hi0, hz0, hs0, hy0⟩ := info_parts kInts_info
    exact ⟨i0, _, hi0, hz0, hs0, hy0, rfl⟩
  pos := by decide
  few := by decide
  len _ := rfl
  one := by
    intro x u hu
    rw [List.mem_singleton] at hu
    subst hu
    rfl
theorem kIntsS : Elm Tryz.prog 27 45 1 24 sCell where
  und := Tryz.underlying27
  info := by
    obtain ⟨i0, hi0, hz0, hs0, hy0⟩ := info_parts kIntsS_info
    exact ⟨i0, _, hi0, hz0, hs0, hy0, rfl⟩
  pos := by decide
  few := by decide
  len _ := rfl
  one := sCell_one

/-- Numbers that can be read. -/
def RdI (w : World) (x : Value) (l : List Int) : Prop := ∃ a c, x = .slice a l.length c ∧ (l = [] ∨ ∃ b off, a = some ⟨b, off, none⟩ ∧ b < w.heap.size ∧ ∀ i (hi : i < l.length), w.cell? ⟨b, off + i, none⟩ = some (.int .i64 l[i]))
theorem RdI.below {w w' : World} {x : Value} {l : List Int} (h : RdI w x l) (hb : Below w.heap.size w w') : RdI w' x l := by
  obtain ⟨a, c, hx, h⟩ := h
  refine ⟨a, c, hx, h.imp id ?_⟩
  rintro ⟨b, off, ha, hlt, hc⟩
  exact ⟨b, off, ha, Nat.lt_of_lt_of_le hlt hb.size, fun i hi => (hb.cell (p := ⟨b, off + i, none⟩) hlt).trans (hc i hi)⟩
theorem rdI_own {w : World} {B : Nat} {v : Value} {l : List Int} (h : Own kInts w B v l) : RdI w v l := by
  have h0 := h
  obtain ⟨h1, h2⟩ := h
  rcases h2 with ⟨rfl, h3⟩ | ⟨g, cap', cur, rfl, hg, hh, hn', hc, hcl, htk⟩
  · obtain rfl := List.eq_nil_of_length_eq_zero h3
    exact ⟨none, 0, rfl, .inl rfl⟩
  · refine ⟨_, cap', rfl, .inr ⟨g, 0, rfl, (Array.getElem?_eq_some_iff.1 hh).1, fun i hi => ?_⟩⟩
    have := h0.cellAt i (by omega)
    rw [Nat.zero_add, this]
    have h4 := kInts.get l i 0 hi (by omega)
    rw [Nat.mul_one, Nat.add_zero] at h4
    rw [h4]
    rfl

theorem RdI.drewN {w : World} {x : Value} {l : List Int} (h : RdI w x l) (n : Nat) : RdI (w.drewN n) x l := h
set_option maxHeartbeats 400000 in
theorem same_Ints {w : World} {x y : Value} {l : List Int} (hx : RdI w x l) (hy : RdI w y l) (hl : l.length ≤ 1000000) : Calls Tryz.prog 12 #[x, y] w fun e w' => e = .returned (.bool true) ∧ ∃ a, w' = w.drewN a := by
  obtain ⟨a1, c1, rfl, h1⟩ := hx
  obtain ⟨a2, c2, rfl, h2⟩ := hy
  obtain ⟨n, hn⟩ : ∃ n, n = l.length := ⟨_, rfl⟩
  rw [← hn] at hl ⊢
  have HN := Lib.hid hn
  have H := Lib.hid (And.intro h1 h2)
  clear hn h1 h2
  have t0 : ((n : Int) != (n : Int)) = false := by simp
  have t0b : (n != n) = false := by simp
  go_enter Tryz.func12, Tryz.ntmps12
  go_wp2
  go_loopw [5] (fun iv wr => ∃ i : Nat, i ≤ n ∧ iv = .int .i64 (i : Int) ∧ ∃ a, wr = w.drewN a) (fun iv _ => n - (intOf iv).toNat)
  case atStart => exact ⟨0, by omega, rfl, 0, rfl⟩
  case round =>
    obtain ⟨i, hi, rfl, a, rfl⟩ := hrel
    by_cases hlt : i < n
    · have hil : i < l.length := by have := HN.out; omega
      obtain ⟨b1, o1, rfl, l1, k1⟩ := H.out.1.resolve_left (fun e => by rw [e] at hil; simp at hil)
      obtain ⟨b2, o2, rfl, l2, k2⟩ := H.out.2.resolve_left (fun e => by rw [e] at hil; simp at hil)
      have d1 := k1 i hil
      have d2 := k2 i hil
      obtain ⟨u, hu⟩ : ∃ u, l[i] = u := ⟨_, rfl⟩
      rw [hu] at d1 d2
      have t1 : (u == u) = true := by simp
      have r1 : (i : Int) < (n : Int) := by omega
      clear k1 k2 hu
      go_wp2
      go_quiet (fail)
      go_wp2
      go_roundw
      case rel => exact ⟨i + 1, by omega, by go_num, _, rfl⟩
      case measure => simp [intOf]; omega
    · obtain rfl : i = n := by omega
      go_wp2
      go_ret
      exact ⟨rfl, _, rfl⟩

/-- The mark number k of the list number i. -/
def mkInts (i k : Nat) : Int := -1000000 * i - k - 7
set_option maxHeartbeats 400000 in
theorem mark_Ints (i from_ n : Nat) (hi : i ≤ 1000) (hf : from_ ≤ 10000000) (hn : n ≤ 10000000) (w : World) : Calls Tryz.prog 114 #[.int .i64 i, .int .i64 from_, .int .i64 n] w fun e w' =>
    ∃ a cap, e = .returned (.slice a n cap) ∧ Own kInts w' w.heap.size (.slice a n cap) (marks mkInts i from_ n) ∧ Below w.heap.size w w' := by
  go_enter Tryz.func114, Tryz.ntmps114
  go_wp2
  go_loopw [7, 8] (fun v y wr => ∃ j : Nat, j ≤ n ∧ y = .int .i64 ((from_ + j : Nat) : Int) ∧ Own kInts wr w.heap.size v (marks mkInts i from_ j) ∧ Below w.heap.size w wr) (fun _ y _ => from_ + n - (intOf y).toNat)
  case atStart => exact ⟨0, by omega, by simp, World.ownsRow_nil _ _ _ _, Below.refl _ _⟩
  case round =>
    obtain ⟨j, hj, rfl, hown, hbel⟩ := hrel
    obtain ⟨av, capv, rfl, _, _⟩ := row_form hown
    rw [marks_len] at hown ⊢
    have HO := Lib.hid hown
    have HB := Lib.hid hbel
    clear hown
    by_cases hlt : j < n
    · have hst := marks_succ mkInts i from_ j
      have HST := Lib.hid hst
      obtain ⟨W1, hW1⟩ : ∃ W1, wr.alloc (.cells #[.int .i64 (-1000000 * (i : Int) - ((from_ : Int) + (j : Int)) - 7)] 3) = W1 := ⟨_, rfl⟩
      have hsrc : Src kInts W1 (.slice (some ⟨wr.heap.size, 0, none⟩) 1 1) [mkInts i (from_ + j)] := by
        rw [← hW1]
        exact src_one wr (mkInts i (from_ + j)) _ _ (by unfold mkInts; simp) 1
      have ho1 : Own kInts W1 w.heap.size (.slice av j capv) (marks mkInts i from_ j) := by rw [← hW1]; exact World.ownsRow.alloc HO.out _
      have hb1 : Below w.heap.size w W1 := by rw [← hW1]; exact HB.out.alloc HB.out.size _
      have H1 := Lib.hid (And.intro ho1 (And.intro hb1 hsrc))
      have hml : (marks mkInts i from_ j).length = j := marks_len _ _ _ _
      have HML := Lib.hid hml
      clear hst hbel hsrc ho1 hb1 hml
      go_wp2_with (at_builtin; refine wpl_app kInts rfl _ _ rfl rfl rfl H1.out.1 H1.out.2.2 (by rw [HML.out]; simp; omega) H1.out.2.1.size ?_; rw [HML.out]; intro a3 cap3 w3 ho3 hb3 _ _; have H3 := Lib.hid (And.intro ho3 (H1.out.2.1.trans hb3)); clear ho3 hb3)
      go_roundw
      case rel => exact ⟨j + 1, by omega, by go_num, by rw [HST.out]; exact H3.out.1, H3.out.2⟩
      case measure => simp [intOf]; omega
    · obtain rfl : j = n := by omega
      clear hbel
      go_wp2
      go_ret
      exact ⟨av, capv, rfl, HO.out, HB.out⟩

theorem copy_Ints {w : World} {x : Value} {l : List Int} (hx : Src kInts w x l) (hl : l.length ≤ 1000000) : Calls Tryz.prog 31 #[x] w fun e w' => ∃ s : Sl, e = .returned s.val ∧ Own kInts w' w.heap.size s.val l ∧ Below w.heap.size w w' := by
  go_enter Tryz.func31, Tryz.ntmps31
  go_wp2_with (at_builtin; refine wpl_app kInts (l := []) rfl _ _ rfl rfl rfl (World.ownsRow_nil _ w.heap.size _ _) hx (by simp; omega) (Nat.le_refl _) ?_; intro a3 cap3 w3 ho3 hb3 _ _; have H3 := Lib.hid (And.intro ho3 hb3); clear ho3 hb3)
  go_ret
  have h1 := H3.out.1
  rw [List.nil_append, show ([] : List Int).length + l.length = l.length by simp] at h1
  exact ⟨⟨a3, l.length, cap3⟩, rfl, h1, H3.out.2⟩
end Go.Proofs.YtnfpnmfgppamgaaGreat
