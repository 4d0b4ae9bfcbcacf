/-
  A strings.Builder: a byte and a text behind what it holds.
-/
import Derived.Test.YtmdhegmnfcodbaaShelf
import Derived.Test.YtmdhegmnfcodbaaLsO
import Derived.Test.YtmdhegmnfcodbaaBase
import Derived.Lib.Builder
import Derived.Lib.AppendStr
import Derived.Laws.Externs
namespace Go.Proofs.Ytmdhegmnfcodbaa
open Go.RowKit

abbrev tB : TypeId := 83
abbrev tU : TypeId := 5
/-- A builder in block b that holds cells. -/
abbrev BldAt (B b : Nat) (l : List Value) (w : World) : Prop := Lib.IsBuilder tB tU B b l w
theorem info_bld : ∃ j, Try.prog.info? tB = some j ∧ j.size = 2 := by
  have h : (Try.prog.info? tB).map (·.size) = some 2 := by kernel_rfl
  exact Option.map_eq_some_iff.1 h
theorem lies_bld : liesAt Try.prog Try.prog.depth tB (2 / Try.prog.cellsOf tB) 0 tB 1 = true := by kernel_rfl

set_option maxHeartbeats 1000000 in
set_option maxRecDepth 100000 in
theorem check_used (b : Nat) (w : World) (h0 : w.cell? ⟨b, 0, none⟩ = some (.pointer (some ⟨b, 0, none⟩))) :
    Calls Try.prog 50 #[.pointer (some ⟨b, 0, none⟩)] w fun e w' => e = .returned (.tuple #[]) ∧ w' = w := by
  obtain ⟨j, hj, _⟩ := info_bld
  have hq := fun w => Lib.run_neq_ptr_same (P := Try.prog) (w := w) ⟨b, 0, none⟩ Try.underlying81 hj
  go_enter Try.func50, Try.ntmps50
  go_wp2
  go_end0
  exact ⟨rfl, rfl⟩
set_option maxHeartbeats 1000000 in
set_option maxRecDepth 100000 in
theorem check_fresh (b : Nat) (w : World) (h0 : w.cell? ⟨b, 0, none⟩ = some (.pointer none)) (hsh : w.shape? b = some (tB, 2)) (hfz : w.frozen? ⟨b, 0, none⟩ = false) :
    Calls Try.prog 50 #[.pointer (some ⟨b, 0, none⟩)] w fun e w' => e = .returned (.tuple #[]) ∧ w' = w.setCell ⟨b, 0, none⟩ (.pointer (some ⟨b, 0, none⟩)) := by
  obtain ⟨j, hj, hjs⟩ := info_bld
  have k1 := Lib.run_to_unsafe (P := Try.prog) (w := w) ⟨b, 0, none⟩ Try.underlying81 Try.underlying97 hj (by rw [hjs]; decide) hsh (Nat.zero_lt_succ 1)
  have k2 := Lib.run_from_unsafe (P := Try.prog) (w := w) ⟨b, 0, none⟩ Try.underlying97 Try.underlying81 hj hsh lies_bld
  have k3 : ∀ x, (callFunc 54 #[x]).run Try.prog w = .ok (.value x) w := fun x => by
    rw [run_callFunc_extern Try.func54 (by kernel_rfl) (by kernel_rfl) (by kernel_rfl) (e := Extern.AbiNoEscape.same) (by kernel_rfl), Lib.run_noEscape]
    rfl
  go_enter Try.func50, Try.ntmps50
  go_wp2
  go_end0
  exact ⟨rfl, rfl⟩
theorem check_any {B b : Nat} {bs : List Value} {w : World} (h : BldAt B b bs w) : Calls Try.prog 50 #[.pointer (some ⟨b, 0, none⟩)] w fun e w' =>
    e = .returned (.tuple #[]) ∧ Lib.BuilderAt tB tU B b (.pointer (some ⟨b, 0, none⟩)) bs w' ∧ Below B w w' := by
  rcases h with h | h
  · refine (check_fresh b w h.cell0 h.shape h.frozen0).mono ?_
    rintro e w' ⟨h1, h2⟩
    rw [h2]
    exact ⟨h1, h.used _, (Below.refl B w).setCell h.1 _⟩
  · refine (check_used b w h.cell0).mono ?_
    rintro e w' ⟨h1, h2⟩
    rw [h2]
    exact ⟨h1, h, Below.refl B _⟩
theorem bld_below {B b : Nat} {bs : List Value} {w w' : World} (h : BldAt B b bs w) (hb : Below w.heap.size w w') : BldAt B b bs w' := by
  have key : ∀ p, Lib.BuilderAt tB tU B b p bs w → Lib.BuilderAt tB tU B b p bs w' := fun p h => by
    have hlt := h.lt
    obtain ⟨h1, v, h2, h3, h4⟩ := h
    exact ⟨h1, v, (hb.block b hlt).trans h2, row_below h3 hb, h4⟩
  exact h.imp (key _) (key _)
theorem t_ne : tB ≠ tU := by decide

set_option maxHeartbeats 2000000 in
set_option maxRecDepth 100000 in
theorem bld_text {B b : Nat} {bs : List Value} {w : World} (h : BldAt B b bs w) (s : ByteArray) (hlen : bs.length + s.size ≤ 140737488355328) (hB : B ≤ w.heap.size) :
    Calls Try.prog 42 #[.pointer (some ⟨b, 0, none⟩), .string s] w fun e w' => e = .returned (.tuple #[.int .i64 s.size, .nilIface]) ∧ BldAt B b (bs ++ Lib.strCells s) w' ∧ Below B w w' := by
  obtain ⟨i0, hi, hz0, hz1, hz2⟩ := info_parts info_u8
  have hc := check_any h
  clear h
  go_enter Try.func42, Try.ntmps42
  go_wp2_with fail
  refine hc.mono ?_
  rintro e w1 ⟨rfl, ⟨hBb, v, hbk, hown, hne⟩, hb1⟩
  have c0 : w1.cell? ⟨b, 0, none⟩ = some (.pointer (some ⟨b, 0, none⟩)) := by rw [Lib.cell_of_heap hbk]; rfl
  have c1 : w1.cell? ⟨b, 1, none⟩ = some v := by rw [Lib.cell_of_heap hbk]; rfl
  have hlt : b < w1.heap.size := World.block_lt_of_cell? _ _ c0
  have hz := hb1.size
  have H := Lib.hid (And.intro hown (And.intro hne (And.intro hbk (And.intro hb1 hBb))))
  clear hown hne hbk hb1 hBb
  go_wp2_with (first
   | (at_builtin; go_loud (refine Lib.wpList_append_own_string _ rfl _ _ 80 9 rfl B tU i0 Try.underlying80 Try.underlying9 hi hz0 hz1 hz2 _ _ _ rfl H.out.1 s rfl (by unfold maxLen; omega) (by omega) (by omega) ?_); intro v' w2 hown2 hgrow _
      have hb2 : w2.heap[b]? = some (.cells #[.pointer (some ⟨b, 0, none⟩), v] tB (0, 0)) := (hgrow.block b hlt (fun e => H.out.2.1 e.symm)).trans H.out.2.2.1
      have d0 : w2.cell? ⟨b, 0, none⟩ = some (.pointer (some ⟨b, 0, none⟩)) := by rw [Lib.cell_of_heap hb2]; rfl
      have d1 : w2.cell? ⟨b, 1, none⟩ = some v := by rw [Lib.cell_of_heap hb2]; rfl
      have f1 : w2.frozen? ⟨b, 1, none⟩ = false := Lib.frozen_of_heap hb2 1
      obtain ⟨ao, n', cap, rfl⟩ : ∃ ao n' cap, v' = .slice ao n' cap := by
        obtain ⟨a, c, e, _⟩ := row_form hown2
        exact ⟨a, _, c, e⟩
      have H2 := Lib.hid (And.intro hown2 (And.intro hgrow hb2)); clear hown2 hgrow hb2))
  go_ret2
  exact ⟨rfl, .inr (Lib.BuilderAt.put (T := tB) (e := tU) H.out.2.2.2.2 H2.out.2.2 (bs' := bs ++ Lib.strCells s) (by simpa [Lib.strCells_length] using H2.out.1) t_ne), (H.out.2.2.2.1.grown H2.out.2.1 (by omega) (fun k hk => (H.out.1.lt k hk).1)).setCell (p := ⟨b, 1, none⟩) H.out.2.2.2.2 _⟩

set_option maxHeartbeats 2000000 in
set_option maxRecDepth 100000 in
theorem bld_byte {B b : Nat} {bs : List Value} {w : World} (h : BldAt B b bs w) (c : Int) (hlen : bs.length + 1 ≤ 140737488355328) (hB : B ≤ w.heap.size) :
    Calls Try.prog 41 #[.pointer (some ⟨b, 0, none⟩), .int .u8 c] w fun e w' => e = .returned .nilIface ∧ BldAt B b (bs ++ [.int .u8 c]) w' ∧ Below B w w' := by
  obtain ⟨i0, hi, hz0, hz1, hz2⟩ := info_parts info_u8
  have hc := check_any h
  clear h
  go_enter Try.func41, Try.ntmps41
  go_wp2_with fail
  refine hc.mono ?_
  rintro e w1 ⟨rfl, ⟨hBb, v, hbk, hown, hne⟩, hb1⟩
  have c0 : w1.cell? ⟨b, 0, none⟩ = some (.pointer (some ⟨b, 0, none⟩)) := by rw [Lib.cell_of_heap hbk]; rfl
  have c1 : w1.cell? ⟨b, 1, none⟩ = some v := by rw [Lib.cell_of_heap hbk]; rfl
  have hlt : b < w1.heap.size := World.block_lt_of_cell? _ _ c0
  have hz := hb1.size
  have H := Lib.hid (And.intro hown (And.intro hne (And.intro hbk (And.intro hb1 hBb))))
  clear hown hne hbk hb1 hBb
  go_wp2_with (first
   | (at_builtin; go_loud (refine wpList_append_own _ rfl _ _ 80 rfl B tU i0 (.int .u8 0) 1 1 Try.underlying80 hi hz0 hz1 hz2 rfl (by decide) _ _ _ rfl (H.out.1.alloc _) ⟨w1.heap.size, 0, none⟩ 1 1 [.int .u8 c] rfl rfl (by
      intro j u hj
      match j, hj with
      | 0, hj => simp at hj; subst hj; simp [Addr.add]) (by intro u hu; simp at hu; subst hu; rfl) (by unfold maxLen; omega) (by omega) (by simp; omega) ?_); intro v' w2 hown2 hgrow _
      have hb2 : w2.heap[b]? = some (.cells #[.pointer (some ⟨b, 0, none⟩), v] tB (0, 0)) := ((hgrow.block b (by simp; omega) (fun e => H.out.2.1 e.symm)).trans (Lib.alloc_old w1 _ b hlt)).trans H.out.2.2.1
      have d0 : w2.cell? ⟨b, 0, none⟩ = some (.pointer (some ⟨b, 0, none⟩)) := by rw [Lib.cell_of_heap hb2]; rfl
      have d1 : w2.cell? ⟨b, 1, none⟩ = some v := by rw [Lib.cell_of_heap hb2]; rfl
      have f1 : w2.frozen? ⟨b, 1, none⟩ = false := Lib.frozen_of_heap hb2 1
      obtain ⟨ao, n', cap, rfl⟩ : ∃ ao n' cap, v' = .slice ao n' cap := by
        obtain ⟨a, c, e, _⟩ := row_form hown2
        exact ⟨a, _, c, e⟩
      have H2 := Lib.hid (And.intro hown2 (And.intro hgrow hb2)); clear hown2 hgrow hb2))
  go_ret
  exact ⟨rfl, .inr (Lib.BuilderAt.put (T := tB) (e := tU) H.out.2.2.2.2 H2.out.2.2 (bs' := bs ++ [.int .u8 c]) (by simpa using H2.out.1) t_ne), ((H.out.2.2.2.1.alloc (by omega) _).grown H2.out.2.1 (by simp; omega) (fun k hk => (H.out.1.lt k hk).1)).setCell (p := ⟨b, 1, none⟩) H.out.2.2.2.2 _⟩
theorem bld_string {B b : Nat} {l : List UInt8} {w : World} (h : BldAt B b (Lib.byteCells l) w) (hB : B ≤ w.heap.size) :
    Calls Try.prog 43 #[.pointer (some ⟨b, 0, none⟩)] w fun e w' => e = .returned (.string ⟨l.toArray⟩) ∧ Below B w w' := Try.Builder_String_any B b l w h hB
end Go.Proofs.Ytmdhegmnfcodbaa
