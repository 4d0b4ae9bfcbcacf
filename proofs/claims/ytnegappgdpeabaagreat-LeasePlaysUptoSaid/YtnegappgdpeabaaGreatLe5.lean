import Derived.Test.YtnegappgdpeabaaGreatShelf
import Derived.Test.YtnegappgdpeabaaGreatLe4
import Derived.Test.YtnegappgdpeabaaGreatBase
import Derived.Lib.Builder
import Derived.Lib.AppendStr
import Derived.Laws.Externs
import Derived.Test.YtnegappgdpeabaaGreatRawK
import Derived.Test.YtnegappgdpeabaaGreatRkL
set_option linter.unusedSimpArgs false
set_option linter.unusedVariables false
/-
  A strings.Builder: a byte and a text behind what it holds.
-/
namespace Go.Proofs.YtnegappgdpeabaaGreat
open Go.RowKit

abbrev tB : TypeId := 136
abbrev tU : TypeId := 5
/-- A builder in block b that holds cells. -/
abbrev BldAt (B b : Nat) (l : List Value) (w : World) : Prop := Lib.IsBuilder tB tU B b l w
theorem info_bld : ∃ j, Tryz.prog.info? tB = some j ∧ j.size = 2 := by
  have h : (Tryz.prog.info? tB).map (·.size) = some 2 := by kernel_rfl
  exact Option.map_eq_some_iff.1 h
theorem lies_bld : liesAt Tryz.prog Tryz.prog.depth tB (2 / Tryz.prog.cellsOf tB) 0 tB 1 = true := by kernel_rfl

set_option maxHeartbeats 1000000 in
set_option maxRecDepth 100000 in
theorem check_used (b : Nat) (w : World) (h0 : w.cell? ⟨b, 0, none⟩ = some (.pointer (some ⟨b, 0, none⟩))) :
    Calls Tryz.prog 162 #[.pointer (some ⟨b, 0, none⟩)] w fun e w' => e = .returned (.tuple #[]) ∧ w' = w := by
  obtain ⟨j, hj, _⟩ := info_bld
  have hq := fun w => Lib.run_neq_ptr_same (P := Tryz.prog) (w := w) ⟨b, 0, none⟩ Tryz.underlying134 hj
  go_enter Tryz.func162, Tryz.ntmps162
  go_wp2
  go_end0
  exact ⟨rfl, rfl⟩
set_option maxHeartbeats 1000000 in
set_option maxRecDepth 100000 in
theorem check_fresh (b : Nat) (w : World) (h0 : w.cell? ⟨b, 0, none⟩ = some (.pointer none)) (hsh : w.shape? b = some (tB, 2)) (hfz : w.frozen? ⟨b, 0, none⟩ = false) :
    Calls Tryz.prog 162 #[.pointer (some ⟨b, 0, none⟩)] w fun e w' => e = .returned (.tuple #[]) ∧ w' = w.setCell ⟨b, 0, none⟩ (.pointer (some ⟨b, 0, none⟩)) := by
  obtain ⟨j, hj, hjs⟩ := info_bld
  have k1 := Lib.run_to_unsafe (P := Tryz.prog) (w := w) ⟨b, 0, none⟩ Tryz.underlying134 Tryz.underlying218 hj (by rw [hjs]; decide) hsh (Nat.zero_lt_succ 1)
  have k2 := Lib.run_from_unsafe (P := Tryz.prog) (w := w) ⟨b, 0, none⟩ Tryz.underlying218 Tryz.underlying134 hj hsh lies_bld
  have k3 : ∀ x, (callFunc 174 #[x]).run Tryz.prog w = .ok (.value x) w := fun x => by
    rw [run_callFunc_extern Tryz.func174 (by kernel_rfl) (by kernel_rfl) (by kernel_rfl) (e := Extern.AbiNoEscape.same) (by kernel_rfl), Lib.run_noEscape]
    rfl
  go_enter Tryz.func162, Tryz.ntmps162
  go_wp2
  go_end0
  exact ⟨rfl, rfl⟩
theorem check_any {B b : Nat} {bs : List Value} {w : World} (h : BldAt B b bs w) : Calls Tryz.prog 162 #[.pointer (some ⟨b, 0, none⟩)] w fun e w' =>
    e = .returned (.tuple #[]) ∧ Lib.BuilderAt tB tU B b (.pointer (some ⟨b, 0, none⟩)) bs w' ∧ Below B w w' := by
  rcases h with h | h
  · refine (check_fresh b w h.cell0 h.shape h.frozen0).mono ?_
    rintro e w' ⟨h1, h2⟩
    rw [h2]
    exact ⟨h1, h.used _, (Below.refl B w).setCell h.1 _⟩
  · refine (check_used b w h.cell0).mono ?_
    rintro e w' ⟨h1, h2⟩
    rw [h2]
    exact ⟨h1, h, Below.refl B _⟩
theorem bld_below {B b : Nat} {bs : List Value} {w w' : World} (h : BldAt B b bs w) (hb : Below w.heap.size w w') : BldAt B b bs w' := by
  have key : ∀ p, Lib.BuilderAt tB tU B b p bs w → Lib.BuilderAt tB tU B b p bs w' := fun p h => by
    have hlt := h.lt
    obtain ⟨h1, v, h2, h3, h4⟩ := h
    exact ⟨h1, v, (hb.block b hlt).trans h2, row_below h3 hb, h4⟩
  exact h.imp (key _) (key _)
theorem t_ne : tB ≠ tU := by decide

set_option maxHeartbeats 2000000 in
set_option maxRecDepth 100000 in
theorem bld_text {B b : Nat} {bs : List Value} {w : World} (h : BldAt B b bs w) (s : ByteArray) (hlen : bs.length + s.size ≤ 140737488355328) (hB : B ≤ w.heap.size) :
    Calls Tryz.prog 122 #[.pointer (some ⟨b, 0, none⟩), .string s] w fun e w' => e = .returned (.tuple #[.int .i64 s.size, .nilIface]) ∧ BldAt B b (bs ++ Lib.strCells s) w' ∧ Below B w w' := by
  obtain ⟨i0, hi, hz0, hz1, hz2⟩ := info_parts info_u8
  have hc := check_any h
  clear h
  go_enter Tryz.func122, Tryz.ntmps122
  go_wp2_with fail
  refine hc.mono ?_
  rintro e w1 ⟨rfl, ⟨hBb, v, hbk, hown, hne⟩, hb1⟩
  have c0 : w1.cell? ⟨b, 0, none⟩ = some (.pointer (some ⟨b, 0, none⟩)) := by rw [Lib.cell_of_heap hbk]; rfl
  have c1 : w1.cell? ⟨b, 1, none⟩ = some v := by rw [Lib.cell_of_heap hbk]; rfl
  have hlt : b < w1.heap.size := World.block_lt_of_cell? _ _ c0
  have hz := hb1.size
  have H := Lib.hid (And.intro hown (And.intro hne (And.intro hbk (And.intro hb1 hBb))))
  clear hown hne hbk hb1 hBb
  go_wp2_with (first
   | (at_builtin; go_loud (refine Lib.wpList_append_own_string _ rfl _ _ 133 9 rfl B tU i0 Tryz.underlying133 Tryz.underlying9 hi hz0 hz1 hz2 _ _ _ rfl H.out.1 s rfl (by unfold maxLen; omega) (by omega) (by omega) ?_); intro v' w2 hown2 hgrow _
      have hb2 : w2.heap[b]? = some (.cells #[.pointer (some ⟨b, 0, none⟩), v] tB (0, 0)) := (hgrow.block b hlt (fun e => H.out.2.1 e.symm)).trans H.out.2.2.1
      have d0 : w2.cell? ⟨b, 0, none⟩ = some (.pointer (some ⟨b, 0, none⟩)) := by rw [Lib.cell_of_heap hb2]; rfl
      have d1 : w2.cell? ⟨b, 1, none⟩ = some v := by rw [Lib.cell_of_heap hb2]; rfl
      have f1 : w2.frozen? ⟨b, 1, none⟩ = false := Lib.frozen_of_heap hb2 1
      obtain ⟨ao, n', cap, rfl⟩ : ∃ ao n' cap, v' = .slice ao n' cap := by
        obtain ⟨a, c, e, _⟩ := row_form hown2
        exact ⟨a, _, c, e⟩
      have H2 := Lib.hid (And.intro hown2 (And.intro hgrow hb2)); clear hown2 hgrow hb2))
  go_ret2
  exact ⟨rfl, .inr (Lib.BuilderAt.put (T := tB) (e := tU) H.out.2.2.2.2 H2.out.2.2 (bs' := bs ++ Lib.strCells s) (by simpa [Lib.strCells_length] using H2.out.1) t_ne), (H.out.2.2.2.1.grown H2.out.2.1 (by omega) (fun k hk => (H.out.1.lt k hk).1)).setCell (p := ⟨b, 1, none⟩) H.out.2.2.2.2 _⟩

set_option maxHeartbeats 2000000 in
set_option maxRecDepth 100000 in
theorem bld_byte {B b : Nat} {bs : List Value} {w : World} (h : BldAt B b bs w) (c : Int) (hlen : bs.length + 1 ≤ 140737488355328) (hB : B ≤ w.heap.size) :
    Calls Tryz.prog 121 #[.pointer (some ⟨b, 0, none⟩), .int .u8 c] w fun e w' => e = .returned .nilIface ∧ BldAt B b (bs ++ [.int .u8 c]) w' ∧ Below B w w' := by
  obtain ⟨i0, hi, hz0, hz1, hz2⟩ := info_parts info_u8
  have hc := check_any h
  clear h
  go_enter Tryz.func121, Tryz.ntmps121
  go_wp2_with fail
  refine hc.mono ?_
  rintro e w1 ⟨rfl, ⟨hBb, v, hbk, hown, hne⟩, hb1⟩
  have c0 : w1.cell? ⟨b, 0, none⟩ = some (.pointer (some ⟨b, 0, none⟩)) := by rw [Lib.cell_of_heap hbk]; rfl
  have c1 : w1.cell? ⟨b, 1, none⟩ = some v := by rw [Lib.cell_of_heap hbk]; rfl
  have hlt : b < w1.heap.size := World.block_lt_of_cell? _ _ c0
  have hz := hb1.size
  have H := Lib.hid (And.intro hown (And.intro hne (And.intro hbk (And.intro hb1 hBb))))
  clear hown hne hbk hb1 hBb
  go_wp2_with (first
   | (at_builtin; go_loud (refine wpList_append_own _ rfl _ _ 133 rfl B tU i0 (.int .u8 0) 1 1 Tryz.underlying133 hi hz0 hz1 hz2 rfl (by decide) _ _ _ rfl (H.out.1.alloc _) ⟨w1.heap.size, 0, none⟩ 1 1 [.int .u8 c] rfl rfl (by
      intro j u hj
      match j, hj with
      | 0, hj => simp at hj; subst hj; simp [Addr.add]) (by intro u hu; simp at hu; subst hu; rfl) (by unfold maxLen; omega) (by omega) (by simp; omega) ?_); intro v' w2 hown2 hgrow _
      have hb2 : w2.heap[b]? = some (.cells #[.pointer (some ⟨b, 0, none⟩), v] tB (0, 0)) := ((hgrow.block b (by simp; omega) (fun e => H.out.2.1 e.symm)).trans (Lib.alloc_old w1 _ b hlt)).trans H.out.2.2.1
      have d0 : w2.cell? ⟨b, 0, none⟩ = some (.pointer (some ⟨b, 0, none⟩)) := by rw [Lib.cell_of_heap hb2]; rfl
      have d1 : w2.cell? ⟨b, 1, none⟩ = some v := by rw [Lib.cell_of_heap hb2]; rfl
      have f1 : w2.frozen? ⟨b, 1, none⟩ = false := Lib.frozen_of_heap hb2 1
      obtain ⟨ao, n', cap, rfl⟩ : ∃ ao n' cap, v' = .slice ao n' cap := by
        obtain ⟨a, c, e, _⟩ := row_form hown2
        exact ⟨a, _, c, e⟩
      have H2 := Lib.hid (And.intro hown2 (And.intro hgrow hb2)); clear hown2 hgrow hb2))
  go_ret
  exact ⟨rfl, .inr (Lib.BuilderAt.put (T := tB) (e := tU) H.out.2.2.2.2 H2.out.2.2 (bs' := bs ++ [.int .u8 c]) (by simpa using H2.out.1) t_ne), ((H.out.2.2.2.1.alloc (by omega) _).grown H2.out.2.1 (by simp; omega) (fun k hk => (H.out.1.lt k hk).1)).setCell (p := ⟨b, 1, none⟩) H.out.2.2.2.2 _⟩
theorem bld_string {B b : Nat} {l : List UInt8} {w : World} (h : BldAt B b (Lib.byteCells l) w) (hB : B ≤ w.heap.size) :
    Calls Tryz.prog 123 #[.pointer (some ⟨b, 0, none⟩)] w fun e w' => e = .returned (.string ⟨l.toArray⟩) ∧ Below B w w' := Tryz.Builder_String_any B b l w h hB
end Go.Proofs.YtnegappgdpeabaaGreat
/-
  Lease: a vector's bytes, all leases' bytes.
-/
namespace Go.Proofs.YtnegappgdpeabaaGreat
open Go.RowKit
variable {w w' w0 w1 w2 w3 w4 : World} {mb lb B : Nat} {ob : Option Nat} {m : Lm} {last now : Int}

def enc6 (t : Int) : List UInt8 := Rw.beF 6 t.toNat
def enc7 (t : Int) : List UInt8 := Rw.beF 7 t.toNat
def encV (vs : List Int) : List UInt8 := UInt8.ofNat vs.length :: vs.flatMap enc6
def encL (c : Int × List Int × Int) : List UInt8 := enc7 c.1 ++ enc7 c.2.2 ++ encV c.2.1
def putS (last : Int) (l : List (Int × List Int × Int)) : List UInt8 := enc7 last ++ l.flatMap encL
theorem str_cells (l : List UInt8) : Lib.strCells ⟨l.toArray⟩ = Lib.byteCells l := by unfold Lib.strCells Lib.byteCells; simp
theorem byte_app (a b : List UInt8) : Lib.byteCells (a ++ b) = Lib.byteCells a ++ Lib.byteCells b := by unfold Lib.byteCells; simp
theorem enc6_len (t : Int) : (enc6 t).length = 6 := Rw.beF_len _ _
theorem enc7_len (t : Int) : (enc7 t).length = 7 := Rw.beF_len _ _
theorem flat6_len (vs : List Int) : (vs.flatMap enc6).length = 6 * vs.length := by
  induction vs with
  | nil => rfl
  | cons t vs ih => rw [List.flatMap_cons, List.length_append, enc6_len, ih, List.length_cons]; omega
theorem put7_any (n : Int) (h0 : 0 ≤ n) (h1 : n < 72057594037927936) (w : World) : Calls Tryz.prog 45 #[.int .i64 n, .int .i64 7] w fun e w' => e = .returned (.tuple #[.string ⟨(enc7 n).toArray⟩, .int .i64 0]) ∧ Below w.heap.size w w' := by
  obtain ⟨k, rfl⟩ := Int.eq_ofNat_of_zero_le h0
  exact put_ok k 7 w (by omega) (by omega) (by omega)
theorem put6_any (n : Int) (h0 : 0 ≤ n) (h1 : n < 281474976710656) (w : World) : Calls Tryz.prog 45 #[.int .i64 n, .int .i64 6] w fun e w' => e = .returned (.tuple #[.string ⟨(enc6 n).toArray⟩, .int .i64 0]) ∧ Below w.heap.size w w' := by
  obtain ⟨k, rfl⟩ := Int.eq_ofNat_of_zero_le h0
  exact put_ok k 6 w (by omega) (by omega) (by omega)

set_option maxRecDepth 100000 in
set_option maxHeartbeats 1000000 in
theorem putvec_any {x : Value} {vs : List Int} (h : RdI w x vs) (hv : validB vs = true) : Calls Tryz.prog 46 #[x] w fun e w' => e = .returned (.tuple #[.string ⟨(encV vs).toArray⟩, .int .i64 0]) ∧ Below w.heap.size w w' := by
  have hV := valid_any h
  rw [hv] at hV
  obtain ⟨a, c, rfl, hc⟩ := h
  obtain ⟨n, hn⟩ : ∃ n, vs.length = n := ⟨_, rfl⟩
  have hn8 : 1 ≤ n ∧ n ≤ 8 := by
    simp only [validB, Bool.and_eq_true, decide_eq_true_eq] at hv
    omega
  have hok : ∀ t ∈ vs, 0 ≤ t ∧ t < 281474976710656 := fun t ht => by
    simp only [validB, Bool.and_eq_true] at hv
    have := List.all_eq_true.1 hv.2 t ht
    simpa [okT] using this
  rw [hn] at hV ⊢
  obtain ⟨W1, hW1⟩ : ∃ W1, w.alloc (.cells #[.pointer none, .slice none 0 0] 136) = W1 := ⟨_, rfl⟩
  have hB1 : BldAt w.heap.size w.heap.size [] W1 := by rw [← hW1]; exact Lib.fresh_isBuilder _ _ w
  have hb1 : Below w.heap.size w W1 := by rw [← hW1]; exact (Below.refl _ _).alloc (Nat.le_refl _) _
  have hc8 : (n : Int) % 256 = (n : Int) := by omega
  have H := Lib.hid (And.intro hc (And.intro hn (And.intro hok (And.intro hB1 (And.intro hb1 hn8)))))
  have hn1 : n ≤ 8 := hn8.2
  clear hc hn hok hv hB1 hb1 hn8
  go_enter Tryz.func46, Tryz.ntmps46
  go_wp2_with (first
    | (go_at_call 121; go_loud (refine (bld_byte H.out.2.2.2.1 _ (by simp) H.out.2.2.2.2.1.size).mono ?_); rintro e w2 ⟨rfl, hB2, hb2⟩; have H2 := Lib.hid (And.intro hB2 (H.out.2.2.2.2.1.trans hb2)); clear hB2 hb2)
    | (go_at_call 27; refine hV.mono ?_; rintro e v1 ⟨rfl, rfl⟩))
  clear hV
  go_loopw [6, 7, 8, 18] (fun _ _ _ iv wr => ∃ i : Nat, i ≤ n ∧ iv = .int .i64 (i : Int) ∧ BldAt w.heap.size w.heap.size (Lib.byteCells (UInt8.ofNat n :: (vs.take i).flatMap enc6)) wr ∧ Below w.heap.size w wr) (fun _ _ _ iv _ => n - (intOf iv).toNat)
  case atStart =>
    refine ⟨0, by omega, rfl, ?_, H2.out.2⟩
    have h5 := H2.out.1
    have e : ([] ++ [Value.int .u8 ((n : Int))] : List Value) = Lib.byteCells [UInt8.ofNat n] := by
      have : ((UInt8.ofNat n).toNat : Int) = (n : Int) := by simp; omega
      show [Value.int .u8 (n : Int)] = [Value.int .u8 ((UInt8.ofNat n).toNat : Int)]
      rw [this]
    rw [e] at h5
    exact h5
  case round =>
    obtain ⟨i, hi, rfl, hbd, hb⟩ := hrel
    have HB := Lib.hid (And.intro hbd hb)
    clear hbd
    by_cases hlt : i < n
    · have hil : i < vs.length := by have := H.out.2.1; omega
      obtain ⟨b, off, rfl, hbl, hcc⟩ := H.out.1.resolve_left (fun e => by rw [e] at hil; simp at hil)
      obtain ⟨t, ht⟩ : ∃ t, vs[i] = t := ⟨_, rfl⟩
      have d := (hb.cell (p := ⟨b, off + i, none⟩) hbl).trans (hcc i hil)
      rw [ht] at d
      have hto := H.out.2.2.1 t (by rw [← ht]; exact List.getElem_mem hil)
      have htk : (vs.take (i + 1)).flatMap enc6 = (vs.take i).flatMap enc6 ++ enc6 t := by rw [List.take_succ_eq_append_getElem hil, List.flatMap_append, ht]; simp
      have hlen : (UInt8.ofNat n :: (vs.take i).flatMap enc6).length ≤ 100 := by rw [List.length_cons, flat6_len, List.length_take]; omega
      have hP := put6_any t hto.1 hto.2
      have r1 : (i : Int) < (n : Int) := by omega
      have HX := Lib.hid (And.intro htk (And.intro hlen hP))
      clear hcc ht htk hto hlen hP hb
      go_wp2_with (first
        | (go_at_call 122; go_loud (refine (bld_text H3.out.1 _ (by rw [Lib.byteCells_length]; have := HX.out.2.1; have h6 : (⟨(enc6 t).toArray⟩ : ByteArray).size = 6 := enc6_len t; omega) H3.out.2.size).mono ?_); rintro e w4 ⟨rfl, hB4, hb4⟩; have H4 := Lib.hid (And.intro hB4 (H3.out.2.trans hb4)); clear hB4 hb4)
        | (go_at_call 45; refine (HX.out.2.2 _).mono ?_; rintro e w3 ⟨rfl, hb3⟩
           have hB3 : BldAt w.heap.size w.heap.size (Lib.byteCells (UInt8.ofNat n :: (vs.take i).flatMap enc6)) w3 := bld_below HB.out.1 hb3
           have H3 := Lib.hid (And.intro hB3 (HB.out.2.trans (hb3.mono HB.out.2.size))); clear hb3 hB3))
      go_roundw
      case rel =>
        refine ⟨i + 1, by omega, by go_num, ?_, H4.out.2⟩
        have h5 := H4.out.1
        rw [str_cells, ← byte_app] at h5
        rw [HX.out.1]
        exact h5
      case measure => simp [intOf]; omega
    · obtain rfl : i = n := by omega
      clear hb
      go_wp2_with (go_at_call 123; go_loud (refine (bld_string HB.out.1 HB.out.2.size).mono ?_); rintro e w4 ⟨rfl, hb4⟩; have H4 := Lib.hid (HB.out.2.trans hb4); clear hb4)
      go_ret2
      refine ⟨?_, H4.out⟩
      rw [List.take_of_length_le (by have := H.out.2.1; omega)]
      unfold encV
      rw [H.out.2.1]
      rfl

theorem num_any (n : Int) (h0 : 0 ≤ n) (h1 : n < 72057594037927936) (w : World) : Calls Tryz.prog 44 #[.int .i64 n] w fun e w' => e = .returned (.string ⟨(enc7 n).toArray⟩) ∧ Below w.heap.size w w' := by
  have hP := put7_any n h0 h1
  clear h0 h1
  go_enter Tryz.func44, Tryz.ntmps44
  go_wp2_with fail
  refine (hP _).mono ?_
  rintro e w1 ⟨rfl, hb⟩
  go_wp2
  go_ret
  exact ⟨rfl, hb⟩
theorem encV_len {vs : List Int} (h : validB vs = true) : (encV vs).length ≤ 49 := by
  simp only [validB, Bool.and_eq_true, decide_eq_true_eq] at h
  unfold encV
  rw [List.length_cons, flat6_len]
  omega
theorem encL_len {c : Int × List Int × Int} (h : validB c.2.1 = true) : (encL c).length ≤ 63 := by
  have := encV_len h
  unfold encL
  rw [List.length_append, List.length_append, enc7_len, enc7_len]
  omega
theorem str_add (a b : List UInt8) : ((⟨a.toArray⟩ : ByteArray) ++ (⟨b.toArray⟩ : ByteArray)) = ⟨(a ++ b).toArray⟩ := by
  apply ByteArray.ext
  simp
theorem putS_take (last : Int) (l : List (Int × List Int × Int)) (i : Nat) (hi : i < l.length) : putS last (l.take (i + 1)) = putS last (l.take i) ++ encL l[i] := by
  unfold putS
  rw [List.take_succ_eq_append_getElem hi, List.flatMap_append, List.append_assoc]
  simp

theorem putS_len (last : Int) : ∀ (l : List (Int × List Int × Int)), (∀ c ∈ l, validB c.2.1 = true) → (putS last l).length ≤ 7 + 63 * l.length := by
  intro l h
  have key : (l.flatMap encL).length ≤ 63 * l.length := by
    induction l with
    | nil => simp
    | cons c l ih =>
      have h1 := encL_len (h c List.mem_cons_self)
      have h2 := ih (fun d hd => h d (List.mem_cons_of_mem _ hd))
      rw [List.flatMap_cons, List.length_append, List.length_cons]
      omega
  unfold putS
  rw [List.length_append, enc7_len]
  omega
theorem size_arr (l : List UInt8) : (⟨l.toArray⟩ : ByteArray).size = l.length := by simp [ByteArray.size]

set_option maxRecDepth 100000 in
set_option maxHeartbeats 2000000 in
theorem put_any2 (h : LsAt w lb ob m last) (hl : last < 72057594037927936) (ht : ∀ p ∈ m, 0 ≤ p.2.till ∧ p.2.till < 72057594037927936) : Calls Tryz.prog 22 #[.pointer (some ⟨lb, 0, none⟩)] w fun e w' =>
    e = .returned (.string ⟨(putS last ((sortM m).map core)).toArray⟩) ∧ Below w.heap.size w w' := by
  have c0 := h.c0
  have c1 := h.c1
  have hl0 : 0 ≤ last := h.ok.last.1
  have hw0 := h.ltd
  have hsort : ∀ c ∈ (sortM m).map core, (0 ≤ c.1 ∧ c.1 < 72057594037927936) ∧ (0 ≤ c.2.2 ∧ c.2.2 < 72057594037927936) ∧ validB c.2.1 = true := fun c hc => by
    obtain ⟨x, hx, rfl⟩ := List.mem_map.1 hc
    obtain ⟨p, hp, rfl⟩ := (sortM_mem h.nodup).1 hx
    have h1 := h.ok.key p hp
    have h2 := h.ok.id p hp
    have h3 := ht p hp
    exact ⟨⟨by show 0 ≤ p.2.id; omega, by show p.2.id < _; omega⟩, h3, h.ok.vec p hp⟩
  obtain ⟨n, hn⟩ : ∃ n, m.length = n := ⟨_, rfl⟩
  have hn16 : n ≤ 16 := by have := h.ok.few; omega
  have HL := Lib.hid (And.intro hsort (And.intro hn h))
  clear h ht hsort hn
  go_enter Tryz.func22, Tryz.ntmps22
  go_wp2_with (first
    | (go_at_call 39
       have hLL := list_any (HL.out.2.2.below H1.out)
       rw [HL.out.2.1] at hLL
       go_loud (refine hLL.mono ?_); rintro e w2 ⟨la, lc, L, rfl, hLc, hLl, hLo, hb2⟩; have H2 := Lib.hid (And.intro hLc (And.intro hLl (And.intro hLo (H1.out.trans (hb2.mono H1.out.size))))); clear hLc hLl hLo hb2 hLL)
    | (go_at_call 44; go_loud (refine (num_any last hl0 hl _).mono ?_); rintro e w1 ⟨rfl, hb1⟩
       have d0 := (hb1.cell (p := ⟨lb, 0, none⟩) hw0).trans c0
       have H1 := Lib.hid hb1; clear hb1))
  go_loopw [4, 6, 7, 8, 20] (fun ov _ _ _ iv wr => ∃ (i : Nat) (o : ByteArray), i ≤ n ∧ iv = .int .i64 (i : Int) ∧ ov = .string o ∧ o = ⟨(putS last ((L.map core).take i)).toArray⟩ ∧ Below w2.heap.size w2 wr) (fun _ _ _ _ iv _ => n - (intOf iv).toNat)
  case atStart => exact ⟨0, _, by omega, rfl, rfl, by simp [putS], Below.refl _ _⟩
  case round =>
    obtain ⟨i, o, hi, rfl, rfl, ho, hb⟩ := hrel
    have hLw := H2.out.2.2.1.below hb
    have HB := Lib.hid (And.intro ho hb)
    by_cases hlt : i < n
    · have hil : i < L.length := by rw [H2.out.2.1]; exact hlt
      have hcm : core L[i] ∈ (sortM m).map core := by rw [← H2.out.1]; exact List.mem_map.2 ⟨_, List.getElem_mem hil, rfl⟩
      have hok := HL.out.1 _ hcm
      have hstep := putS_take last (L.map core) i (by rw [List.length_map]; exact hil)
      rw [List.getElem_map] at hstep
      have hxo := (hLw.2 L[i] (List.getElem_mem hil)).1
      obtain ⟨g, rfl, hg, d0, d1, d2⟩ := hLw.get hil
      obtain ⟨x, hx⟩ : ∃ x, L[i] = x := ⟨_, rfl⟩
      rw [hx] at d0 d1 d2 hxo hok hstep
      obtain ⟨xi, xa, xc, xv, xt⟩ := x
      obtain ⟨nv, hnv⟩ : ∃ nv, xv.length = nv := ⟨_, rfl⟩
      have d1' : wr.cell? ⟨g, i * 3 + 1, none⟩ = some (.slice xa nv xc) := by rw [← hnv]; exact d1
      have d0' : wr.cell? ⟨g, i * 3, none⟩ = some (.int .i64 xi) := d0
      have d2' : wr.cell? ⟨g, i * 3 + 2, none⟩ = some (.int .i64 xt) := d2
      have hxr : RdI wr (.slice xa nv xc) xv := by rw [← hnv]; exact rdI_own hxo
      obtain ⟨hoi, hot, hov⟩ := hok
      have hoi' : 0 ≤ xi ∧ xi < 72057594037927936 := hoi
      have hot' : 0 ≤ xt ∧ xt < 72057594037927936 := hot
      have hov' : validB xv = true := hov
      obtain ⟨W1, hW1⟩ : ∃ W1, wr.alloc (.cells #[.int .i64 xi, .slice xa nv xc, .int .i64 xt] 65) = W1 := ⟨_, rfl⟩
      have hbW : Below wr.heap.size wr W1 := by rw [← hW1]; exact (Below.refl _ _).alloc (Nat.le_refl _) _
      have q0 : W1.cell? ⟨wr.heap.size, 0, none⟩ = some (.int .i64 xi) := by rw [← hW1]; simp [go_sem]
      have q1 : W1.cell? ⟨wr.heap.size, 1, none⟩ = some (.slice xa nv xc) := by rw [← hW1]; simp [go_sem]
      have q2 : W1.cell? ⟨wr.heap.size, 2, none⟩ = some (.int .i64 xt) := by rw [← hW1]; simp [go_sem]
      have r1 : (i : Int) < (n : Int) := by omega
      obtain ⟨sv, hsv⟩ : ∃ sv : ByteArray, sv = ⟨(encV xv).toArray⟩ := ⟨_, rfl⟩
      obtain ⟨si, hsi⟩ : ∃ si : ByteArray, si = ⟨(enc7 xi).toArray⟩ := ⟨_, rfl⟩
      obtain ⟨st, hst⟩ : ∃ st : ByteArray, st = ⟨(enc7 xt).toArray⟩ := ⟨_, rfl⟩
      have hPV := putvec_any (hxr.below hbW) hov'
      rw [← hsv] at hPV
      have hN1 := num_any xi hoi'.1 hoi'.2
      rw [← hsi] at hN1
      have hN2 := num_any xt hot'.1 hot'.2
      rw [← hst] at hN2
      have z1 : si.size = 7 := by rw [hsi, size_arr, enc7_len]
      have z2 : st.size = 7 := by rw [hst, size_arr, enc7_len]
      have z3 : sv.size ≤ 49 := by rw [hsv, size_arr]; exact encV_len hov'
      have z4 : o.size ≤ 2000 := by
        rw [HB.out.1, size_arr]
        have h8 := putS_len last ((L.map core).take i) (fun c hc => (HL.out.1 c (by rw [← H2.out.1]; exact List.mem_of_mem_take hc)).2.2)
        rw [List.length_take] at h8
        omega
      have b1 : ¬ 9223372036854775807 < si.size + st.size := by omega
      have b2 : ¬ 9223372036854775807 < (si ++ st).size + sv.size := by rw [ByteArray.size_append]; omega
      have b2' : ¬ 9223372036854775807 < si.size + st.size + sv.size := by omega
      have b3 : ¬ 9223372036854775807 < o.size + (si ++ st ++ sv).size := by rw [ByteArray.size_append, ByteArray.size_append]; omega
      have b3' : ¬ 9223372036854775807 < o.size + (si.size + st.size + sv.size) := by omega
      have HX := Lib.hid (And.intro hstep (And.intro hbW (And.intro hsv (And.intro hsi hst))))
      clear z1 z2 z3 z4
      clear hbW hx d0 d1 d2 hil hLw hxo hxr hnv hcm hoi hot hov hoi' hot' hov' hstep hsv hsi hst ho hb
      go_wp2_with (go_at_call 46; go_loud (refine hPV.mono ?_); rintro e w4 ⟨rfl, hb4⟩; have p0 := (hb4.cell (p := ⟨wr.heap.size, 0, none⟩) (World.block_lt_of_cell? _ _ q0)).trans q0; have p2 := (hb4.cell (p := ⟨wr.heap.size, 2, none⟩) (World.block_lt_of_cell? _ _ q2)).trans q2; have H4 := Lib.hid (HX.out.2.1.trans (hb4.mono HX.out.2.1.size)); clear hb4)
      have kd0 : w4.drew.cell? ⟨wr.heap.size, 0, none⟩ = some (.int .i64 xi) := p0
      have kd2 : w4.drew.cell? ⟨wr.heap.size, 2, none⟩ = some (.int .i64 xt) := p2
      refine wp_region_K (fun w' => w'.cell? ⟨wr.heap.size, 0, none⟩ = some (.int .i64 xi) ∧ w'.cell? ⟨wr.heap.size, 2, none⟩ = some (.int .i64 xt)) 13 14 (by kernel_rfl) (by kernel_rfl) ⟨kd0, kd2⟩ (fun hH => ?_)
      refine wpAnyK_take (i := 0) [13] (v := ?v1) rfl (by kernel_rfl) (by kernel_rfl) (by kernel_rfl) (by kernel_rfl) (fun _ _ _ h => h) (Or.inl ⟨by rfl, ?hy1⟩) hH ?rest1
      case hy1 => (intro w hSw; (try dsimp only at hSw); go_simp; with_reducible rfl)
      try simp only [Act.put, List.setIfInBounds_toArray, List.set_cons_zero, List.set_cons_succ]
      refine wpAnyK_take (i := 1) [13] (v := ?v2) rfl (by kernel_rfl) (by kernel_rfl) (by kernel_rfl) (by kernel_rfl) (fun _ _ _ h => h) (Or.inl ⟨by rfl, ?hy2⟩) hH ?rest2
      case hy2 => (intro w hSw; (try dsimp only at hSw); go_simp; with_reducible rfl)
      try simp only [Act.put, List.setIfInBounds_toArray, List.set_cons_zero, List.set_cons_succ]
      refine wpAnyK_take (i := 2) [13] (v := ?v3) rfl (by kernel_rfl) (by kernel_rfl) (by kernel_rfl) (by kernel_rfl) (fun _ _ _ h => h) (Or.inl ⟨by rfl, ?hy3⟩) hH ?rest3
      case hy3 => (intro w hSw; (try dsimp only at hSw); go_simp; with_reducible rfl)
      try simp only [Act.put, List.setIfInBounds_toArray, List.set_cons_zero, List.set_cons_succ]
      refine wpAnyK_take (i := 3) [13] (v := ?v4) rfl (by kernel_rfl) (by kernel_rfl) (by kernel_rfl) (by kernel_rfl) (fun _ _ _ h => h) (Or.inl ⟨by rfl, ?hy4⟩) hH ?rest4
      case hy4 => (intro w hSw; (try dsimp only at hSw); go_simp; with_reducible rfl)
      try simp only [Act.put, List.setIfInBounds_toArray, List.set_cons_zero, List.set_cons_succ]
      refine wpAnyK_take (i := 5) [13] (v := ?v5) rfl (by kernel_rfl) (by kernel_rfl) (by kernel_rfl) (by kernel_rfl) (fun _ _ _ h => h) (Or.inl ⟨by rfl, ?hy5⟩) hH ?rest5
      case hy5 => (intro w hSw; (try dsimp only at hSw); go_simp; with_reducible rfl)
      try simp only [Act.put, List.setIfInBounds_toArray, List.set_cons_zero, List.set_cons_succ]
      refine wpAnyK_take (i := 6) [13] (v := ?v6) rfl (by kernel_rfl) (by kernel_rfl) (by kernel_rfl) (by kernel_rfl) (fun _ _ _ h => h) (Or.inl ⟨by rfl, ?hy6⟩) hH ?rest6
      case hy6 => (intro w hSw; (try dsimp only at hSw); go_simp; with_reducible rfl)
      try simp only [Act.put, List.setIfInBounds_toArray, List.set_cons_zero, List.set_cons_succ]
      refine wpAnyK_take (i := 7) [13] (v := ?v7) rfl (by kernel_rfl) (by kernel_rfl) (by kernel_rfl) (by kernel_rfl) (fun _ _ _ h => h) (Or.inl ⟨by rfl, ?hy7⟩) hH ?rest7
      case hy7 => (intro w hSw; (try dsimp only at hSw); go_simp; with_reducible rfl)
      try simp only [Act.put, List.setIfInBounds_toArray, List.set_cons_zero, List.set_cons_succ]
      refine wpAnyK_take (i := 10) [13] (v := ?v8) rfl (by kernel_rfl) (by kernel_rfl) (by kernel_rfl) (by kernel_rfl) (fun _ _ _ h => h) (Or.inl ⟨by rfl, ?hy8⟩) hH ?rest8
      case hy8 => (intro w hSw; (try dsimp only at hSw); go_simp; with_reducible rfl)
      try simp only [Act.put, List.setIfInBounds_toArray, List.set_cons_zero, List.set_cons_succ]
      refine wpAnyK_one (i := 4) (by kernel_rfl) rfl (fun K hK => ?_) (by kernel_rfl)
      go_simp
      go_at_call 44
      refine (hN1 _).mono ?_
      rintro e w5 ⟨rfl, hb5⟩
      have e0 := (hb5.cell (p := ⟨wr.heap.size, 0, none⟩) (World.block_lt_of_cell? _ _ kd0)).trans kd0
      have e2 := (hb5.cell (p := ⟨wr.heap.size, 2, none⟩) (World.block_lt_of_cell? _ _ kd2)).trans kd2
      have H5 := Lib.hid (H4.out.drew.trans (hb5.mono H4.out.size))
      clear hb5
      refine hK.out _ _ ⟨e0, e2⟩ (fun hH => ?_)
      clear hK K
      try simp only [Act.put, List.setIfInBounds_toArray, List.set_cons_zero, List.set_cons_succ]
      refine wpAnyK_one (i := 8) (by kernel_rfl) rfl (fun K hK => ?_) (by kernel_rfl)
      go_simp
      go_at_call 44
      refine (hN2 _).mono ?_
      rintro e w6 ⟨rfl, hb6⟩
      have f0 := (hb6.cell (p := ⟨wr.heap.size, 0, none⟩) (World.block_lt_of_cell? _ _ e0)).trans e0
      have f2 := (hb6.cell (p := ⟨wr.heap.size, 2, none⟩) (World.block_lt_of_cell? _ _ e2)).trans e2
      have H6 := Lib.hid (H5.out.trans (hb6.mono H5.out.size))
      clear hb6
      refine hK.out _ _ ⟨f0, f2⟩ (fun hH => ?_)
      clear hK K
      try simp only [Act.put, List.setIfInBounds_toArray, List.set_cons_zero, List.set_cons_succ]
      refine wpAnyK_take (i := 9) [13] (v := ?v9) rfl (by kernel_rfl) (by kernel_rfl) (by kernel_rfl) (by kernel_rfl) (fun _ _ _ h => h) (Or.inl ⟨by rfl, ?hy9⟩) hH ?rest9
      case hy9 => (intro w hSw; (try dsimp only at hSw); go_simp; with_reducible rfl)
      try simp only [Act.put, List.setIfInBounds_toArray, List.set_cons_zero, List.set_cons_succ]
      refine wpAnyK_take (i := 11) [13] (v := ?v10) rfl (by kernel_rfl) (by kernel_rfl) (by kernel_rfl) (by kernel_rfl) (fun _ _ _ h => h) (Or.inl ⟨by rfl, ?hy10⟩) hH ?rest10
      case hy10 => (intro w hSw; (try dsimp only at hSw); go_simp; with_reducible rfl)
      try simp only [Act.put, List.setIfInBounds_toArray, List.set_cons_zero, List.set_cons_succ]
      refine wpAnyK_take (i := 12) [13] (v := ?v11) rfl (by kernel_rfl) (by kernel_rfl) (by kernel_rfl) (by kernel_rfl) (fun _ _ _ h => h) (Or.inl ⟨by rfl, ?hy11⟩) hH ?rest11
      case hy11 => (intro w hSw; (try dsimp only at hSw); go_simp; with_reducible rfl)
      try simp only [Act.put, List.setIfInBounds_toArray, List.set_cons_zero, List.set_cons_succ]
      refine wpAnyK_last (by kernel_rfl) rfl (fun K hK => ?_) (by kernel_rfl)
      go_simp
      refine hK.out _ _ (wpAnyK_done (by kernel_rfl) ?_ _)
      clear hK K hH
      go_wp2_with fail
      go_roundw
      case rel =>
        refine ⟨i + 1, _, by omega, by go_num, rfl, ?_, HB.out.2.trans (H6.out.mono HB.out.2.size)⟩
        rw [HX.out.1, HB.out.1, HX.out.2.2.1, HX.out.2.2.2.1, HX.out.2.2.2.2, str_add, str_add, str_add]
        rfl
      case measure => simp [intOf]; omega
    · obtain rfl : i = n := by omega
      clear hLw hb
      go_wp2
      go_ret
      have hall : (L.map core).take i = (sortM m).map core := by rw [List.take_of_length_le (by rw [List.length_map, H2.out.2.1]; omega), H2.out.1]
      refine ⟨?_, H2.out.2.2.2.trans (HB.out.2.mono H2.out.2.2.2.size)⟩
      rw [HB.out.1, hall]
      rfl
end Go.Proofs.YtnegappgdpeabaaGreat
/-
  Lease: leases' bytes are told apart. (Plain.)
-/
namespace Go.Proofs.YtnegappgdpeabaaGreat
open Go.RowKit

theorem beV_beF : ∀ (k v : Nat), v < 256 ^ k → Rw.beV (Rw.beF k v) = v
  | 0, v, h => by simp at h; subst h; rfl
  | k + 1, v, h => by
    have hp : 0 < 256 ^ k := Nat.pow_pos (by decide)
    unfold Rw.beF
    have hd : v / 256 ^ k < 256 := by
      rw [Nat.div_lt_iff_lt_mul hp, Nat.mul_comm]
      rw [Nat.pow_succ] at h
      exact h
    have hm := Nat.div_add_mod v (256 ^ k)
    have h1 : Rw.beF k v = Rw.beF k (v % 256 ^ k) := by
      conv => lhs; rw [← hm, Nat.add_comm, Nat.mul_comm]
      exact beF_mod k _ _
    rw [beV_cons, Rw.beF_len, h1, beV_beF k _ (Nat.mod_lt _ hp)]
    have h2 : (UInt8.ofNat (v / 256 ^ k)).toNat = v / 256 ^ k := by
      rw [UInt8.toNat_ofNat']
      exact Nat.mod_eq_of_lt hd
    rw [h2, Nat.mul_comm]
    exact hm
theorem beF_inj {k a b : Nat} (ha : a < 256 ^ k) (hb : b < 256 ^ k) (h : Rw.beF k a = Rw.beF k b) : a = b := by
  have := congrArg Rw.beV h
  rwa [beV_beF k a ha, beV_beF k b hb] at this
theorem enc7_inj {a b : Int} (ha : 0 ≤ a ∧ a < 72057594037927936) (hb : 0 ≤ b ∧ b < 72057594037927936) (h : enc7 a = enc7 b) : a = b := by
  have := beF_inj (k := 7) (a := a.toNat) (b := b.toNat) (by omega) (by omega) h
  omega
theorem enc6_inj {a b : Int} (ha : okT a = true) (hb : okT b = true) (h : enc6 a = enc6 b) : a = b := by
  simp only [okT, decide_eq_true_eq] at ha hb
  have := beF_inj (k := 6) (a := a.toNat) (b := b.toNat) (by omega) (by omega) h
  omega
theorem flat6_inj : ∀ {a b : List Int} {x y : List UInt8}, a.all okT = true → b.all okT = true → a.length = b.length → a.flatMap enc6 ++ x = b.flatMap enc6 ++ y → a = b ∧ x = y
  | [], [], _, _, _, _, _, h => ⟨rfl, by simpa using h⟩
  | [], _ :: _, _, _, _, _, h, _ => by simp at h
  | _ :: _, [], _, _, _, _, h, _ => by simp at h
  | s :: a, t :: b, x, y, ha, hb, hl, h => by
    rw [List.flatMap_cons, List.flatMap_cons, List.append_assoc, List.append_assoc] at h
    rw [List.all_cons, Bool.and_eq_true] at ha hb
    have h2 := List.append_inj h (by rw [enc6_len, enc6_len])
    obtain ⟨e1, e2⟩ := flat6_inj ha.2 hb.2 (by simpa using hl) h2.2
    exact ⟨by rw [enc6_inj ha.1 hb.1 h2.1, e1], e2⟩
theorem encV_inj {a b : List Int} {x y : List UInt8} (ha : validB a = true) (hb : validB b = true) (h : encV a ++ x = encV b ++ y) : a = b ∧ x = y := by
  simp only [validB, Bool.and_eq_true, decide_eq_true_eq] at ha hb
  unfold encV at h
  rw [List.cons_append, List.cons_append] at h
  have h1 := (List.cons.inj h).1
  have h2 := (List.cons.inj h).2
  have hl : a.length = b.length := by
    have := congrArg UInt8.toNat h1
    rw [UInt8.toNat_ofNat', UInt8.toNat_ofNat'] at this
    omega
  exact flat6_inj ha.2 hb.2 hl h2

/-- Leases that can be put. -/
def okC (last : Int) (c : Int × List Int × Int) : Prop := 1 ≤ c.1 ∧ c.1 ≤ last ∧ validB c.2.1 = true ∧ 1 ≤ c.2.2 ∧ c.2.2 ≤ 281474976710656
structure GoodL (last : Int) (L : List (Int × List Int × Int)) : Prop where
  la : 0 ≤ last ∧ last < 72057594037927936
  rise : L.Pairwise (fun a b => a.1 < b.1)
  each : ∀ c ∈ L, okC last c
  few : L.length ≤ 16
/-- Bytes of leases. -/
def Encd (s : ByteArray) : Prop := ∃ last L, GoodL last L ∧ s.data.toList = putS last L
theorem encL_ne (c : Int × List Int × Int) : encL c ≠ [] := by
  intro h
  have := congrArg List.length h
  unfold encL at this
  simp [enc7_len] at this
theorem encL_inj {last : Int} (hl : last < 72057594037927936) {c d : Int × List Int × Int} {x y : List UInt8} (hc : okC last c) (hd : okC last d) (h : encL c ++ x = encL d ++ y) : c = d ∧ x = y := by
  unfold encL at h
  simp only [List.append_assoc] at h
  have h1 := List.append_inj h (by rw [enc7_len, enc7_len])
  have h2 := List.append_inj h1.2 (by rw [enc7_len, enc7_len])
  obtain ⟨e1, e2⟩ := encV_inj hc.2.2.1 hd.2.2.1 h2.2
  have e3 := enc7_inj (a := c.1) (b := d.1) (by have := hc.1; have := hc.2.1; omega) (by have := hd.1; have := hd.2.1; omega) h1.1
  have e4 := enc7_inj (a := c.2.2) (b := d.2.2) (by have := hc.2.2.2; omega) (by have := hd.2.2.2; omega) h2.1
  exact ⟨Prod.ext e3 (Prod.ext e1 e4), e2⟩
theorem flatL_inj {last : Int} (hl : last < 72057594037927936) : ∀ {M L : List (Int × List Int × Int)} {r : List UInt8}, (∀ c ∈ M, okC last c) → (∀ c ∈ L, okC last c) → L.flatMap encL = M.flatMap encL ++ r → ∃ rest, L = M ++ rest ∧ r = rest.flatMap encL
  | [], L, r, _, _, h => ⟨L, rfl, by simpa using h.symm⟩
  | c :: M, [], r, _, _, h => by
    rw [List.flatMap_nil, List.flatMap_cons, List.append_assoc] at h
    exact absurd (List.append_eq_nil_iff.1 h.symm).1 (encL_ne c)
  | c :: M, d :: L, r, hM, hL, h => by
    rw [List.flatMap_cons, List.flatMap_cons, List.append_assoc] at h
    obtain ⟨rfl, h2⟩ := encL_inj hl (hL d List.mem_cons_self) (hM c List.mem_cons_self) h
    obtain ⟨rest, e1, e2⟩ := flatL_inj hl (fun c hc => hM c (List.mem_cons_of_mem _ hc)) (fun c hc => hL c (List.mem_cons_of_mem _ hc)) h2
    exact ⟨rest, by rw [e1]; rfl, e2⟩
theorem flatL_nil : ∀ {L : List (Int × List Int × Int)}, L.flatMap encL = [] → L = []
  | [], _ => rfl
  | c :: L, h => by
    rw [List.flatMap_cons] at h
    exact absurd (List.append_eq_nil_iff.1 h).1 (encL_ne c)
theorem putS_inj {a b : Int} {M L : List (Int × List Int × Int)} (h1 : GoodL a M) (h2 : GoodL b L) (h : putS b L = putS a M) : b = a ∧ L = M := by
  unfold putS at h
  have h3 := List.append_inj h (by rw [enc7_len, enc7_len])
  have hab := enc7_inj h2.la h1.la h3.1
  subst hab
  have h4 : L.flatMap encL = M.flatMap encL ++ [] := by rw [List.append_nil]; exact h3.2
  obtain ⟨rest, e1, e2⟩ := flatL_inj h1.la.2 h1.each h2.each h4
  have := flatL_nil e2.symm
  subst this
  exact ⟨rfl, by simpa using e1⟩

/-- What no vector begins. -/
def NoVec (s : ByteArray) : Prop := ¬ ∃ vs r, validB vs = true ∧ s.data.toList = encV vs ++ r
theorem nov_short {s : ByteArray} (h : s.size < 1) : NoVec s := by
  rintro ⟨vs, r, hv, e⟩
  have := congrArg List.length e
  have e1 : s.data.toList.length = s.size := rfl
  rw [List.length_append] at this
  unfold encV at this
  rw [List.length_cons] at this
  omega
theorem nov_head {s : ByteArray} {c : UInt8} {t : List UInt8} (h : s.data.toList = c :: t) (hc : c.toNat < 1 ∨ 8 < c.toNat) : NoVec s := by
  rintro ⟨vs, r, hv, e⟩
  rw [h] at e
  unfold encV at e
  rw [List.cons_append] at e
  have h1 := congrArg UInt8.toNat (List.cons.inj e).1
  simp only [validB, Bool.and_eq_true, decide_eq_true_eq] at hv
  rw [UInt8.toNat_ofNat'] at h1
  omega
theorem nov_rest {s r : ByteArray} {c : UInt8} {vs : List Int} (h : s.data.toList = c :: (vs.flatMap enc6 ++ r.data.toList)) (hc : vs.length < c.toNat) (hr : r.size < 6) : NoVec s := by
  rintro ⟨us, t, hv, e⟩
  rw [h] at e
  unfold encV at e
  rw [List.cons_append] at e
  have h1 := congrArg UInt8.toNat (List.cons.inj e).1
  simp only [validB, Bool.and_eq_true, decide_eq_true_eq] at hv
  rw [UInt8.toNat_ofNat'] at h1
  have h2 := congrArg List.length (List.cons.inj e).2
  rw [List.length_append, List.length_append, flat6_len, flat6_len] at h2
  have e1 : r.data.toList.length = r.size := rfl
  omega

/-- What stands next, where leases' bytes are read. -/
def Nxt (r : ByteArray) (ahead last : Int) : Prop := ∃ c x, okC last c ∧ ahead < c.1 ∧ r.data.toList = enc7 c.1 ++ (enc7 c.2.2 ++ (encV c.2.1 ++ x))
theorem nxt_long {r : ByteArray} {ahead last : Int} (h : Nxt r ahead last) : 14 ≤ r.size := by
  obtain ⟨c, x, _, _, e⟩ := h
  have := congrArg List.length e
  rw [List.length_append, List.length_append, enc7_len, enc7_len] at this
  have e1 : r.data.toList.length = r.size := rfl
  omega
def Nxt1 (r : ByteArray) : Prop := ∃ (u : Int) (vs : List Int) (x : List UInt8), 1 ≤ u ∧ u ≤ 281474976710656 ∧ validB vs = true ∧ r.data.toList = enc7 u ++ (encV vs ++ x)
theorem nxt_id {r r1 : ByteArray} {ahead last id : Int} (h : Nxt r ahead last) (hl : last < 72057594037927936) (h1 : r.data.toList = enc7 id ++ r1.data.toList ∧ 0 ≤ id ∧ id < 72057594037927936) : ahead < id ∧ id ≤ last ∧ Nxt1 r1 := by
  obtain ⟨c, x, hc, ha, e⟩ := h
  rw [h1.1] at e
  have h2 := List.append_inj e (by rw [enc7_len, enc7_len])
  have e1 := enc7_inj h1.2 (by have := hc.1; have := hc.2.1; omega) h2.1
  exact ⟨by omega, by have := hc.2.1; omega, _, _, _, hc.2.2.2.1, hc.2.2.2.2, hc.2.2.1, h2.2⟩
theorem nxt1_long {r : ByteArray} (h : Nxt1 r) : 7 ≤ r.size := by
  obtain ⟨u, vs, x, _, _, _, e⟩ := h
  have := congrArg List.length e
  rw [List.length_append, enc7_len] at this
  have e1 : r.data.toList.length = r.size := rfl
  omega
theorem nxt1_u {r r1 : ByteArray} {u : Int} (h : Nxt1 r) (h1 : r.data.toList = enc7 u ++ r1.data.toList ∧ 0 ≤ u ∧ u < 72057594037927936) : 1 ≤ u ∧ u ≤ 281474976710656 ∧ ¬ NoVec r1 := by
  obtain ⟨v, vs, x, a, b, c, e⟩ := h
  rw [h1.1] at e
  have h2 := List.append_inj e (by rw [enc7_len, enc7_len])
  have e1 := enc7_inj h1.2 (by omega) h2.1
  exact ⟨by omega, by omega, fun hn => hn ⟨vs, x, c, h2.2⟩⟩
/-- What stands next, behind leases that were read. -/
theorem nxt_of {s r : ByteArray} {last ahead : Int} {M : List (Int × List Int × Int)} (he : Encd s) (hl : 0 ≤ last ∧ last < 72057594037927936) (hM : ∀ c ∈ M, okC last c) (hs : s.data.toList = putS last M ++ r.data.toList) (ha : ahead = 0 ∨ ∃ c ∈ M, c.1 = ahead) :
    (r.size = 0 → M.length ≤ 16) ∧ (¬ r.size = 0 → Nxt r ahead last) := by
  obtain ⟨last', L, hg, e⟩ := he
  rw [hs] at e
  unfold putS at e
  rw [List.append_assoc] at e
  have h3 := List.append_inj e (by rw [enc7_len, enc7_len])
  have hab := enc7_inj hl hg.la h3.1
  subst hab
  obtain ⟨rest, e1, e2⟩ := flatL_inj hl.2 hM hg.each h3.2.symm
  have e3 : r.data.toList.length = r.size := rfl
  refine ⟨fun h0 => ?_, fun h0 => ?_⟩
  · have : rest.flatMap encL = [] := by rw [← e2]; exact List.eq_nil_of_length_eq_zero (by omega)
    have := flatL_nil this
    subst this
    have := hg.few
    rw [e1, List.append_nil] at this
    exact this
  · cases rest with
    | nil => rw [e2] at e3; simp at e3; omega
    | cons c rest =>
      have hc : c ∈ L := by rw [e1]; exact List.mem_append_right _ List.mem_cons_self
      refine ⟨c, rest.flatMap encL, hg.each c hc, ?_, ?_⟩
      · rcases ha with rfl | ⟨d, hd, rfl⟩
        · have := (hg.each c hc).1; omega
        · have := hg.rise
          rw [e1] at this
          exact (List.pairwise_append.1 this).2.2 d hd c List.mem_cons_self
      · rw [e2, List.flatMap_cons]
        unfold encL
        simp only [List.append_assoc]
end Go.Proofs.YtnegappgdpeabaaGreat
