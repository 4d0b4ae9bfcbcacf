/-
  Lease: a vector's bytes, all leases' bytes.
-/
import Derived.Test.YtmdhegmnfcodbaaLsP
import Derived.Test.YtmdhegmnfcodbaaRawK
import Derived.Test.YtmdhegmnfcodbaaRkL
namespace Go.Proofs.Ytmdhegmnfcodbaa
open Go.RowKit
variable {w w' w0 w1 w2 w3 w4 : World} {mb lb B : Nat} {ob : Option Nat} {m : Lm} {last now : Int}

def enc6 (t : Int) : List UInt8 := Rw.beF 6 t.toNat
def enc7 (t : Int) : List UInt8 := Rw.beF 7 t.toNat
def encV (vs : List Int) : List UInt8 := UInt8.ofNat vs.length :: vs.flatMap enc6
def encL (c : Int × List Int × Int) : List UInt8 := enc7 c.1 ++ enc7 c.2.2 ++ encV c.2.1
def putS (last : Int) (l : List (Int × List Int × Int)) : List UInt8 := enc7 last ++ l.flatMap encL
theorem str_cells (l : List UInt8) : Lib.strCells ⟨l.toArray⟩ = Lib.byteCells l := by unfold Lib.strCells Lib.byteCells; simp
theorem byte_app (a b : List UInt8) : Lib.byteCells (a ++ b) = Lib.byteCells a ++ Lib.byteCells b := by unfold Lib.byteCells; simp
theorem enc6_len (t : Int) : (enc6 t).length = 6 := Rw.beF_len _ _
theorem enc7_len (t : Int) : (enc7 t).length = 7 := Rw.beF_len _ _
theorem flat6_len (vs : List Int) : (vs.flatMap enc6).length = 6 * vs.length := by
  induction vs with
  | nil => rfl
  | cons t vs ih => rw [List.flatMap_cons, List.length_append, enc6_len, ih, List.length_cons]; omega
theorem put7_any (n : Int) (h0 : 0 ≤ n) (h1 : n < 72057594037927936) (w : World) : Calls Try.prog 29 #[.int .i64 n, .int .i64 7] w fun e w' => e = .returned (.tuple #[.string ⟨(enc7 n).toArray⟩, .int .i64 0]) ∧ Below w.heap.size w w' := by
  obtain ⟨k, rfl⟩ := Int.eq_ofNat_of_zero_le h0
  exact put_ok k 7 w (by omega) (by omega) (by omega)
theorem put6_any (n : Int) (h0 : 0 ≤ n) (h1 : n < 281474976710656) (w : World) : Calls Try.prog 29 #[.int .i64 n, .int .i64 6] w fun e w' => e = .returned (.tuple #[.string ⟨(enc6 n).toArray⟩, .int .i64 0]) ∧ Below w.heap.size w w' := by
  obtain ⟨k, rfl⟩ := Int.eq_ofNat_of_zero_le h0
  exact put_ok k 6 w (by omega) (by omega) (by omega)

set_option maxRecDepth 100000 in
set_option maxHeartbeats 1000000 in
theorem putvec_any {x : Value} {vs : List Int} (h : RdI w x vs) (hv : validB vs = true) : Calls Try.prog 30 #[x] w fun e w' => e = .returned (.tuple #[.string ⟨(encV vs).toArray⟩, .int .i64 0]) ∧ Below w.heap.size w w' := by
  have hV := valid_any h
  rw [hv] at hV
  obtain ⟨a, c, rfl, hc⟩ := h
  obtain ⟨n, hn⟩ : ∃ n, vs.length = n := ⟨_, rfl⟩
  have hn8 : 1 ≤ n ∧ n ≤ 8 := by
    simp only [validB, Bool.and_eq_true, decide_eq_true_eq] at hv
    omega
  have hok : ∀ t ∈ vs, 0 ≤ t ∧ t < 281474976710656 := fun t ht => by
    simp only [validB, Bool.and_eq_true] at hv
    have := List.all_eq_true.1 hv.2 t ht
    simpa [okT] using this
  rw [hn] at hV ⊢
  obtain ⟨W1, hW1⟩ : ∃ W1, w.alloc (.cells #[.pointer none, .slice none 0 0] 83) = W1 := ⟨_, rfl⟩
  have hB1 : BldAt w.heap.size w.heap.size [] W1 := by rw [← hW1]; exact Lib.fresh_isBuilder _ _ w
  have hb1 : Below w.heap.size w W1 := by rw [← hW1]; exact (Below.refl _ _).alloc (Nat.le_refl _) _
  have hc8 : (n : Int) % 256 = (n : Int) := by omega
  have H := Lib.hid (And.intro hc (And.intro hn (And.intro hok (And.intro hB1 (And.intro hb1 hn8)))))
  have hn1 : n ≤ 8 := hn8.2
  clear hc hn hok hv hB1 hb1 hn8
  go_enter Try.func30, Try.ntmps30
  go_wp2_with (first
    | (go_at_call 41; go_loud (refine (bld_byte H.out.2.2.2.1 _ (by simp) H.out.2.2.2.2.1.size).mono ?_); rintro e w2 ⟨rfl, hB2, hb2⟩; have H2 := Lib.hid (And.intro hB2 (H.out.2.2.2.2.1.trans hb2)); clear hB2 hb2)
    | (go_at_call 19; refine hV.mono ?_; rintro e v1 ⟨rfl, rfl⟩))
  clear hV
  go_loopw [6, 7, 8, 18] (fun _ _ _ iv wr => ∃ i : Nat, i ≤ n ∧ iv = .int .i64 (i : Int) ∧ BldAt w.heap.size w.heap.size (Lib.byteCells (UInt8.ofNat n :: (vs.take i).flatMap enc6)) wr ∧ Below w.heap.size w wr) (fun _ _ _ iv _ => n - (intOf iv).toNat)
  case atStart =>
    refine ⟨0, by omega, rfl, ?_, H2.out.2⟩
    have h5 := H2.out.1
    have e : ([] ++ [Value.int .u8 ((n : Int))] : List Value) = Lib.byteCells [UInt8.ofNat n] := by
      have : ((UInt8.ofNat n).toNat : Int) = (n : Int) := by simp; omega
      show [Value.int .u8 (n : Int)] = [Value.int .u8 ((UInt8.ofNat n).toNat : Int)]
      rw [this]
    rw [e] at h5
    exact h5
  case round =>
    obtain ⟨i, hi, rfl, hbd, hb⟩ := hrel
    have HB := Lib.hid (And.intro hbd hb)
    clear hbd
    by_cases hlt : i < n
    · have hil : i < vs.length := by have := H.out.2.1; omega
      obtain ⟨b, off, rfl, hbl, hcc⟩ := H.out.1.resolve_left (fun e => by rw [e] at hil; simp at hil)
      obtain ⟨t, ht⟩ : ∃ t, vs[i] = t := ⟨_, rfl⟩
      have d := (hb.cell (p := ⟨b, off + i, none⟩) hbl).trans (hcc i hil)
      rw [ht] at d
      have hto := H.out.2.2.1 t (by rw [← ht]; exact List.getElem_mem hil)
      have htk : (vs.take (i + 1)).flatMap enc6 = (vs.take i).flatMap enc6 ++ enc6 t := by rw [List.take_succ_eq_append_getElem hil, List.flatMap_append, ht]; simp
      have hlen : (UInt8.ofNat n :: (vs.take i).flatMap enc6).length ≤ 100 := by rw [List.length_cons, flat6_len, List.length_take]; omega
      have hP := put6_any t hto.1 hto.2
      have r1 : (i : Int) < (n : Int) := by omega
      have HX := Lib.hid (And.intro htk (And.intro hlen hP))
      clear hcc ht htk hto hlen hP hb
      go_wp2_with (first
        | (go_at_call 42; go_loud (refine (bld_text H3.out.1 _ (by rw [Lib.byteCells_length]; have := HX.out.2.1; have h6 : (⟨(enc6 t).toArray⟩ : ByteArray).size = 6 := enc6_len t; omega) H3.out.2.size).mono ?_); rintro e w4 ⟨rfl, hB4, hb4⟩; have H4 := Lib.hid (And.intro hB4 (H3.out.2.trans hb4)); clear hB4 hb4)
        | (go_at_call 29; refine (HX.out.2.2 _).mono ?_; rintro e w3 ⟨rfl, hb3⟩
           have hB3 : BldAt w.heap.size w.heap.size (Lib.byteCells (UInt8.ofNat n :: (vs.take i).flatMap enc6)) w3 := bld_below HB.out.1 hb3
           have H3 := Lib.hid (And.intro hB3 (HB.out.2.trans (hb3.mono HB.out.2.size))); clear hb3 hB3))
      go_roundw
      case rel =>
        refine ⟨i + 1, by omega, by go_num, ?_, H4.out.2⟩
        have h5 := H4.out.1
        rw [str_cells, ← byte_app] at h5
        rw [HX.out.1]
        exact h5
      case measure => simp [intOf]; omega
    · obtain rfl : i = n := by omega
      clear hb
      go_wp2_with (go_at_call 43; go_loud (refine (bld_string HB.out.1 HB.out.2.size).mono ?_); rintro e w4 ⟨rfl, hb4⟩; have H4 := Lib.hid (HB.out.2.trans hb4); clear hb4)
      go_ret2
      refine ⟨?_, H4.out⟩
      rw [List.take_of_length_le (by have := H.out.2.1; omega)]
      unfold encV
      rw [H.out.2.1]
      rfl

theorem num_any (n : Int) (h0 : 0 ≤ n) (h1 : n < 72057594037927936) (w : World) : Calls Try.prog 28 #[.int .i64 n] w fun e w' => e = .returned (.string ⟨(enc7 n).toArray⟩) ∧ Below w.heap.size w w' := by
  have hP := put7_any n h0 h1
  clear h0 h1
  go_enter Try.func28, Try.ntmps28
  go_wp2_with fail
  refine (hP _).mono ?_
  rintro e w1 ⟨rfl, hb⟩
  go_wp2
  go_ret
  exact ⟨rfl, hb⟩
theorem encV_len {vs : List Int} (h : validB vs = true) : (encV vs).length ≤ 49 := by
  simp only [validB, Bool.and_eq_true, decide_eq_true_eq] at h
  unfold encV
  rw [List.length_cons, flat6_len]
  omega
theorem encL_len {c : Int × List Int × Int} (h : validB c.2.1 = true) : (encL c).length ≤ 63 := by
  have := encV_len h
  unfold encL
  rw [List.length_append, List.length_append, enc7_len, enc7_len]
  omega
theorem str_add (a b : List UInt8) : ((⟨a.toArray⟩ : ByteArray) ++ (⟨b.toArray⟩ : ByteArray)) = ⟨(a ++ b).toArray⟩ := by
  apply ByteArray.ext
  simp
theorem putS_take (last : Int) (l : List (Int × List Int × Int)) (i : Nat) (hi : i < l.length) : putS last (l.take (i + 1)) = putS last (l.take i) ++ encL l[i] := by
  unfold putS
  rw [List.take_succ_eq_append_getElem hi, List.flatMap_append, List.append_assoc]
  simp

theorem putS_len (last : Int) : ∀ (l : List (Int × List Int × Int)), (∀ c ∈ l, validB c.2.1 = true) → (putS last l).length ≤ 7 + 63 * l.length := by
  intro l h
  have key : (l.flatMap encL).length ≤ 63 * l.length := by
    induction l with
    | nil => simp
    | cons c l ih =>
      have h1 := encL_len (h c List.mem_cons_self)
      have h2 := ih (fun d hd => h d (List.mem_cons_of_mem _ hd))
      rw [List.flatMap_cons, List.length_append, List.length_cons]
      omega
  unfold putS
  rw [List.length_append, enc7_len]
  omega
theorem size_arr (l : List UInt8) : (⟨l.toArray⟩ : ByteArray).size = l.length := by simp [ByteArray.size]

set_option maxRecDepth 100000 in
set_option maxHeartbeats 2000000 in
theorem put_any2 (h : LsAt w lb ob m last) (hl : last < 72057594037927936) (ht : ∀ p ∈ m, 0 ≤ p.2.till ∧ p.2.till < 72057594037927936) : Calls Try.prog 17 #[.pointer (some ⟨lb, 0, none⟩)] w fun e w' =>
    e = .returned (.string ⟨(putS last ((sortM m).map core)).toArray⟩) ∧ Below w.heap.size w w' := by
  have c0 := h.c0
  have c1 := h.c1
  have hl0 : 0 ≤ last := h.ok.last.1
  have hw0 := h.ltd
  have hsort : ∀ c ∈ (sortM m).map core, (0 ≤ c.1 ∧ c.1 < 72057594037927936) ∧ (0 ≤ c.2.2 ∧ c.2.2 < 72057594037927936) ∧ validB c.2.1 = true := fun c hc => by
    obtain ⟨x, hx, rfl⟩ := List.mem_map.1 hc
    obtain ⟨p, hp, rfl⟩ := (sortM_mem h.nodup).1 hx
    have h1 := h.ok.key p hp
    have h2 := h.ok.id p hp
    have h3 := ht p hp
    exact ⟨⟨by show 0 ≤ p.2.id; omega, by show p.2.id < _; omega⟩, h3, h.ok.vec p hp⟩
  obtain ⟨n, hn⟩ : ∃ n, m.length = n := ⟨_, rfl⟩
  have hn16 : n ≤ 16 := by have := h.ok.few; omega
  have HL := Lib.hid (And.intro hsort (And.intro hn h))
  clear h ht hsort hn
  go_enter Try.func17, Try.ntmps17
  go_wp2_with (first
    | (go_at_call 18
       have hLL := list_any (HL.out.2.2.below H1.out)
       rw [HL.out.2.1] at hLL
       go_loud (refine hLL.mono ?_); rintro e w2 ⟨la, lc, L, rfl, hLc, hLl, hLo, hb2⟩; have H2 := Lib.hid (And.intro hLc (And.intro hLl (And.intro hLo (H1.out.trans (hb2.mono H1.out.size))))); clear hLc hLl hLo hb2 hLL)
    | (go_at_call 28; go_loud (refine (num_any last hl0 hl _).mono ?_); rintro e w1 ⟨rfl, hb1⟩
       have d0 := (hb1.cell (p := ⟨lb, 0, none⟩) hw0).trans c0
       have H1 := Lib.hid hb1; clear hb1))
  go_loopw [4, 6, 7, 8, 20] (fun ov _ _ _ iv wr => ∃ (i : Nat) (o : ByteArray), i ≤ n ∧ iv = .int .i64 (i : Int) ∧ ov = .string o ∧ o = ⟨(putS last ((L.map core).take i)).toArray⟩ ∧ Below w2.heap.size w2 wr) (fun _ _ _ _ iv _ => n - (intOf iv).toNat)
  case atStart => exact ⟨0, _, by omega, rfl, rfl, by simp [putS], Below.refl _ _⟩
  case round =>
    obtain ⟨i, o, hi, rfl, rfl, ho, hb⟩ := hrel
    have hLw := H2.out.2.2.1.below hb
    have HB := Lib.hid (And.intro ho hb)
    by_cases hlt : i < n
    · have hil : i < L.length := by rw [H2.out.2.1]; exact hlt
      have hcm : core L[i] ∈ (sortM m).map core := by rw [← H2.out.1]; exact List.mem_map.2 ⟨_, List.getElem_mem hil, rfl⟩
      have hok := HL.out.1 _ hcm
      have hstep := putS_take last (L.map core) i (by rw [List.length_map]; exact hil)
      rw [List.getElem_map] at hstep
      have hxo := (hLw.2 L[i] (List.getElem_mem hil)).1
      obtain ⟨g, rfl, hg, d0, d1, d2⟩ := hLw.get hil
      obtain ⟨x, hx⟩ : ∃ x, L[i] = x := ⟨_, rfl⟩
      rw [hx] at d0 d1 d2 hxo hok hstep
      obtain ⟨xi, xa, xc, xv, xt⟩ := x
      obtain ⟨nv, hnv⟩ : ∃ nv, xv.length = nv := ⟨_, rfl⟩
      have d1' : wr.cell? ⟨g, i * 3 + 1, none⟩ = some (.slice xa nv xc) := by rw [← hnv]; exact d1
      have d0' : wr.cell? ⟨g, i * 3, none⟩ = some (.int .i64 xi) := d0
      have d2' : wr.cell? ⟨g, i * 3 + 2, none⟩ = some (.int .i64 xt) := d2
      have hxr : RdI wr (.slice xa nv xc) xv := by rw [← hnv]; exact rdI_own hxo
      obtain ⟨hoi, hot, hov⟩ := hok
      have hoi' : 0 ≤ xi ∧ xi < 72057594037927936 := hoi
      have hot' : 0 ≤ xt ∧ xt < 72057594037927936 := hot
      have hov' : validB xv = true := hov
      obtain ⟨W1, hW1⟩ : ∃ W1, wr.alloc (.cells #[.int .i64 xi, .slice xa nv xc, .int .i64 xt] 35) = W1 := ⟨_, rfl⟩
      have hbW : Below wr.heap.size wr W1 := by rw [← hW1]; exact (Below.refl _ _).alloc (Nat.le_refl _) _
      have q0 : W1.cell? ⟨wr.heap.size, 0, none⟩ = some (.int .i64 xi) := by rw [← hW1]; simp [go_sem]
      have q1 : W1.cell? ⟨wr.heap.size, 1, none⟩ = some (.slice xa nv xc) := by rw [← hW1]; simp [go_sem]
      have q2 : W1.cell? ⟨wr.heap.size, 2, none⟩ = some (.int .i64 xt) := by rw [← hW1]; simp [go_sem]
      have r1 : (i : Int) < (n : Int) := by omega
      obtain ⟨sv, hsv⟩ : ∃ sv : ByteArray, sv = ⟨(encV xv).toArray⟩ := ⟨_, rfl⟩
      obtain ⟨si, hsi⟩ : ∃ si : ByteArray, si = ⟨(enc7 xi).toArray⟩ := ⟨_, rfl⟩
      obtain ⟨st, hst⟩ : ∃ st : ByteArray, st = ⟨(enc7 xt).toArray⟩ := ⟨_, rfl⟩
      have hPV := putvec_any (hxr.below hbW) hov'
      rw [← hsv] at hPV
      have hN1 := num_any xi hoi'.1 hoi'.2
      rw [← hsi] at hN1
      have hN2 := num_any xt hot'.1 hot'.2
      rw [← hst] at hN2
      have z1 : si.size = 7 := by rw [hsi, size_arr, enc7_len]
      have z2 : st.size = 7 := by rw [hst, size_arr, enc7_len]
      have z3 : sv.size ≤ 49 := by rw [hsv, size_arr]; exact encV_len hov'
      have z4 : o.size ≤ 2000 := by
        rw [HB.out.1, size_arr]
        have h8 := putS_len last ((L.map core).take i) (fun c hc => (HL.out.1 c (by rw [← H2.out.1]; exact List.mem_of_mem_take hc)).2.2)
        rw [List.length_take] at h8
        omega
      have b1 : ¬ 9223372036854775807 < si.size + st.size := by omega
      have b2 : ¬ 9223372036854775807 < (si ++ st).size + sv.size := by rw [ByteArray.size_append]; omega
      have b2' : ¬ 9223372036854775807 < si.size + st.size + sv.size := by omega
      have b3 : ¬ 9223372036854775807 < o.size + (si ++ st ++ sv).size := by rw [ByteArray.size_append, ByteArray.size_append]; omega
      have b3' : ¬ 9223372036854775807 < o.size + (si.size + st.size + sv.size) := by omega
      have HX := Lib.hid (And.intro hstep (And.intro hbW (And.intro hsv (And.intro hsi hst))))
      clear z1 z2 z3 z4
      clear hbW hx d0 d1 d2 hil hLw hxo hxr hnv hcm hoi hot hov hoi' hot' hov' hstep hsv hsi hst ho hb
      go_wp2_with (go_at_call 30; go_loud (refine hPV.mono ?_); rintro e w4 ⟨rfl, hb4⟩; have p0 := (hb4.cell (p := ⟨wr.heap.size, 0, none⟩) (World.block_lt_of_cell? _ _ q0)).trans q0; have p2 := (hb4.cell (p := ⟨wr.heap.size, 2, none⟩) (World.block_lt_of_cell? _ _ q2)).trans q2; have H4 := Lib.hid (HX.out.2.1.trans (hb4.mono HX.out.2.1.size)); clear hb4)
      have kd0 : w4.drew.cell? ⟨wr.heap.size, 0, none⟩ = some (.int .i64 xi) := p0
      have kd2 : w4.drew.cell? ⟨wr.heap.size, 2, none⟩ = some (.int .i64 xt) := p2
      refine wp_region_K (fun w' => w'.cell? ⟨wr.heap.size, 0, none⟩ = some (.int .i64 xi) ∧ w'.cell? ⟨wr.heap.size, 2, none⟩ = some (.int .i64 xt)) 13 14 (by kernel_rfl) (by kernel_rfl) ⟨kd0, kd2⟩ (fun hH => ?_)
      refine wpAnyK_take (i := 0) [13] (v := ?v1) rfl (by kernel_rfl) (by kernel_rfl) (by kernel_rfl) (by kernel_rfl) (fun _ _ _ h => h) (Or.inl ⟨by rfl, ?hy1⟩) hH ?rest1
      case hy1 => (intro w hSw; (try dsimp only at hSw); go_simp; with_reducible rfl)
      try simp only [Act.put, List.setIfInBounds_toArray, List.set_cons_zero, List.set_cons_succ]
      refine wpAnyK_take (i := 1) [13] (v := ?v2) rfl (by kernel_rfl) (by kernel_rfl) (by kernel_rfl) (by kernel_rfl) (fun _ _ _ h => h) (Or.inl ⟨by rfl, ?hy2⟩) hH ?rest2
      case hy2 => (intro w hSw; (try dsimp only at hSw); go_simp; with_reducible rfl)
      try simp only [Act.put, List.setIfInBounds_toArray, List.set_cons_zero, List.set_cons_succ]
      refine wpAnyK_take (i := 2) [13] (v := ?v3) rfl (by kernel_rfl) (by kernel_rfl) (by kernel_rfl) (by kernel_rfl) (fun _ _ _ h => h) (Or.inl ⟨by rfl, ?hy3⟩) hH ?rest3
      case hy3 => (intro w hSw; (try dsimp only at hSw); go_simp; with_reducible rfl)
      try simp only [Act.put, List.setIfInBounds_toArray, List.set_cons_zero, List.set_cons_succ]
      refine wpAnyK_take (i := 3) [13] (v := ?v4) rfl (by kernel_rfl) (by kernel_rfl) (by kernel_rfl) (by kernel_rfl) (fun _ _ _ h => h) (Or.inl ⟨by rfl, ?hy4⟩) hH ?rest4
      case hy4 => (intro w hSw; (try dsimp only at hSw); go_simp; with_reducible rfl)
      try simp only [Act.put, List.setIfInBounds_toArray, List.set_cons_zero, List.set_cons_succ]
      refine wpAnyK_take (i := 5) [13] (v := ?v5) rfl (by kernel_rfl) (by kernel_rfl) (by kernel_rfl) (by kernel_rfl) (fun _ _ _ h => h) (Or.inl ⟨by rfl, ?hy5⟩) hH ?rest5
      case hy5 => (intro w hSw; (try dsimp only at hSw); go_simp; with_reducible rfl)
      try simp only [Act.put, List.setIfInBounds_toArray, List.set_cons_zero, List.set_cons_succ]
      refine wpAnyK_take (i := 6) [13] (v := ?v6) rfl (by kernel_rfl) (by kernel_rfl) (by kernel_rfl) (by kernel_rfl) (fun _ _ _ h => h) (Or.inl ⟨by rfl, ?hy6⟩) hH ?rest6
      case hy6 => (intro w hSw; (try dsimp only at hSw); go_simp; with_reducible rfl)
      try simp only [Act.put, List.setIfInBounds_toArray, List.set_cons_zero, List.set_cons_succ]
      refine wpAnyK_take (i := 7) [13] (v := ?v7) rfl (by kernel_rfl) (by kernel_rfl) (by kernel_rfl) (by kernel_rfl) (fun _ _ _ h => h) (Or.inl ⟨by rfl, ?hy7⟩) hH ?rest7
      case hy7 => (intro w hSw; (try dsimp only at hSw); go_simp; with_reducible rfl)
      try simp only [Act.put, List.setIfInBounds_toArray, List.set_cons_zero, List.set_cons_succ]
      refine wpAnyK_take (i := 10) [13] (v := ?v8) rfl (by kernel_rfl) (by kernel_rfl) (by kernel_rfl) (by kernel_rfl) (fun _ _ _ h => h) (Or.inl ⟨by rfl, ?hy8⟩) hH ?rest8
      case hy8 => (intro w hSw; (try dsimp only at hSw); go_simp; with_reducible rfl)
      try simp only [Act.put, List.setIfInBounds_toArray, List.set_cons_zero, List.set_cons_succ]
      refine wpAnyK_one (i := 4) (by kernel_rfl) rfl (fun K hK => ?_) (by kernel_rfl)
      go_simp
      go_at_call 28
      refine (hN1 _).mono ?_
      rintro e w5 ⟨rfl, hb5⟩
      have e0 := (hb5.cell (p := ⟨wr.heap.size, 0, none⟩) (World.block_lt_of_cell? _ _ kd0)).trans kd0
      have e2 := (hb5.cell (p := ⟨wr.heap.size, 2, none⟩) (World.block_lt_of_cell? _ _ kd2)).trans kd2
      have H5 := Lib.hid (H4.out.drew.trans (hb5.mono H4.out.size))
      clear hb5
      refine hK.out _ _ ⟨e0, e2⟩ (fun hH => ?_)
      clear hK K
      try simp only [Act.put, List.setIfInBounds_toArray, List.set_cons_zero, List.set_cons_succ]
      refine wpAnyK_one (i := 8) (by kernel_rfl) rfl (fun K hK => ?_) (by kernel_rfl)
      go_simp
      go_at_call 28
      refine (hN2 _).mono ?_
      rintro e w6 ⟨rfl, hb6⟩
      have f0 := (hb6.cell (p := ⟨wr.heap.size, 0, none⟩) (World.block_lt_of_cell? _ _ e0)).trans e0
      have f2 := (hb6.cell (p := ⟨wr.heap.size, 2, none⟩) (World.block_lt_of_cell? _ _ e2)).trans e2
      have H6 := Lib.hid (H5.out.trans (hb6.mono H5.out.size))
      clear hb6
      refine hK.out _ _ ⟨f0, f2⟩ (fun hH => ?_)
      clear hK K
      try simp only [Act.put, List.setIfInBounds_toArray, List.set_cons_zero, List.set_cons_succ]
      refine wpAnyK_take (i := 9) [13] (v := ?v9) rfl (by kernel_rfl) (by kernel_rfl) (by kernel_rfl) (by kernel_rfl) (fun _ _ _ h => h) (Or.inl ⟨by rfl, ?hy9⟩) hH ?rest9
      case hy9 => (intro w hSw; (try dsimp only at hSw); go_simp; with_reducible rfl)
      try simp only [Act.put, List.setIfInBounds_toArray, List.set_cons_zero, List.set_cons_succ]
      refine wpAnyK_take (i := 11) [13] (v := ?v10) rfl (by kernel_rfl) (by kernel_rfl) (by kernel_rfl) (by kernel_rfl) (fun _ _ _ h => h) (Or.inl ⟨by rfl, ?hy10⟩) hH ?rest10
      case hy10 => (intro w hSw; (try dsimp only at hSw); go_simp; with_reducible rfl)
      try simp only [Act.put, List.setIfInBounds_toArray, List.set_cons_zero, List.set_cons_succ]
      refine wpAnyK_take (i := 12) [13] (v := ?v11) rfl (by kernel_rfl) (by kernel_rfl) (by kernel_rfl) (by kernel_rfl) (fun _ _ _ h => h) (Or.inl ⟨by rfl, ?hy11⟩) hH ?rest11
      case hy11 => (intro w hSw; (try dsimp only at hSw); go_simp; with_reducible rfl)
      try simp only [Act.put, List.setIfInBounds_toArray, List.set_cons_zero, List.set_cons_succ]
      refine wpAnyK_last (by kernel_rfl) rfl (fun K hK => ?_) (by kernel_rfl)
      go_simp
      refine hK.out _ _ (wpAnyK_done (by kernel_rfl) ?_ _)
      clear hK K hH
      go_wp2_with fail
      go_roundw
      case rel =>
        refine ⟨i + 1, _, by omega, by go_num, rfl, ?_, HB.out.2.trans (H6.out.mono HB.out.2.size)⟩
        rw [HX.out.1, HB.out.1, HX.out.2.2.1, HX.out.2.2.2.1, HX.out.2.2.2.2, str_add, str_add, str_add]
        rfl
      case measure => simp [intOf]; omega
    · obtain rfl : i = n := by omega
      clear hLw hb
      go_wp2
      go_ret
      have hall : (L.map core).take i = (sortM m).map core := by rw [List.take_of_length_le (by rw [List.length_map, H2.out.2.1]; omega), H2.out.1]
      refine ⟨?_, H2.out.2.2.2.trans (HB.out.2.mono H2.out.2.2.2.size)⟩
      rw [HB.out.1, hall]
      rfl
end Go.Proofs.Ytmdhegmnfcodbaa
