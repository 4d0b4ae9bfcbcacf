import Derived.Test.YtjebpppjhkkebaaGreatDoorM29
import Derived.Test.YtjebpppjhkkebaaGreatDoorM4
/-
  Manifest: an edit laid.
-/
set_option linter.unusedSimpArgs false
set_option linter.unusedVariables false
namespace Go.Proofs.YtjebpppjhkkebaaGreatDoor
open Go.RowKit
variable {w w' : World}

/-- The box of an edit and the builder behind it. -/
def Ld (w wr : World) (u0 u1 u2 u3 u4 : Value) (X : List UInt8) : Prop := Lb w wr u0 u1 u2 u3 u4 ∧ BldAt (w.heap.size + 1) (w.heap.size + 1) (Lib.byteCells X) wr ∧ w.heap.size + 2 ≤ wr.heap.size
theorem Lb.belowB {wr wr' : World} {u0 u1 u2 u3 u4 : Value} (h : Lb w wr u0 u1 u2 u3 u4) (hb : Below (w.heap.size + 1) wr wr') : Lb w wr' u0 u1 u2 u3 u4 :=
  ⟨(hb.cell (p := ⟨w.heap.size, 0, none⟩) (Nat.lt_succ_self _)).trans h.a0, (hb.cell (p := ⟨w.heap.size, 1, none⟩) (Nat.lt_succ_self _)).trans h.a1, (hb.cell (p := ⟨w.heap.size, 2, none⟩) (Nat.lt_succ_self _)).trans h.a2, (hb.cell (p := ⟨w.heap.size, 3, none⟩) (Nat.lt_succ_self _)).trans h.a3, (hb.cell (p := ⟨w.heap.size, 4, none⟩) (Nat.lt_succ_self _)).trans h.a4,
   h.bel.trans (hb.mono (by omega)), Nat.le_trans h.sz hb.size⟩
theorem Ld.below {wr wr' : World} {u0 u1 u2 u3 u4 : Value} {X : List UInt8} (h : Ld w wr u0 u1 u2 u3 u4 X) (hb : Below wr.heap.size wr wr') : Ld w wr' u0 u1 u2 u3 u4 X :=
  ⟨h.1.below hb, bld_below h.2.1 hb, Nat.le_trans h.2.2 hb.size⟩
theorem str_cells2 (s : ByteArray) : Lib.strCells s = Lib.byteCells s.data.toList := str_cells s.data.toList
theorem ld_write {wr : World} {u0 u1 u2 u3 u4 : Value} {X : List UInt8} (h : Ld w wr u0 u1 u2 u3 u4 X) (s : ByteArray) (hl : X.length + s.size ≤ 140737488355328) :
    Calls Tryz.prog 61 #[.pointer (some ⟨w.heap.size + 1, 0, none⟩), .string s] wr fun e w' => e = .returned (.tuple #[.int .i64 s.size, .nilIface]) ∧ Ld w w' u0 u1 u2 u3 u4 (X ++ s.data.toList) := by
  refine (bld_text h.2.1 s (by rw [Lib.byteCells_length]; exact hl) (by have := h.2.2; omega)).mono ?_
  rintro e w' ⟨h1, h2, h3⟩
  rw [str_cells2, ← byte_app] at h2
  exact ⟨h1, h.1.belowB h3, h2, Nat.le_trans h.2.2 h3.size⟩
/-- The cells of a file's block. -/
structure FiB (w : World) (b : Nat) (u : Fi) : Prop where
  c0 : w.cell? ⟨b, 0, none⟩ = some (.int .i64 u.lv)
  c1 : w.cell? ⟨b, 1, none⟩ = some (.int .i64 u.nu)
  c2 : w.cell? ⟨b, 2, none⟩ = some (.int .i64 u.ct)
  c3 : w.cell? ⟨b, 3, none⟩ = some (.int .i64 u.sz)
  c4 : w.cell? ⟨b, 4, none⟩ = some (.string u.f)
  c5 : w.cell? ⟨b, 5, none⟩ = some (.string u.l)
theorem FiB.lt {b : Nat} {u : Fi} (h : FiB w b u) : b < w.heap.size := World.block_lt_of_cell? _ _ h.c0
theorem FiB.below {b : Nat} {u : Fi} (h : FiB w b u) (hb : Below w.heap.size w w') : FiB w' b u :=
  ⟨(hb.cell (p := ⟨b, 0, none⟩) h.lt).trans h.c0, (hb.cell (p := ⟨b, 1, none⟩) h.lt).trans h.c1, (hb.cell (p := ⟨b, 2, none⟩) h.lt).trans h.c2, (hb.cell (p := ⟨b, 3, none⟩) h.lt).trans h.c3, (hb.cell (p := ⟨b, 4, none⟩) h.lt).trans h.c4, (hb.cell (p := ⟨b, 5, none⟩) h.lt).trans h.c5⟩
theorem FiB.and {b : Nat} {u : Fi} (h : FiB w b u) : w.cell? ⟨b, 0, none⟩ = some (.int .i64 u.lv) ∧ w.cell? ⟨b, 1, none⟩ = some (.int .i64 u.nu) ∧ w.cell? ⟨b, 2, none⟩ = some (.int .i64 u.ct) ∧ w.cell? ⟨b, 3, none⟩ = some (.int .i64 u.sz) ∧ w.cell? ⟨b, 4, none⟩ = some (.string u.f) ∧ w.cell? ⟨b, 5, none⟩ = some (.string u.l) := ⟨h.c0, h.c1, h.c2, h.c3, h.c4, h.c5⟩
theorem FiB.made (w : World) (u : Fi) : FiB (w.alloc (.cells #[.int .i64 u.lv, .int .i64 u.nu, .int .i64 u.ct, .int .i64 u.sz, .string u.f, .string u.l] 54)) w.heap.size u := by
  refine ⟨?_, ?_, ?_, ?_, ?_, ?_⟩
  all_goals simp [go_sem]
/-- A text of bytes. -/
def Tx (s : ByteArray) (l : List UInt8) : Prop := s = ⟨l.toArray⟩
theorem Tx.add {a b : ByteArray} {l m : List UInt8} (h : Tx a l) (k : Tx b m) : Tx (a ++ b) (l ++ m) := by rw [h, k]; exact str_add l m
theorem Tx.list {a : ByteArray} {l : List UInt8} (h : Tx a l) : a.data.toList = l := by rw [h]
theorem Tx.size {a : ByteArray} {l : List UInt8} (h : Tx a l) : a.size = l.length := by rw [h]; exact size_arr l
theorem num_tx (v : Int) (w : World) (h0 : 0 ≤ v) (h1 : v < 9223372036854775808) : ∃ s, Tx s (numL v) ∧ s.size ≤ 9 ∧ ∀ w, Calls Tryz.prog 26 #[.int .i64 v] w fun e w' => e = .returned (.string s) ∧ Below w.heap.size w w' :=
  ⟨_, rfl, by rw [size_arr]; exact (numL_len v).2, fun w => mnum_any v w h0 h1⟩
theorem text_tx (s : ByteArray) (hs : s.size ≤ 100000) : ∃ t, Tx t (txtL s) ∧ t.size ≤ 9 + s.size ∧ ∀ w, Calls Tryz.prog 62 #[.string s] w fun e w' => e = .returned (.string t) ∧ Below w.heap.size w w' :=
  ⟨_, rfl, by rw [size_arr]; exact txtL_len s, fun w => mtext_any s (by omega) w⟩

set_option maxRecDepth 100000 in
set_option maxHeartbeats 8000000 in
theorem laid_any {w : World} {ev : Value} {e : PE} (he : EdV w ev e) (ok : LaidOk e) : Calls Tryz.prog 27 #[ev] w fun r w' => r = .returned (.string ⟨(laidL e).toArray⟩) ∧ Below w.heap.size w w' := by
  obtain ⟨xv, yv, mv, ov, rfl, he1, he2, he3, he4⟩ := he
  obtain ⟨xa, xc, rfl, _, _⟩ := he1.form
  obtain ⟨ya, yc, rfl, _, _⟩ := he2.form
  obtain ⟨ma, mc, rfl, _, _⟩ := he3.form
  obtain ⟨oa, oc, rfl, _, _⟩ := he4.form
  obtain ⟨xn, hxn⟩ : ∃ n, e.add.length = n := ⟨_, rfl⟩
  obtain ⟨yn, hyn⟩ : ∃ n, e.rem.length = n := ⟨_, rfl⟩
  obtain ⟨mn, hmn⟩ : ∃ n, e.fl.length = n := ⟨_, rfl⟩
  obtain ⟨on, hon⟩ : ∃ n, e.ns.length = n := ⟨_, rfl⟩
  rw [hxn] at he1 ⊢
  rw [hyn] at he2 ⊢
  rw [hmn] at he3 ⊢
  rw [hon] at he4 ⊢
  have hxn2 : xn ≤ 100000 := hxn ▸ ok.addn
  have hyn2 : yn ≤ 100000 := hyn ▸ ok.remn
  have hon2 : on ≤ 100000 := hon ▸ ok.nsn
  obtain ⟨sx, tx, zx, cx⟩ := num_tx (xn : Int) w (by omega) (by omega)
  obtain ⟨sy, ty, zy, cy⟩ := num_tx (yn : Int) w (by omega) (by omega)
  obtain ⟨so, to_, zo, co⟩ := num_tx (on : Int) w (by omega) (by omega)
  obtain ⟨sg, tg, zg, cg⟩ := num_tx e.log w ok.log.1 (by have := ok.log.2; omega)
  obtain ⟨sf, tf⟩ : ∃ s, Tx s (flL e.fl) := ⟨_, rfl⟩
  have zf : sf.size ≤ 49 := by rw [tf.size]; exact flL_len ok.fl
  obtain ⟨sh, th, zh, ch⟩ := text_tx sf (by omega)
  have cf : ∀ w', Below w.heap.size w w' → Calls Tryz.prog 63 #[.slice ma mn mc] w' fun r w'' => (∃ c, r = .returned (.tuple #[.string sf, .int .i64 c])) ∧ Below w'.heap.size w' w'' := fun w' hb => by
    rw [tf]
    exact putfl_any (rdz_rdi (he3.below hb)) ok.fl
  have HC := Lib.hid (And.intro cx (And.intro cy (And.intro co (And.intro cg (And.intro ch cf)))))
  have HT := Lib.hid (And.intro tx (And.intro ty (And.intro to_ (And.intro tg (And.intro tf th)))))
  have HX := Lib.hid (And.intro he1 hxn)
  have HY := Lib.hid (And.intro he2 hyn)
  have HO := Lib.hid (And.intro he4 hon)
  have HOK := Lib.hid ok
  clear he1 he2 he3 he4 ok hxn hyn hmn hon cx cy co cg ch cf tx ty to_ tg tf th
  obtain ⟨w1, hw1⟩ : ∃ w1, w.alloc (.cells #[.slice xa xn xc, .slice ya yn yc, .int .i64 e.log, .slice ma mn mc, .slice oa on oc] 40) = w1 := ⟨_, rfl⟩
  obtain ⟨w2, hw2⟩ : ∃ w2, w1.alloc (.cells #[.pointer none, .slice none 0 0] 104) = w2 := ⟨_, rfl⟩
  have hz1 : w1.heap.size = w.heap.size + 1 := by rw [← hw1]; simp
  have hz2 : w2.heap.size = w.heap.size + 2 := by rw [← hw2, ← hw1]; simp
  have h1 : Lb w w1 (.slice xa xn xc) (.slice ya yn yc) (.int .i64 e.log) (.slice ma mn mc) (.slice oa on oc) := by
    rw [← hw1]
    refine ⟨?_, ?_, ?_, ?_, ?_, (Below.refl _ _).alloc (Nat.le_refl _) _, by simp⟩
    all_goals simp [go_sem]
  have hb2 : BldAt (w.heap.size + 1) (w.heap.size + 1) (Lib.byteCells []) w2 := by rw [← hw2, ← hz1]; exact Lib.fresh_isBuilder _ _ w1
  have h2 : Ld w w2 (.slice xa xn xc) (.slice ya yn yc) (.int .i64 e.log) (.slice ma mn mc) (.slice oa on oc) [] := ⟨h1.below (by rw [← hw2]; exact (Below.refl _ _).alloc (Nat.le_refl _) _), hb2, by omega⟩
  have H2 := Lib.hid h2
  have a0 := h2.1.a0
  clear h1 hb2 h2 hz2
  go_enter Tryz.func27, Tryz.ntmps27
  go_wp2_with (first
    | (go_at_call 61; go_loud (refine (ld_write H3.out sx (by simp; omega)).mono ?_); rintro r w4 ⟨rfl, h4⟩; rw [HT.out.1.list] at h4; have H4 := Lib.hid h4; have b0 := h4.1.a0; clear h4)
    | (go_at_call 26; go_loud (refine (HC.out.1 _).mono ?_); rintro r w3 ⟨rfl, hb3⟩; have H3 := Lib.hid (H2.out.below hb3); clear hb3))
  clear a0 b0 hw1 hw2
  go_loopw [20] (fun y wr => ∃ i : Nat, i ≤ xn ∧ y = .int .i64 (i : Int) ∧ Ld w wr (.slice xa xn xc) (.slice ya yn yc) (.int .i64 e.log) (.slice ma mn mc) (.slice oa on oc) (numL (xn : Int) ++ (e.add.take i).flatMap fiL)) (fun y _ => xn - (intOf y).toNat)
  case atStart => exact ⟨0, by omega, rfl, by simpa using H4.out⟩
  case round =>
    obtain ⟨i, hi, rfl, hld⟩ := hrel
    have HL := Lib.hid hld
    by_cases hlt : i < xn
    · have hil : i < e.add.length := by rw [HX.out.2]; exact hlt
      obtain ⟨b, off, rfl, hbl, c0, c1, c2, c3, c4, c5⟩ := rdf_cells (HX.out.1.below hld.1.bel) hil
      have hv := HOK.out.add _ (List.getElem_mem hil)
      have htk := flat_take (f := fiL) hil
      have hlen : ((e.add.take i).flatMap fiL).length ≤ 1100 * 100000 := by
        refine Nat.le_trans (flat_le (K := 1100) _ (fun x hx => fiL_len (HOK.out.add x (List.mem_of_mem_take hx)))) ?_
        rw [List.length_take]
        exact Nat.mul_le_mul_left _ (by omega)
      obtain ⟨u, hu⟩ : ∃ u, e.add[i] = u := ⟨_, rfl⟩
      rw [hu] at c0 c1 c2 c3 c4 c5 hv htk
      have hva := valid_all hv
      obtain ⟨n0, p0, q0, d0⟩ := num_tx u.lv w hva.1.1 (by omega)
      obtain ⟨n1, p1, q1, d1⟩ := num_tx u.nu w (by omega) (by omega)
      obtain ⟨n2, p2, q2, d2⟩ := num_tx u.ct w (by omega) (by omega)
      obtain ⟨n3, p3, q3, d3⟩ := num_tx u.sz w (by omega) (by omega)
      obtain ⟨n4, p4, q4, d4⟩ := text_tx u.f (by omega)
      obtain ⟨n5, p5, q5, d5⟩ := text_tx u.l (by omega)
      have hnl := (numL_len (xn : Int)).2
      have hall : Tx (n0 ++ n1 ++ n2 ++ n3 ++ n4 ++ n5) (fiL u) := ((((p0.add p1).add p2).add p3).add p4).add p5
      have b1 : ¬ 9223372036854775807 < n0.size + n1.size := by omega
      have b2 : ¬ 9223372036854775807 < n0.size + n1.size + n2.size := by omega
      have b3 : ¬ 9223372036854775807 < n0.size + n1.size + n2.size + n3.size := by omega
      have b4 : ¬ 9223372036854775807 < n0.size + n1.size + n2.size + n3.size + n4.size := by omega
      have b5 : ¬ 9223372036854775807 < n0.size + n1.size + n2.size + n3.size + n4.size + n5.size := by omega
      have b2' : ¬ 9223372036854775807 < (n0 ++ n1).size + n2.size := by rw [ByteArray.size_append]; omega
      have b3' : ¬ 9223372036854775807 < (n0 ++ n1 ++ n2).size + n3.size := by simp only [ByteArray.size_append]; omega
      have b4' : ¬ 9223372036854775807 < (n0 ++ n1 ++ n2 ++ n3).size + n4.size := by simp only [ByteArray.size_append]; omega
      have b5' : ¬ 9223372036854775807 < (n0 ++ n1 ++ n2 ++ n3 ++ n4).size + n5.size := by simp only [ByteArray.size_append]; omega
      have hall2 : (n0 ++ n1 ++ n2 ++ n3 ++ n4 ++ n5).size ≤ 2000 := by simp only [ByteArray.size_append]; omega
      obtain ⟨w5, hw5⟩ : ∃ w5, wr.alloc (.cells #[.int .i64 u.lv, .int .i64 u.nu, .int .i64 u.ct, .int .i64 u.sz, .string u.f, .string u.l] 54) = w5 := ⟨_, rfl⟩
      have hb5 : Below wr.heap.size wr w5 := by rw [← hw5]; exact (Below.refl _ _).alloc (Nat.le_refl _) _
      have hf5 : FiB w5 wr.heap.size u := by rw [← hw5]; exact FiB.made wr u
      obtain ⟨ub, hub⟩ : ∃ ub, wr.heap.size = ub := ⟨_, rfl⟩
      rw [hub] at hf5
      have H5 := Lib.hid (And.intro (hld.below hb5) hf5)
      have HD := Lib.hid (And.intro d0 (And.intro d1 (And.intro d2 (And.intro d3 (And.intro d4 d5)))))
      have HN := Lib.hid (And.intro hall (And.intro hall2 (And.intro htk hlen)))
      have z0 : (i : Int) < (xn : Int) := by omega
      have z1 : (0 : Int) ≤ (i : Int) := by omega
      clear hld hb5 hf5 d0 d1 d2 d3 d4 d5 p0 p1 p2 p3 p4 p5 q0 q1 q2 q3 q4 q5 hall hall2 htk hlen hv hva hu hnl
      go_wp2
      refine wp_region_K (fun w' => w'.cell? ⟨ub, 0, none⟩ = some (.int .i64 u.lv) ∧ w'.cell? ⟨ub, 1, none⟩ = some (.int .i64 u.nu) ∧ w'.cell? ⟨ub, 2, none⟩ = some (.int .i64 u.ct) ∧ w'.cell? ⟨ub, 3, none⟩ = some (.int .i64 u.sz) ∧ w'.cell? ⟨ub, 4, none⟩ = some (.string u.f) ∧ w'.cell? ⟨ub, 5, none⟩ = some (.string u.l)) 23 24 (by kernel_rfl) (by kernel_rfl) (H5.out.2.below (Below.refl _ _).drew).and (fun hH => ?_)
      have H6 := Lib.hid (And.intro (H5.out.1.below (Below.refl _ _).drew) (H5.out.2.below (Below.refl _ _).drew))
      refine tkK (i := 0) [1, 2, 5, 9, 13, 17, 21, 23] rfl hH ?_
      try simp only [Act.put, tkA, tkB, tkC]
      refine tkK (i := 1) [2, 5, 9, 13, 17, 21, 23] rfl hH ?_
      try simp only [Act.put, tkA, tkB, tkC]
      refine tkK (i := 3) [4, 5, 9, 13, 17, 21, 23] rfl hH ?_
      try simp only [Act.put, tkA, tkB, tkC]
      refine tkK (i := 4) [5, 9, 13, 17, 21, 23] rfl hH ?_
      try simp only [Act.put, tkA, tkB, tkC]
      refine tkK (i := 7) [8, 9, 13, 17, 21, 23] rfl hH ?_
      try simp only [Act.put, tkA, tkB, tkC]
      refine tkK (i := 8) [9, 13, 17, 21, 23] rfl hH ?_
      try simp only [Act.put, tkA, tkB, tkC]
      refine tkK (i := 11) [12, 13, 17, 21, 23] rfl hH ?_
      try simp only [Act.put, tkA, tkB, tkC]
      refine tkK (i := 12) [13, 17, 21, 23] rfl hH ?_
      try simp only [Act.put, tkA, tkB, tkC]
      refine tkK (i := 15) [16, 17, 21, 23] rfl hH ?_
      try simp only [Act.put, tkA, tkB, tkC]
      refine tkK (i := 16) [17, 21, 23] rfl hH ?_
      try simp only [Act.put, tkA, tkB, tkC]
      refine tkK (i := 19) [20, 21, 23] rfl hH ?_
      try simp only [Act.put, tkA, tkB, tkC]
      refine tkK (i := 20) [21, 23] rfl hH ?_
      try simp only [Act.put, tkA, tkB, tkC]
      refine wpAnyK_one (i := 2) (by kernel_rfl) rfl (fun K hK => ?_) (by kernel_rfl)
      go_simp
      go_at_call 26
      refine (HD.out.1 _).mono ?_
      rintro r y7 ⟨rfl, hb⟩
      have H7 := Lib.hid (And.intro (H6.out.1.below hb) (H6.out.2.below hb))
      clear hb
      refine hK.out _ _ H7.out.2.and (fun hH => ?_)
      clear hK K
      try simp only [Act.put, tkA, tkB, tkC]
      refine wpAnyK_one (i := 5) (by kernel_rfl) rfl (fun K hK => ?_) (by kernel_rfl)
      go_simp
      go_at_call 26
      refine (HD.out.2.1 _).mono ?_
      rintro r y8 ⟨rfl, hb⟩
      have H8 := Lib.hid (And.intro (H7.out.1.below hb) (H7.out.2.below hb))
      clear hb
      refine hK.out _ _ H8.out.2.and (fun hH => ?_)
      clear hK K
      try simp only [Act.put, tkA, tkB, tkC]
      refine tkK (i := 6) [10, 14, 18, 22, 23] rfl hH ?_
      try simp only [Act.put, tkA, tkB, tkC]
      refine wpAnyK_one (i := 9) (by kernel_rfl) rfl (fun K hK => ?_) (by kernel_rfl)
      go_simp
      go_at_call 26
      refine (HD.out.2.2.1 _).mono ?_
      rintro r y9 ⟨rfl, hb⟩
      have H9 := Lib.hid (And.intro (H8.out.1.below hb) (H8.out.2.below hb))
      clear hb
      refine hK.out _ _ H9.out.2.and (fun hH => ?_)
      clear hK K
      try simp only [Act.put, tkA, tkB, tkC]
      refine tkK (i := 10) [14, 18, 22, 23] rfl hH ?_
      try simp only [Act.put, tkA, tkB, tkC]
      refine wpAnyK_one (i := 13) (by kernel_rfl) rfl (fun K hK => ?_) (by kernel_rfl)
      go_simp
      go_at_call 26
      refine (HD.out.2.2.2.1 _).mono ?_
      rintro r y10 ⟨rfl, hb⟩
      have H10 := Lib.hid (And.intro (H9.out.1.below hb) (H9.out.2.below hb))
      clear hb
      refine hK.out _ _ H10.out.2.and (fun hH => ?_)
      clear hK K
      try simp only [Act.put, tkA, tkB, tkC]
      refine tkK (i := 14) [18, 22, 23] rfl hH ?_
      try simp only [Act.put, tkA, tkB, tkC]
      refine wpAnyK_one (i := 17) (by kernel_rfl) rfl (fun K hK => ?_) (by kernel_rfl)
      go_simp
      go_at_call 62
      refine (HD.out.2.2.2.2.1 _).mono ?_
      rintro r y11 ⟨rfl, hb⟩
      have H11 := Lib.hid (And.intro (H10.out.1.below hb) (H10.out.2.below hb))
      clear hb
      refine hK.out _ _ H11.out.2.and (fun hH => ?_)
      clear hK K
      try simp only [Act.put, tkA, tkB, tkC]
      refine tkK (i := 18) [22, 23] rfl hH ?_
      try simp only [Act.put, tkA, tkB, tkC]
      refine wpAnyK_one (i := 21) (by kernel_rfl) rfl (fun K hK => ?_) (by kernel_rfl)
      go_simp
      go_at_call 62
      refine (HD.out.2.2.2.2.2 _).mono ?_
      rintro r y12 ⟨rfl, hb⟩
      have H12 := Lib.hid (And.intro (H11.out.1.below hb) (H11.out.2.below hb))
      clear hb
      refine hK.out _ _ H12.out.2.and (fun hH => ?_)
      clear hK K
      try simp only [Act.put, tkA, tkB, tkC]
      refine tkK (i := 22) [23] rfl hH ?_
      try simp only [Act.put, tkA, tkB, tkC]
      refine wpAnyK_last (by kernel_rfl) rfl (fun K hK => ?_) (by kernel_rfl)
      go_simp
      go_at_call 61
      refine (ld_write H12.out.1 _ (by have := HN.out.2.1; have := HN.out.2.2.2; have := (numL_len (xn : Int)).2; rw [List.length_append]; omega)).mono ?_
      rintro r w9 ⟨rfl, h9⟩
      rw [HN.out.1.list, List.append_assoc, ← HN.out.2.2.1] at h9
      have H9 := Lib.hid h9
      clear h9
      refine hK.out _ _ (wpAnyK_done (by kernel_rfl) ?_ _)
      clear hK K hH
      go_wp2
      go_roundw
      case rel => exact ⟨i + 1, by omega, by go_num, H9.out⟩
      case measure => simp [intOf]; omega
    · have hix : i = xn := by omega
      have z0 : ¬ (i : Int) < (xn : Int) := by omega
      have hfull : e.add.take i = e.add := by rw [hix, ← HX.out.2]; exact List.take_length
      rw [hfull] at HL
      obtain ⟨A1, hA1⟩ : ∃ A, numL (xn : Int) ++ e.add.flatMap fiL = A := ⟨_, rfl⟩
      have hl1 : A1.length ≤ 110000009 := by
        rw [← hA1, List.length_append]
        have h9 := flat_le (f := fiL) (K := 1100) e.add (fun x hx => fiL_len (HOK.out.add x hx))
        have := (numL_len (xn : Int)).2
        rw [HX.out.2] at h9
        omega
      rw [hA1] at HL
      have HA := Lib.hid hA1
      have a1 := HL.out.1.a1
      clear hld hA1 hfull
      go_wp2_with (first
        | (go_at_call 61; go_loud (refine (ld_write H6.out sy (by omega)).mono ?_); rintro r w7 ⟨rfl, h7⟩; rw [HT.out.2.1.list] at h7; have H7 := Lib.hid h7; have b1 := h7.1.a1; clear h7)
        | (go_at_call 26; go_loud (refine (HC.out.2.1 _).mono ?_); rintro r w6 ⟨rfl, hb6⟩; have H6 := Lib.hid (HL.out.below hb6); clear hb6))
      clear a1 b1
      go_loopw [7, 57] (fun _ y wr => ∃ j : Nat, j ≤ yn ∧ y = .int .i64 (j : Int) ∧ Ld w wr (.slice xa xn xc) (.slice ya yn yc) (.int .i64 e.log) (.slice ma mn mc) (.slice oa on oc) ((A1 ++ numL (yn : Int)) ++ (e.rem.take j).flatMap numL)) (fun _ y _ => yn - (intOf y).toNat)
      case atStart => exact ⟨0, by omega, rfl, by simpa using H7.out⟩
      case round =>
        obtain ⟨j, hj, rfl, hld⟩ := hrel
        have HK := Lib.hid hld
        by_cases hlj : j < yn
        · have hjl : j < e.rem.length := by rw [HY.out.2]; exact hlj
          obtain ⟨b, off, rfl, hbl, c0⟩ := rdz_at (HY.out.1.below hld.1.bel) hjl
          have hv := HOK.out.rem _ (List.getElem_mem hjl)
          have htk := flat_take (f := numL) hjl
          have hlen : ((e.rem.take j).flatMap numL).length ≤ 9 * 100000 := by
            refine Nat.le_trans (flat_le (K := 9) _ (fun x _ => (numL_len x).2)) ?_
            rw [List.length_take]
            exact Nat.mul_le_mul_left _ (by omega)
          obtain ⟨u, hu⟩ : ∃ u, e.rem[j] = u := ⟨_, rfl⟩
          rw [hu] at c0 hv htk
          obtain ⟨n0, p0, q0, d0⟩ := num_tx u w (by omega) (by omega)
          have HD := Lib.hid (And.intro d0 (And.intro p0 (And.intro q0 (And.intro htk hlen))))
          have y0 : (j : Int) < (yn : Int) := by omega
          have y1 : (0 : Int) ≤ (j : Int) := by omega
          clear hld d0 p0 q0 htk hlen hv hu
          go_wp2_with (first
            | (go_at_call 61; go_loud (refine (ld_write H8.out n0 (by have := HD.out.2.2.1; have := HD.out.2.2.2.2; have := (numL_len (yn : Int)).2; rw [List.length_append, List.length_append]; omega)).mono ?_); rintro r w9 ⟨rfl, h9⟩; rw [HD.out.2.1.list, List.append_assoc, ← HD.out.2.2.2.1] at h9; have H9 := Lib.hid h9; clear h9)
            | (go_at_call 26; go_loud (refine (HD.out.1 _).mono ?_); rintro r w8 ⟨rfl, hb8⟩; have H8 := Lib.hid (HK.out.below hb8); clear hb8))
          go_roundw
          case rel => exact ⟨j + 1, by omega, by go_num, H9.out⟩
          case measure => simp [intOf]; omega
        · have hjx : j = yn := by omega
          have y0 : ¬ (j : Int) < (yn : Int) := by omega
          have hfull : e.rem.take j = e.rem := by rw [hjx, ← HY.out.2]; exact List.take_length
          rw [hfull] at HK
          obtain ⟨A2, hA2⟩ : ∃ A, A1 ++ numL (yn : Int) ++ e.rem.flatMap numL = A := ⟨_, rfl⟩
          have hl2 : A2.length ≤ 120000009 := by
            rw [← hA2, List.length_append, List.length_append]
            have h9 := flat_le (f := numL) (K := 9) e.rem (fun x hx => (numL_len x).2)
            have := (numL_len (yn : Int)).2
            rw [HY.out.2] at h9
            omega
          rw [hA2] at HK
          have HA2 := Lib.hid hA2
          have a3 := HK.out.1.a3
          clear hld hA2 hfull
          go_wp2_with (go_at_call 63; go_loud (refine (HC.out.2.2.2.2.2 _ HK.out.1.bel).mono ?_); rintro r w8 ⟨⟨pc, rfl⟩, hb8⟩; have H8 := Lib.hid (HK.out.below hb8); clear hb8)
          clear a3
          have s1 : ¬ 9223372036854775807 < sg.size + sh.size := by omega
          have s2 : ¬ 9223372036854775807 < (sg ++ sh).size + so.size := by rw [ByteArray.size_append]; omega
          have s2' : ¬ 9223372036854775807 < sg.size + sh.size + so.size := by omega
          have hsz3 : (sg ++ sh ++ so).size ≤ 200 := by simp only [ByteArray.size_append]; omega
          have hD := H8.out.below (Below.refl _ _).drew
          refine wp_region_K (fun w' => w'.cell? ⟨w.heap.size, 2, none⟩ = some (.int .i64 e.log) ∧ w'.cell? ⟨w.heap.size, 4, none⟩ = some (.slice oa on oc)) 11 12 (by kernel_rfl) (by kernel_rfl) ⟨hD.1.a2, hD.1.a4⟩ (fun hH => ?_)
          have HR0 := Lib.hid hD
          clear hD
          refine tkK (i := 0) [1, 2, 4, 9, 11] rfl hH ?_
          try simp only [Act.put, tkA, tkB, tkC]
          refine tkK (i := 1) [2, 4, 9, 11] rfl hH ?_
          try simp only [Act.put, tkA, tkB, tkC]
          refine tkK (i := 3) [4, 9, 11] rfl hH ?_
          try simp only [Act.put, tkA, tkB, tkC]
          refine tkK (i := 6) [7, 8, 9, 11] rfl hH ?_
          try simp only [Act.put, tkA, tkB, tkC]
          refine tkK (i := 7) [8, 9, 11] rfl hH ?_
          try simp only [Act.put, tkA, tkB, tkC]
          refine tkK (i := 8) [9, 11] rfl hH ?_
          try simp only [Act.put, tkA, tkB, tkC]
          refine wpAnyK_one (i := 2) (by kernel_rfl) rfl (fun K hK => ?_) (by kernel_rfl)
          go_simp
          go_at_call 26
          refine (HC.out.2.2.2.1 _).mono ?_
          rintro r y1 ⟨rfl, hb⟩
          have HR1 := Lib.hid (HR0.out.below hb)
          clear hb
          refine hK.out _ _ ⟨HR1.out.1.a2, HR1.out.1.a4⟩ (fun hH => ?_)
          clear hK K
          try simp only [Act.put, tkA, tkB, tkC]
          refine wpAnyK_one (i := 4) (by kernel_rfl) rfl (fun K hK => ?_) (by kernel_rfl)
          go_simp
          go_at_call 62
          refine (HC.out.2.2.2.2.1 _).mono ?_
          rintro r y2 ⟨rfl, hb⟩
          have HR2 := Lib.hid (HR1.out.below hb)
          clear hb
          refine hK.out _ _ ⟨HR2.out.1.a2, HR2.out.1.a4⟩ (fun hH => ?_)
          clear hK K
          try simp only [Act.put, tkA, tkB, tkC]
          refine tkK (i := 5) [10, 11] rfl hH ?_
          try simp only [Act.put, tkA, tkB, tkC]
          refine wpAnyK_one (i := 9) (by kernel_rfl) rfl (fun K hK => ?_) (by kernel_rfl)
          go_simp
          go_at_call 26
          refine (HC.out.2.2.1 _).mono ?_
          rintro r y3 ⟨rfl, hb⟩
          have HR3 := Lib.hid (HR2.out.below hb)
          clear hb
          refine hK.out _ _ ⟨HR3.out.1.a2, HR3.out.1.a4⟩ (fun hH => ?_)
          clear hK K
          try simp only [Act.put, tkA, tkB, tkC]
          refine tkK (i := 10) [11] rfl hH ?_
          try simp only [Act.put, tkA, tkB, tkC]
          refine wpAnyK_last (by kernel_rfl) rfl (fun K hK => ?_) (by kernel_rfl)
          go_simp
          go_at_call 61
          refine (ld_write HR3.out _ (by omega)).mono ?_
          rintro r w9 ⟨rfl, h9⟩
          have hmid : Tx (sg ++ sh ++ so) (numL e.log ++ txtL sf ++ numL (on : Int)) := (HT.out.2.2.2.1.add HT.out.2.2.2.2.2).add HT.out.2.2.1
          rw [hmid.list] at h9
          have H9 := Lib.hid h9
          clear h9 hmid
          refine hK.out _ _ (wpAnyK_done (by kernel_rfl) ?_ _)
          clear hK K hH
          obtain ⟨A3, hA3⟩ : ∃ A, A2 ++ (numL e.log ++ txtL sf ++ numL (on : Int)) = A := ⟨_, rfl⟩
          have hl3 : A3.length ≤ 130000009 := by
            rw [← hA3, List.length_append, List.length_append, List.length_append]
            have h7 := (numL_len e.log).2
            have h8 := txtL_len sf
            have h9 := (numL_len (on : Int)).2
            omega
          rw [hA3] at H9
          obtain ⟨zq, hzq⟩ : ∃ z : Nat, (sg ++ sh ++ so).size = z := ⟨_, rfl⟩
          rw [hzq]
          clear hzq hsz3
          have HA3 := Lib.hid hA3
          have a4 := H9.out.1.a4
          clear hA3
          go_wp2
          clear a4
          go_loopw [11, 86] (fun _ y wr => ∃ k : Nat, k ≤ on ∧ y = .int .i64 (k : Int) ∧ Ld w wr (.slice xa xn xc) (.slice ya yn yc) (.int .i64 e.log) (.slice ma mn mc) (.slice oa on oc) (A3 ++ (e.ns.take k).flatMap ntL)) (fun _ y _ => on - (intOf y).toNat)
          case atStart => exact ⟨0, by omega, rfl, by simpa using H9.out⟩
          case round =>
            obtain ⟨k, hk, rfl, hld⟩ := hrel
            have HM := Lib.hid hld
            have hlen : ∀ k, ((e.ns.take k).flatMap ntL).length ≤ 20600 * 100000 := fun k => by
              refine Nat.le_trans (flat_le (K := 20600) _ (fun x hx => ?_)) ?_
              · have h1 := HOK.out.ns x (List.mem_of_mem_take hx)
                unfold ntL
                rw [List.length_append]
                have h2 := txtL_len x.1
                have h3 := txtL_len x.2
                omega
              · rw [List.length_take]
                exact Nat.mul_le_mul_left _ (by rw [HO.out.2]; omega)
            by_cases hlk : k < on
            · have hkl : k < e.ns.length := by rw [HO.out.2]; exact hlk
              obtain ⟨b, off, rfl, hbl, c0, c1⟩ := rdn_cells (HO.out.1.below hld.1.bel) hkl
              have hv := HOK.out.ns _ (List.getElem_mem hkl)
              have htk := flat_take (f := ntL) hkl
              have hlk2 := hlen k
              obtain ⟨u, hu⟩ : ∃ u, e.ns[k] = u := ⟨_, rfl⟩
              rw [hu] at c0 c1 hv htk
              obtain ⟨u1, u2⟩ := u
              simp only at c0 c1 hv
              obtain ⟨n4, p4, q4, d4⟩ := text_tx u1 (by omega)
              obtain ⟨n5, p5, q5, d5⟩ := text_tx u2 (by omega)
              have hall : Tx (n4 ++ n5) (ntL (u1, u2)) := p4.add p5
              have hall2 : (n4 ++ n5).size ≤ 30000 := by simp only [ByteArray.size_append]; omega
              have t1 : ¬ 9223372036854775807 < n4.size + n5.size := by omega
              obtain ⟨w5, hw5⟩ : ∃ w5, wr.alloc (.cells #[.string u1, .string u2] 47) = w5 := ⟨_, rfl⟩
              have hb5 : Below wr.heap.size wr w5 := by rw [← hw5]; exact (Below.refl _ _).alloc (Nat.le_refl _) _
              obtain ⟨ub, hub⟩ : ∃ ub, wr.heap.size = ub := ⟨_, rfl⟩
              have hp5 : w5.cell? ⟨ub, 0, none⟩ = some (.string u1) ∧ w5.cell? ⟨ub, 1, none⟩ = some (.string u2) := by rw [← hw5, ← hub]; constructor <;> simp [go_sem]
              have H5 := Lib.hid (And.intro (hld.below hb5) hp5)
              have HD := Lib.hid (And.intro d4 d5)
              have HN := Lib.hid (And.intro hall (And.intro hall2 (And.intro htk hlk2)))
              have x0 : (k : Int) < (on : Int) := by omega
              have x1 : (0 : Int) ≤ (k : Int) := by omega
              clear hld hb5 hp5 d4 d5 p4 p5 q4 q5 hall hall2 htk hlk2 hlen hv hu
              go_wp2
              refine wp_region_K (fun w' => w'.cell? ⟨ub, 0, none⟩ = some (.string u1) ∧ w'.cell? ⟨ub, 1, none⟩ = some (.string u2)) 7 8 (by kernel_rfl) (by kernel_rfl) H5.out.2 (fun hH => ?_)
              have HV0 := Lib.hid (And.intro (H5.out.1.below (Below.refl _ _).drew) hH)
              refine tkK (i := 0) [1, 2, 5, 7] rfl hH ?_
              try simp only [Act.put, tkA, tkB, tkC]
              refine tkK (i := 1) [2, 5, 7] rfl hH ?_
              try simp only [Act.put, tkA, tkB, tkC]
              refine tkK (i := 3) [4, 5, 7] rfl hH ?_
              try simp only [Act.put, tkA, tkB, tkC]
              refine tkK (i := 4) [5, 7] rfl hH ?_
              try simp only [Act.put, tkA, tkB, tkC]
              refine wpAnyK_one (i := 2) (by kernel_rfl) rfl (fun K hK => ?_) (by kernel_rfl)
              go_simp
              go_at_call 62
              refine (HD.out.1 _).mono ?_
              rintro r y1 ⟨rfl, hb⟩
              have HV1 := Lib.hid (And.intro (HV0.out.1.below hb) (And.intro ((hb.cell (p := ⟨ub, 0, none⟩) (World.block_lt_of_cell? _ _ HV0.out.2.1)).trans HV0.out.2.1) ((hb.cell (p := ⟨ub, 1, none⟩) (World.block_lt_of_cell? _ _ HV0.out.2.2)).trans HV0.out.2.2)))
              clear hb
              refine hK.out _ _ HV1.out.2 (fun hH => ?_)
              clear hK K
              try simp only [Act.put, tkA, tkB, tkC]
              refine wpAnyK_one (i := 5) (by kernel_rfl) rfl (fun K hK => ?_) (by kernel_rfl)
              go_simp
              go_at_call 62
              refine (HD.out.2 _).mono ?_
              rintro r y2 ⟨rfl, hb⟩
              have HV2 := Lib.hid (And.intro (HV1.out.1.below hb) (And.intro ((hb.cell (p := ⟨ub, 0, none⟩) (World.block_lt_of_cell? _ _ HV1.out.2.1)).trans HV1.out.2.1) ((hb.cell (p := ⟨ub, 1, none⟩) (World.block_lt_of_cell? _ _ HV1.out.2.2)).trans HV1.out.2.2)))
              clear hb
              refine hK.out _ _ HV2.out.2 (fun hH => ?_)
              clear hK K
              try simp only [Act.put, tkA, tkB, tkC]
              refine tkK (i := 6) [7] rfl hH ?_
              try simp only [Act.put, tkA, tkB, tkC]
              refine wpAnyK_last (by kernel_rfl) rfl (fun K hK => ?_) (by kernel_rfl)
              go_simp
              go_at_call 61
              refine (ld_write HV2.out.1 _ (by have := HN.out.2.1; have := HN.out.2.2.2; rw [List.length_append]; omega)).mono ?_
              rintro r w10 ⟨rfl, h10⟩
              rw [HN.out.1.list, List.append_assoc, ← HN.out.2.2.1] at h10
              have H10 := Lib.hid h10
              clear h10
              refine hK.out _ _ (wpAnyK_done (by kernel_rfl) ?_ _)
              clear hK K hH
              go_wp2
              go_roundw
              case rel => exact ⟨k + 1, by omega, by go_num, H10.out⟩
              case measure => simp [intOf]; omega
            · have hkx : k = on := by omega
              have x0 : ¬ (k : Int) < (on : Int) := by omega
              have hfull : e.ns.take k = e.ns := by rw [hkx, ← HO.out.2]; exact List.take_length
              rw [hfull] at HM
              clear hld hlen hfull
              go_wp2_with (go_at_call 64; go_loud (refine (bld_string HM.out.2.1 (by have := HM.out.2.2; omega)).mono ?_); rintro r w11 ⟨rfl, hb11⟩; have H11 := Lib.hid hb11; clear hb11)
              go_ret
              have hsf : txtL sf = numL (flL e.fl).length ++ flL e.fl := by
                unfold txtL
                rw [HT.out.2.2.2.2.1.list, HT.out.2.2.2.2.1.size]
              have heq : A3 ++ e.ns.flatMap ntL = laidL e := by
                rw [← HA3.out, ← HA2.out, ← HA.out, hsf]
                unfold laidL
                rw [HX.out.2, HY.out.2, HO.out.2]
              refine ⟨by rw [← heq]; rfl, HM.out.1.bel.trans (H11.out.mono (by omega))⟩
end Go.Proofs.YtjebpppjhkkebaaGreatDoor
/-
  Manifest: few, of an edit and a state without notes; a great record that is small.
-/
set_option linter.unusedSimpArgs false
set_option linter.unusedVariables false
namespace Go.Proofs.YtjebpppjhkkebaaGreatDoor
open Go.RowKit
variable {w w' w0 : World} {F F' G G' H : Nat → Prop} {B db mb lb mp mm : Nat} {D D' : Dk} {L L' : Lg} {dir : ByteArray} {s t : PS} {seq : Int} {stuck : Bool} {v : Value}

theorem load_ed {b : Nat} {x0 x1 x3 x4 : Value} {x2 : Int} (h0 : w.cell? ⟨b, 0, none⟩ = some x0) (h1 : w.cell? ⟨b, 1, none⟩ = some x1) (h2 : w.cell? ⟨b, 2, none⟩ = some (.int .i64 x2)) (h3 : w.cell? ⟨b, 3, none⟩ = some x3) (h4 : w.cell? ⟨b, 4, none⟩ = some x4) :
    (loadVar 40 ⟨b, 0, none⟩).run Tryz.prog w = .ok (.agg #[x0, x1, .int .i64 x2, x3, x4]) w := by
  simp [go_sem, loadVar, h0, h1, h2, h3, h4]
/-- The cells of an edit's block. -/
structure EdB (w : World) (b : Nat) (x0 x1 x2 x3 x4 : Value) : Prop where
  z0 : w.cell? ⟨b, 0, none⟩ = some x0
  z1 : w.cell? ⟨b, 1, none⟩ = some x1
  z2 : w.cell? ⟨b, 2, none⟩ = some x2
  z3 : w.cell? ⟨b, 3, none⟩ = some x3
  z4 : w.cell? ⟨b, 4, none⟩ = some x4
  zf : ∀ j, w.frozen? ⟨b, j, none⟩ = false
def FwAns (e : PE) (w : World) (r : Ending) (w' : World) : Prop := ∃ v, r = .returned v ∧ EdV w' v e ∧ Below w.heap.size w w'
set_option maxRecDepth 100000 in
set_option maxHeartbeats 4000000 in
theorem few_none {sv ev : Value} {e : PE} (hs : StV w sv s) (he : EdV w ev e) (hn : s.ns = []) (hm : e.ns = []) : Calls Tryz.prog 28 #[sv, ev] w (FwAns e w) := by
  obtain ⟨fv, lv, nv, rfl, hs1, hs2, hs3⟩ := hs
  obtain ⟨xv, yv, mv, ov, rfl, he1, he2, he3, he4⟩ := he
  rw [hn] at hs3
  rw [hm] at he4
  obtain ⟨xa, xc, rfl, _, _⟩ := he1.form
  obtain ⟨ya, yc, rfl, _, _⟩ := he2.form
  obtain ⟨ma, mc, rfl, _, _⟩ := he3.form
  obtain ⟨na, nc, rfl, _, _⟩ := hs3.form
  obtain ⟨oa, oc, rfl, _, _⟩ := he4.form
  obtain ⟨xn, hxn⟩ : ∃ n, e.add.length = n := ⟨_, rfl⟩
  obtain ⟨yn, hyn⟩ : ∃ n, e.rem.length = n := ⟨_, rfl⟩
  obtain ⟨mn, hmn⟩ : ∃ n, e.fl.length = n := ⟨_, rfl⟩
  rw [hxn] at he1 ⊢
  rw [hyn] at he2 ⊢
  rw [hmn] at he3 ⊢
  simp only [List.length_nil] at hs3 he4 ⊢
  have HE := Lib.hid (And.intro he1 (And.intro he2 (And.intro he3 hm)))
  clear hs1 hs2 hs3 he1 he2 he3 he4 hn hm hxn hyn hmn
  obtain ⟨w1, hw1⟩ : ∃ w1, w.alloc (.cells #[fv, .int .i64 s.next, .int .i64 s.log, lv, .slice na 0 nc] 30) = w1 := ⟨_, rfl⟩
  obtain ⟨w2, hw2⟩ : ∃ w2, w1.alloc (.cells #[.slice xa xn xc, .slice ya yn yc, .int .i64 e.log, .slice ma mn mc, .slice oa 0 oc] 40) = w2 := ⟨_, rfl⟩
  obtain ⟨w3, hw3⟩ : ∃ w3, w2.alloc (.cells #[.slice none 0 0, .slice none 0 0, .int .i64 0, .slice none 0 0, .slice none 0 0] 40) = w3 := ⟨_, rfl⟩
  obtain ⟨w4, hw4⟩ : ∃ w4, w3.alloc (.map #[] 0) = w4 := ⟨_, rfl⟩
  obtain ⟨w5, hw5⟩ : ∃ w5, w4.alloc (.map #[] 0) = w5 := ⟨_, rfl⟩
  have hz1 : w1.heap.size = w.heap.size + 1 := by rw [← hw1]; simp
  have hz2 : w2.heap.size = w.heap.size + 2 := by rw [← hw2, ← hw1]; simp
  have hz3 : w3.heap.size = w.heap.size + 3 := by rw [← hw3, ← hw2, ← hw1]; simp
  have hz4 : w4.heap.size = w.heap.size + 4 := by rw [← hw4, ← hw3, ← hw2, ← hw1]; simp
  have hz5 : w5.heap.size = w.heap.size + 5 := by rw [← hw5, ← hw4, ← hw3, ← hw2, ← hw1]; simp
  have hmk1 : (Instr.makeMap 111 none).run Tryz.prog w3 = .ok (.map (some (w.heap.size + 3))) w4 := by rw [← hw4, ← hz3]; rfl
  have hmk2 : (Instr.makeMap 111 none).run Tryz.prog w4 = .ok (.map (some (w.heap.size + 4))) w5 := by rw [← hw5, ← hz4]; rfl
  have hm5 : MapL ckN Value.string w5 (w.heap.size + 4) ([] : List KV) := by rw [← hw5, ← hz4]; exact MapL.made w4
  have hb5 : Below w.heap.size w w5 := by rw [← hw5, ← hw4, ← hw3, ← hw2, ← hw1]; exact (((((Below.refl _ _).alloc (Nat.le_refl _) _).alloc (by simp) _).alloc (by simp; omega) _).alloc (by simp; omega) _).alloc (by simp; omega) _
  have a4 : w5.cell? ⟨w.heap.size, 4, none⟩ = some (.slice na 0 nc) := by rw [← hw5, ← hw4, ← hw3, ← hw2, ← hw1]; simp [go_sem]
  have e0 : w5.cell? ⟨w.heap.size + 1, 0, none⟩ = some (.slice xa xn xc) := by rw [← hw5, ← hw4, ← hw3, ← hw2, ← hz1]; simp [go_sem]
  have e1 : w5.cell? ⟨w.heap.size + 1, 1, none⟩ = some (.slice ya yn yc) := by rw [← hw5, ← hw4, ← hw3, ← hw2, ← hz1]; simp [go_sem]
  have e2 : w5.cell? ⟨w.heap.size + 1, 2, none⟩ = some (.int .i64 e.log) := by rw [← hw5, ← hw4, ← hw3, ← hw2, ← hz1]; simp [go_sem]
  have e3 : w5.cell? ⟨w.heap.size + 1, 3, none⟩ = some (.slice ma mn mc) := by rw [← hw5, ← hw4, ← hw3, ← hw2, ← hz1]; simp [go_sem]
  have e4 : w5.cell? ⟨w.heap.size + 1, 4, none⟩ = some (.slice oa 0 oc) := by rw [← hw5, ← hw4, ← hw3, ← hw2, ← hz1]; simp [go_sem]
  have ff : ∀ j, w5.frozen? ⟨w.heap.size + 1, j, none⟩ = false := fun j => by rw [← hw5, ← hw4, ← hw3, ← hw2, ← hz1]; simp [go_sem]
  have r0 : w5.cell? ⟨w.heap.size + 2, 0, none⟩ = some (.slice none 0 0) := by rw [← hw5, ← hw4, ← hw3, ← hz2]; simp [go_sem]
  have r1 : w5.cell? ⟨w.heap.size + 2, 1, none⟩ = some (.slice none 0 0) := by rw [← hw5, ← hw4, ← hw3, ← hz2]; simp [go_sem]
  have r2 : w5.cell? ⟨w.heap.size + 2, 2, none⟩ = some (.int .i64 0) := by rw [← hw5, ← hw4, ← hw3, ← hz2]; simp [go_sem]
  have r3 : w5.cell? ⟨w.heap.size + 2, 3, none⟩ = some (.slice none 0 0) := by rw [← hw5, ← hw4, ← hw3, ← hz2]; simp [go_sem]
  have r4 : w5.cell? ⟨w.heap.size + 2, 4, none⟩ = some (.slice none 0 0) := by rw [← hw5, ← hw4, ← hw3, ← hz2]; simp [go_sem]
  have rf : ∀ j, w5.frozen? ⟨w.heap.size + 2, j, none⟩ = false := fun j => by rw [← hw5, ← hw4, ← hw3, ← hz2]; simp [go_sem]
  have H5 := Lib.hid (And.intro hm5 (And.intro hb5 hz5))
  clear hm5 hb5
  go_enter Tryz.func28, Tryz.ntmps28
  go_wp2
  clear hw1 hw2 hw3 hw4 hw5 hmk1 hmk2
  have HA := Lib.hid (And.intro (ObS.mk e0 e1 e2 e3 e4 ff : ObS w5 (w.heap.size + 1) _ _ _ _ _) (ObS.mk r0 r1 r2 r3 r4 rf : ObS w5 (w.heap.size + 2) _ _ _ _ _))
  go_loopw [19] (fun y wr => y = .int .i64 0 ∧ wr = w5) (fun _ _ => 0)
  case atStart => exact ⟨rfl, by first | rfl | trivial⟩
  case round =>
    obtain ⟨rfl, rfl⟩ := hrel
    go_wp2
    go_loopw [32] (fun y w7 => y = .int .i64 0 ∧ w7 = wr) (fun _ _ => 0)
    case atStart => exact ⟨rfl, by first | rfl | trivial⟩
    case round =>
      obtain ⟨rfl, rfl⟩ := hrel
      clear ff a4 e0 e1 e2 e3 e4 r0 r1 r2 r3 r4 rf
      obtain ⟨wd, hwd⟩ : ∃ wd, wd = wr := ⟨_, rfl⟩
      go_wp2_with (at_range; refine wpl_range rfl _ rfl und_mapN rfl (show MapV ckN Value.string _ (some (w.heap.size + 4)) [] from H5.out.1) ?_; intro w8 hr8 hb8 hz8; have H8 := Lib.hid (And.intro hr8 hb8); clear hr8 hb8)
      try go_frame
      go_loopw [11, 44] (fun o _ w9 => o = .slice none 0 0 ∧ RngV ckN Value.string w9 (some (w.heap.size + 4)) wr.heap.size ([] : List KV) [] ∧ Below wr.heap.size wr w9) (fun _ _ w9 => leftN w9 (some (w.heap.size + 4)) wr.heap.size)
      case atStart => exact ⟨rfl, H8.out.1, H8.out.2⟩
      case round =>
        obtain ⟨rfl, hr, hb⟩ := hrel
        have HR := Lib.hid (And.intro hr hb)
        have h1 := HA.out.1.below hb
        have h2 := HA.out.2.below hb
        have HB2 := Lib.hid (And.intro h1 h2)
        have e0 := h1.z0
        have e1 := h1.z1
        have e2 := h1.z2
        have e3 := h1.z3
        have e4 := h1.z4
        have g4 := h1.zf 4
        have r0 := h2.z0
        have r1 := h2.z1
        have r2 := h2.z2
        have r3 := h2.z3
        have r4 := h2.z4
        have q0 := h2.zf 0
        have q1 := h2.zf 1
        have q2 := h2.zf 2
        have q3 := h2.zf 3
        have q4 := h2.zf 4
        clear hr hb h1 h2
        go_wp2_with (at_next; refine wpl_next rfl _ rfl rfl HR.out.1 ?_ ?_)
        have hx := HB2.out.2.tn (w' := wr.setCell ⟨w.heap.size + 1, 4, none⟩ (.slice none 0 0)) tn_setS (show ¬ w.heap.size + 2 = w.heap.size + 1 by omega)
        have h6 := cells5 hx (y0 := .slice xa xn xc) (y1 := .slice ya yn yc) (y2 := .int .i64 e.log) (y3 := .slice ma mn mc) (y4 := .slice none 0 0)
        have hsw := H5.out.2.2
        have hbr := HR.out.2.size
        have hBel := (H5.out.2.1.trans (HR.out.2.mono (by omega))).trans ((tn_setS (w := wr) (b := w.heap.size + 1) (j := 4) (v := .slice none 0 0)).below (B := w.heap.size) (by omega) (fun q hq => by omega))
        have hBel2 := hBel.trans ((tn5 (w := wr.setCell ⟨w.heap.size + 1, 4, none⟩ (.slice none 0 0)) (b := w.heap.size + 2) (y0 := .slice xa xn xc) (y1 := .slice ya yn yc) (y2 := .int .i64 e.log) (y3 := .slice ma mn mc) (y4 := .slice none 0 0)).below (B := w.heap.size) (Nat.le_trans (by omega) hBel.size) (fun q hq => by omega))
        (try simp only [Exit.inBlock, Exit.then])
        refine bodyPost_ret (results_cell1 rfl rfl (load_ed h6.z0 h6.z1 h6.z2 h6.z3 h6.z4)) rfl ⟨_, rfl, ⟨_, _, _, _, rfl, HE.out.1.below hBel2, HE.out.2.1.below hBel2, HE.out.2.2.1.below hBel2, ?_⟩, hBel2⟩
        rw [HE.out.2.2.2]
        exact RdA.nil _
end Go.Proofs.YtjebpppjhkkebaaGreatDoor
