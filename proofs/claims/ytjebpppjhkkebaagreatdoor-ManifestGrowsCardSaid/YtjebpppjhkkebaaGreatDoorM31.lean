import Derived.Test.YtjebpppjhkkebaaGreatDoorM30
/-
  Manifest: a record of at most 100000 bytes, appended in one piece.
-/
set_option linter.unusedSimpArgs false
set_option linter.unusedVariables false
namespace Go.Proofs.YtjebpppjhkkebaaGreatDoor
open Go.RowKit
variable {w w' w0 : World} {F F' G G' H : Nat → Prop} {B db mb lb mp mm k : Nat} {D D' : Dk} {L L' : Lg} {S : List (Nat × Fl)} {dir r : ByteArray} {s t : PS} {q size seq : Int} {stuck : Bool} {v : Value}

abbrev wB : ByteArray := ⟨#[87]⟩
set_option maxRecDepth 100000 in
set_option maxHeartbeats 1000000 in
theorem cl_big (h : WS B w0 w F G db mb lb mp (dkF (dmap dir S none) q none k) L) (hd : nmB dir = true) (hd40 : dir.size ≤ 40) (hsz : size ≤ 524288) (hr : Run dir size L S) (r : ByteArray) (hrs : r.size ≤ 100000) (hk : k + 60 ≤ 1000000) (hS : S.length + 3 ≤ 20000) (hl : lastN S + 1 < 4294967296) (hlong : L.long ≤ 900000) :
    Calls Tryz.prog 25 #[.pointer (some ⟨lb, 0, none⟩), .string r] w fun e w' => ∃ c D' L' G' F', e = .returned (.int .i64 c) ∧ Appended dir size q L S (wB ++ r) k (c, D', L') ∧ WS B w0 w' F' G' db mb lb mp D' L' ∧ Step F F' w w' := by
  obtain ⟨w1, hw1⟩ : ∃ w1, w.alloc (.cells #[.int .u8 87] 5) = w1 := ⟨_, rfl⟩
  have hb1 : Below w.heap.size w w1 := by rw [← hw1]; exact (Below.refl _ _).alloc (Nat.le_refl _) _
  have c0 : w1.cell? ⟨w.heap.size, 0, none⟩ = some (.int .u8 87) := by rw [← hw1]; simp [go_sem]
  have hcv : (convert 101 9 (.slice (some ⟨w.heap.size, 0, none⟩) 1 1)).run Tryz.prog w1 = .ok (.string wB) w1 := by
    refine run_convert_bytes_back w1 101 9 5 ⟨w.heap.size, 0, none⟩ 1 [87] Tryz.underlying101 Tryz.underlying5 Tryz.underlying9 fun j hj => ?_
    obtain rfl : j = 0 := by simp at hj; omega
    exact c0
  have hA := cl_append (h.stay hb1) hd hd40 hsz hr (wB ++ r) (by rw [ByteArray.size_append]; show 1 + r.size ≤ _; omega) hk hS hl hlong
  have HA := Lib.hid (And.intro hA hb1)
  have hrz : (r.size : Int) ≤ 100000 := by omega
  have hrz2 : r.size ≤ 9223372036854775806 := by omega
  clear hA hb1 h hr hd
  go_enter Tryz.func25, Tryz.ntmps25
  go_wp2_with (go_at_call 59; refine HA.out.1.mono ?_; rintro e w2 ⟨c, D2, L2, G2, F2, rfl, h2⟩; have H2 := Lib.hid h2; clear h2)
  go_ret
  exact ⟨c, D2, L2, G2, F2, rfl, H2.out.1, H2.out.2.1, (Step.below HA.out.2).trans H2.out.2.2⟩
end Go.Proofs.YtjebpppjhkkebaaGreatDoor
/-
  Manifest: Commit of an edit without notes; a region that calls Apply and keeps its state.
-/
set_option linter.unusedSimpArgs false
set_option linter.unusedVariables false
namespace Go.Proofs.YtjebpppjhkkebaaGreatDoor
open Go.RowKit
variable {w w' w0 : World} {F F' G G' H : Nat → Prop} {B db mb lb mp mm k n : Nat} {D D' : Dk} {L L' : Lg} {S : List (Nat × Fl)} {dir dr : ByteArray} {s t : PS} {e : PE} {seq : Int} {stuck : Bool} {v : Value}

theorem cl_list (h : DkAt F w db mb D) (hon : D.on = true) (p : ByteArray) (hn : (D.list p).length = n) : Calls Tryz.prog 24 #[.pointer (some ⟨db, 0, none⟩), .string p] w fun e w' => ∃ a c, e = .returned (.slice a n c) ∧ Below w.heap.size w w' := by
  refine (list_any h hon p).mono ?_
  rintro e w' ⟨⟨v, rfl, ho⟩, hb⟩
  obtain ⟨a, c, rfl, _⟩ := row_form ho
  rw [hn]
  exact ⟨a, c, rfl, hb⟩
/-- What Apply answers, its slices in the open. -/
def AqAns (t : PS) (c : Int) (w : World) (r : Ending) (w' : World) : Prop :=
  ∃ fa fc la lc na nc, r = .returned (.tuple #[.agg #[.slice fa t.fs.length fc, .int .i64 t.next, .int .i64 t.log, .slice la t.fl.length lc, .slice na t.ns.length nc], .int .i64 c]) ∧
    Own eFi w' w.heap.size (.slice fa t.fs.length fc) t.fs ∧ Own eVec w' w.heap.size (.slice la t.fl.length lc) t.fl ∧ Own eNt w' w.heap.size (.slice na t.ns.length nc) t.ns ∧ Below w.heap.size w w'
theorem apply_aq {sv ev : Value} (hs : StV w sv s) (he : EdV w ev e) (hg : GoodS s) (ha : e.add.length ≤ 100000) (hr : e.rem.length ≤ 100000) (hl : e.fl.length ≤ 100000) (hn : e.ns.length ≤ 100000) :
    Calls Tryz.prog 15 #[sv, ev] w (AqAns (applyF s e).2 (applyF s e).1 w) := by
  refine (apply_any hs he hg ha hr hl hn).mono ?_
  rintro r w' ⟨hb, v, rfl, fv, lv, nv, rfl, o1, o2, o3⟩
  obtain ⟨fa, fc, rfl, _, _⟩ := row_form o1
  obtain ⟨la, lc, rfl, _, _⟩ := row_form o2
  obtain ⟨na, nc, rfl, _, _⟩ := row_form o3
  exact ⟨fa, fc, la, lc, na, nc, rfl, o1, o2, o3, hb⟩
/-- A state kept in a block of its own. -/
def CmAns (t : PS) (c : Int) (w : World) (y5 y6 : Value) (w' : World) : Prop :=
  Below w.heap.size w w' ∧ ∃ ob fa fc la lc na nc, y5 = .pointer (some ⟨ob, 0, none⟩) ∧ y6 = .int .i64 c ∧ w.heap.size ≤ ob ∧ ObS w' ob (.slice fa t.fs.length fc) (.int .i64 t.next) (.int .i64 t.log) (.slice la t.fl.length lc) (.slice na t.ns.length nc) ∧
    Own eFi w' w.heap.size (.slice fa t.fs.length fc) t.fs ∧ Own eVec w' w.heap.size (.slice la t.fl.length lc) t.fl ∧ Own eNt w' w.heap.size (.slice na t.ns.length nc) t.ns ∧
    (∀ q, (Value.slice fa t.fs.length fc).ownBlock = some q → q ≠ ob) ∧ (∀ q, (Value.slice la t.fl.length lc).ownBlock = some q → q ≠ ob) ∧ (∀ q, (Value.slice na t.ns.length nc).ownBlock = some q → q ≠ ob)
theorem cm_done {c : Int} {w1 w2 : World} {C ob : Nat} {fa la na : Option Addr} {fc lc nc : Nat} (hb : Below w1.heap.size w1 w2) (hz : ObZ w2 ob) (hob : w1.heap.size ≤ ob) (o1 : Own eFi w2 C (.slice fa t.fs.length fc) t.fs) (o2 : Own eVec w2 C (.slice la t.fl.length lc) t.fl) (o3 : Own eNt w2 C (.slice na t.ns.length nc) t.ns) (hC : w1.heap.size ≤ C)
    (n1 : ∀ q, (Value.slice fa t.fs.length fc).ownBlock = some q → q ≠ ob) (n2 : ∀ q, (Value.slice la t.fl.length lc).ownBlock = some q → q ≠ ob) (n3 : ∀ q, (Value.slice na t.ns.length nc).ownBlock = some q → q ≠ ob) :
    CmAns t c w1 (.pointer (some ⟨ob, 0, none⟩)) (.int .i64 c) (((((w2.setCell ⟨ob, 0, none⟩ (.slice fa t.fs.length fc)).setCell ⟨ob, 1, none⟩ (.int .i64 t.next)).setCell ⟨ob, 2, none⟩ (.int .i64 t.log)).setCell ⟨ob, 3, none⟩ (.slice la t.fl.length lc)).setCell ⟨ob, 4, none⟩ (.slice na t.ns.length nc)) :=
  ⟨hb.trans (tn5.below hb.size (fun q hq => by rw [hq]; exact hob)), ob, fa, fc, la, lc, na, nc, rfl, rfl, hob, cells5 (obZS hz), row_mono (tn5.row o1 (fun q hq => n1 q hq)) hC, row_mono (tn5.row o2 (fun q hq => n2 q hq)) hC, row_mono (tn5.row o3 (fun q hq => n3 q hq)) hC, n1, n2, n3⟩
theorem ObS.and {b : Nat} {x0 x1 x2 x3 x4 : Value} (h : ObS w b x0 x1 x2 x3 x4) : w.cell? ⟨b, 0, none⟩ = some x0 ∧ w.cell? ⟨b, 1, none⟩ = some x1 ∧ w.cell? ⟨b, 2, none⟩ = some x2 ∧ w.cell? ⟨b, 3, none⟩ = some x3 ∧ w.cell? ⟨b, 4, none⟩ = some x4 := ⟨h.z0, h.z1, h.z2, h.z3, h.z4⟩
/-- A manifest's block. -/
structure MmB (w : World) (mm db lb : Nat) (dir : ByteArray) (x3 x4 x5 x6 x7 : Value) (seq : Int) (stuck : Bool) : Prop where
  c0 : w.cell? ⟨mm, 0, none⟩ = some (.pointer (some ⟨db, 0, none⟩))
  c1 : w.cell? ⟨mm, 1, none⟩ = some (.string dir)
  c2 : w.cell? ⟨mm, 2, none⟩ = some (.pointer (some ⟨lb, 0, none⟩))
  c3 : w.cell? ⟨mm, 3, none⟩ = some x3
  c4 : w.cell? ⟨mm, 4, none⟩ = some x4
  c5 : w.cell? ⟨mm, 5, none⟩ = some x5
  c6 : w.cell? ⟨mm, 6, none⟩ = some x6
  c7 : w.cell? ⟨mm, 7, none⟩ = some x7
  c8 : w.cell? ⟨mm, 8, none⟩ = some (.int .i64 seq)
  c9 : w.cell? ⟨mm, 9, none⟩ = some (.bool stuck)
theorem MmB.tn {x3 x4 x5 x6 x7 : Value} (h : MmB w mm db lb dir x3 x4 x5 x6 x7 seq stuck) (t : Tn H w w') (hH : ¬ H mm) : MmB w' mm db lb dir x3 x4 x5 x6 x7 seq stuck :=
  ⟨t.cell h.c0 hH, t.cell h.c1 hH, t.cell h.c2 hH, t.cell h.c3 hH, t.cell h.c4 hH, t.cell h.c5 hH, t.cell h.c6 hH, t.cell h.c7 hH, t.cell h.c8 hH, t.cell h.c9 hH⟩
theorem MmB.below {x3 x4 x5 x6 x7 : Value} (h : MmB w mm db lb dir x3 x4 x5 x6 x7 seq stuck) (hb : Below w.heap.size w w') : MmB w' mm db lb dir x3 x4 x5 x6 x7 seq stuck := h.tn (Tn.ofBelow (F := fun _ => False) hb) (fun e => e)
theorem StX.go (h : StX (fun q => F q ∨ q = mm) w v s) (a : Step F F' w w') : StX (fun q => F' q ∨ q = mm) w' v s :=
  h.step a.t (fun q _ e => .inl e) (fun q e => e.elim (fun e => (a.n q e).imp .inl id) (fun e => .inl (.inr e)))
theorem ObS.tnH {b : Nat} {x0 x1 x2 x3 x4 : Value} (h : ObS w b x0 x1 x2 x3 x4) (t : Tn H w w') (hH : ¬ H b) : ObS w' b x0 x1 x2 x3 x4 :=
  ⟨t.cell h.z0 hH, t.cell h.z1 hH, t.cell h.z2 hH, t.cell h.z3 hH, t.cell h.z4 hH, fun j => (t.frozen (p := ⟨b, j, none⟩) h.lt hH).trans (h.zf j)⟩
/-- What a Commit leaves. -/
def CommitE (B : Nat) (w0 w : World) (F : Nat → Prop) (db mb lb mp mm : Nat) (dr dir : ByteArray) (t : PS) (seq : Int) (k0 : Nat) (S0 : List (Nat × Fl)) (r : Ending) (w' : World) : Prop :=
  r = .returned (.int .i64 0) ∧ ∃ F' G' S' k' L', MS B w0 w' F' G' db mb lb mp mm (dkF (dmap dr S' none) (-1) none k') L' dir t (seq + 1) false ∧ Run dr 4096 L' S' ∧ k' ≤ k0 + 4 ∧ S'.length ≤ S0.length + 1 ∧ Tn (fun q => F q ∨ q = mm) w w' ∧ ∀ q, F' q → F q ∨ w.heap.size ≤ q
set_option maxRecDepth 100000 in
set_option maxHeartbeats 8000000 in
theorem commit_ok {ev : Value} (h : MS B w0 w F G db mb lb mp mm (dkF (dmap dr S none) (-1) none k) L dir s seq false) (hdr : dir ++ ⟨#[47, 109]⟩ = dr) (hdz : dir.size ≤ 30) (hd : nmB dr = true) (hr : Run dr 4096 L S) (hls : ((dkF (dmap dr S none) (-1) none k).list dr).length = n) (hn17 : n < 17)
    (hg : GoodS s) (hseq : 0 ≤ seq ∧ seq ≤ 1000000) (hsn : s.ns = []) (hen : e.ns = []) (he : EdV w ev e) (ok : LaidOk e) (hfl : e.fl.length ≤ 100000) (hap : applyF s e = (0, t)) (hlz : (laidL e).length ≤ 90000) (hk : k + 70 ≤ 1000000) (hSl : S.length + 3 ≤ 20000) (hlN : lastN S + 1 < 4294967296) (hlong : L.long ≤ 900000) :
    Calls Tryz.prog 9 #[.pointer (some ⟨mm, 0, none⟩), ev] w (CommitE B w0 w F db mb lb mp mm dr dir t seq k S) := by
  have hd40 : dr.size ≤ 40 := by rw [← hdr, ByteArray.size_append]; show dir.size + 2 ≤ 40; omega
  have HE := Lib.hid he
  obtain ⟨xv, yv, mv, ov, rfl, he1, he2, he3, he4⟩ := he
  obtain ⟨xa, xc, rfl, _, _⟩ := he1.form
  obtain ⟨ya, yc, rfl, _, _⟩ := he2.form
  obtain ⟨ma, mc, rfl, _, _⟩ := he3.form
  obtain ⟨oa, oc, rfl, _, _⟩ := he4.form
  obtain ⟨xn, hxn⟩ : ∃ n, e.add.length = n := ⟨_, rfl⟩
  obtain ⟨yn, hyn⟩ : ∃ n, e.rem.length = n := ⟨_, rfl⟩
  obtain ⟨mn, hmn⟩ : ∃ n, e.fl.length = n := ⟨_, rfl⟩
  obtain ⟨on, hon⟩ : ∃ n, e.ns.length = n := ⟨_, rfl⟩
  have hq1 := ok.addn
  have hq2 := ok.remn
  have hq4 := ok.nsn
  rw [hxn, hyn, hmn, hon] at HE ⊢
  clear he1 he2 he3 he4
  obtain ⟨w1, hw1⟩ : ∃ w1, w.alloc (.cells #[.slice xa xn xc, .slice ya yn yc, .int .i64 e.log, .slice ma mn mc, .slice oa on oc] 40) = w1 := ⟨_, rfl⟩
  have hb1 : Below w.heap.size w w1 := by rw [← hw1]; exact (Below.refl _ _).alloc (Nat.le_refl _) _
  have hz1 : w1.heap.size = w.heap.size + 1 := by rw [← hw1]; simp
  have he1 : ObS w1 w.heap.size (.slice xa xn xc) (.slice ya yn yc) (.int .i64 e.log) (.slice ma mn mc) (.slice oa on oc) := by
    rw [← hw1]
    refine ⟨?_, ?_, ?_, ?_, ?_, fun j => ?_⟩
    all_goals simp [go_sem]
  have hM1 := h.stay hb1
  obtain ⟨fv, lv, nv, h3, h4, h5, h6, h7, hst⟩ := hM1.st
  have hmb : MmB w1 mm db lb dir fv (.int .i64 s.next) (.int .i64 s.log) lv nv seq false := ⟨hM1.c0, hM1.c1, hM1.c2, h3, h4, h5, h6, h7, hM1.c8, hM1.c9⟩
  have hap1 : ∀ y, Below w1.heap.size w1 y → Calls Tryz.prog 15 #[.agg #[fv, .int .i64 s.next, .int .i64 s.log, lv, nv], .agg #[.slice xa xn xc, .slice ya yn yc, .int .i64 e.log, .slice ma mn mc, .slice oa on oc]] y (AqAns t 0 y) := fun y hy => by
    have := apply_aq (hst.st.below hy) ((HE.out.below hb1).below hy) hg hq1 hq2 hfl hq4
    rw [hap] at this
    exact this
  have HAP := Lib.hid hap1
  have hno := mnone_at hM1.c0
  have HNO := Lib.hid hno
  have HM1 := Lib.hid hM1
  have HC1 := Lib.hid (And.intro hmb he1)
  have HST := Lib.hid hst
  have HB1 := Lib.hid hb1
  have HQ4 := Lib.hid (And.intro ok (And.intro hg (And.intro hap (And.intro hsn hen))))
  have HR := Lib.hid (And.intro hr (And.intro hd (And.intro hls hlz)))
  have c9 := hM1.c9
  have gm := h.nf
  have hltF := h.ws.d.d.lt
  have HLF := Lib.hid (And.intro hltF gm)
  have hml := h.lt
  clear hap1 hno hM1 hmb he1 hst hb1 ok hg hap hsn hen hr hls hlz h3 h4 h5 h6 h7 h hq1 hq2 hq4 hxn hyn hmn hon hfl hltF gm
  go_enter Tryz.func9, Tryz.ntmps9
  go_upto_region 5 with (go_at_call 23; go_loud (refine HNO.out.mono ?_); rintro r w2 ⟨rfl, rfl⟩)
  clear c9 hw1
  go_cut [5, 6] (fun y5 y6 wx => CmAns t 0 w1 y5 y6 wx)
  case first =>
    refine wp_region_K (fun w' => w'.cell? ⟨mm, 3, none⟩ = some fv ∧ w'.cell? ⟨mm, 4, none⟩ = some (.int .i64 s.next) ∧ w'.cell? ⟨mm, 5, none⟩ = some (.int .i64 s.log) ∧ w'.cell? ⟨mm, 6, none⟩ = some lv ∧ w'.cell? ⟨mm, 7, none⟩ = some nv ∧ w'.cell? ⟨w.heap.size, 0, none⟩ = some (.slice xa xn xc) ∧ w'.cell? ⟨w.heap.size, 1, none⟩ = some (.slice ya yn yc) ∧ w'.cell? ⟨w.heap.size, 2, none⟩ = some (.int .i64 e.log) ∧ w'.cell? ⟨w.heap.size, 3, none⟩ = some (.slice ma mn mc) ∧ w'.cell? ⟨w.heap.size, 4, none⟩ = some (.slice oa on oc)) 11 12 (by kernel_rfl) (by kernel_rfl) ⟨(HC1.out.1.below (Below.refl _ _).drew).c3, (HC1.out.1.below (Below.refl _ _).drew).c4, (HC1.out.1.below (Below.refl _ _).drew).c5, (HC1.out.1.below (Below.refl _ _).drew).c6, (HC1.out.1.below (Below.refl _ _).drew).c7, (HC1.out.2.below (Below.refl _ _).drew).and⟩ (fun hH => ?_)
    refine tkK (i := 0) [11] rfl hH ?_
    try simp only [Act.put, tkA, tkB, tkC]
    refine tkK (i := 1) [11] rfl hH ?_
    try simp only [Act.put, tkA, tkB, tkC]
    refine tkK (i := 2) [11] rfl hH ?_
    try simp only [Act.put, tkA, tkB, tkC]
    refine tkK (i := 3) [11] rfl hH ?_
    try simp only [Act.put, tkA, tkB, tkC]
    refine tkK (i := 4) [11] rfl hH ?_
    try simp only [Act.put, tkA, tkB, tkC]
    obtain ⟨wz, hwz⟩ : ∃ wz, w1.drew = wz := ⟨_, rfl⟩
    have hz0 : Below w1.heap.size w1 wz := by rw [← hwz]; exact (Below.refl _ _).drew
    have hz1 : wz.heap.size = w1.heap.size := by rw [← hwz]; rfl
    rw [hwz] at hH ⊢
    have HZ0 := Lib.hid (And.intro hz0 hz1)
    clear hwz hz0 hz1
    refine wpAnyK_all (rs := [5, 9]) (by kernel_rfl) (by simp) (fun i hi => ?_)
    rcases List.mem_cons.1 hi with rfl | hi2
    · refine wpOp_K rfl (fun K hK => ?_) (by kernel_rfl)
      go_simp
      go_at_call 15
      refine (HAP.out _ HZ0.out.1).mono ?_
      rintro r w5 ⟨fa, fc, la, lc, na, nc, rfl, o1, o2, o3, hb⟩
      have HO := Lib.hid (And.intro o1 (And.intro o2 (And.intro o3 hb)))
      clear o1 o2 o3 hb
      refine hK.out _ _ ⟨(HC1.out.1.below (HZ0.out.1.trans (HO.out.2.2.2.mono HZ0.out.1.size))).c3, (HC1.out.1.below (HZ0.out.1.trans (HO.out.2.2.2.mono HZ0.out.1.size))).c4, (HC1.out.1.below (HZ0.out.1.trans (HO.out.2.2.2.mono HZ0.out.1.size))).c5, (HC1.out.1.below (HZ0.out.1.trans (HO.out.2.2.2.mono HZ0.out.1.size))).c6, (HC1.out.1.below (HZ0.out.1.trans (HO.out.2.2.2.mono HZ0.out.1.size))).c7, (HC1.out.2.below (HZ0.out.1.trans (HO.out.2.2.2.mono HZ0.out.1.size))).and⟩ (fun hH => ?_)
      clear hK K
      try simp only [Act.put, tkA, tkB, tkC]
      refine tkK (i := 6) [11] rfl hH ?_
      try simp only [Act.put, tkA, tkB, tkC]
      refine tkK (i := 7) [11] rfl hH ?_
      try simp only [Act.put, tkA, tkB, tkC]
      refine tkK (i := 8) [11] rfl hH ?_
      try simp only [Act.put, tkA, tkB, tkC]
      refine wpAnyK_one (i := 9) (by kernel_rfl) rfl (fun K hK => ?_) (by kernel_rfl)
      go_simp
      obtain ⟨ob, hob⟩ : ∃ k, w5.heap.size = k := ⟨_, rfl⟩
      rw [hob]
      obtain ⟨wb, hwb⟩ : ∃ wb, w5.alloc (.cells #[.slice none 0 0, .int .i64 0, .int .i64 0, .slice none 0 0, .slice none 0 0] 30) = wb := ⟨_, rfl⟩
      rw [hwb]
      have hbb : Below w5.heap.size w5 wb := by rw [← hwb]; exact (Below.refl _ _).alloc (Nat.le_refl _) _
      have hoz : ObZ wb ob := by rw [← hob, ← hwb]; exact ObZ.made _
      have HB := Lib.hid (And.intro hbb (And.intro hoz hob))
      clear hbb hoz hob hwb
      refine hK.out _ _ ⟨(HC1.out.1.below ((HZ0.out.1.trans (HO.out.2.2.2.mono HZ0.out.1.size)).trans (HB.out.1.mono (HZ0.out.1.trans (HO.out.2.2.2.mono HZ0.out.1.size)).size))).c3, (HC1.out.1.below ((HZ0.out.1.trans (HO.out.2.2.2.mono HZ0.out.1.size)).trans (HB.out.1.mono (HZ0.out.1.trans (HO.out.2.2.2.mono HZ0.out.1.size)).size))).c4, (HC1.out.1.below ((HZ0.out.1.trans (HO.out.2.2.2.mono HZ0.out.1.size)).trans (HB.out.1.mono (HZ0.out.1.trans (HO.out.2.2.2.mono HZ0.out.1.size)).size))).c5, (HC1.out.1.below ((HZ0.out.1.trans (HO.out.2.2.2.mono HZ0.out.1.size)).trans (HB.out.1.mono (HZ0.out.1.trans (HO.out.2.2.2.mono HZ0.out.1.size)).size))).c6, (HC1.out.1.below ((HZ0.out.1.trans (HO.out.2.2.2.mono HZ0.out.1.size)).trans (HB.out.1.mono (HZ0.out.1.trans (HO.out.2.2.2.mono HZ0.out.1.size)).size))).c7, (HC1.out.2.below ((HZ0.out.1.trans (HO.out.2.2.2.mono HZ0.out.1.size)).trans (HB.out.1.mono (HZ0.out.1.trans (HO.out.2.2.2.mono HZ0.out.1.size)).size))).and⟩ (fun hH => ?_)
      clear hK K
      try simp only [Act.put, tkA, tkB, tkC]
      have hoz : ObZ wb ob := HB.out.2.1
      have z0 := hoz.z0
      have z1 := hoz.z1
      have z2 := hoz.z2
      have z3 := hoz.z3
      have z4 := hoz.z4
      have f0 := hoz.zf 0
      have f1 := hoz.zf 1
      have f2 := hoz.zf 2
      have f3 := hoz.zf 3
      have f4 := hoz.zf 4
      have HQ := Lib.hid hoz
      clear hoz
      refine wpAnyK_one (i := 10) (by kernel_rfl) rfl (fun K hK => ?_) (by kernel_rfl)
      go_simp
      refine hK.out _ _ ⟨(HC1.out.1.below (((HZ0.out.1.trans (HO.out.2.2.2.mono HZ0.out.1.size)).trans (HB.out.1.mono (HZ0.out.1.trans (HO.out.2.2.2.mono HZ0.out.1.size)).size)).trans (tn5.below ((HZ0.out.1.trans (HO.out.2.2.2.mono HZ0.out.1.size)).trans (HB.out.1.mono (HZ0.out.1.trans (HO.out.2.2.2.mono HZ0.out.1.size)).size)).size (fun q hq => by rw [hq, ← HB.out.2.2]; exact (HZ0.out.1.trans (HO.out.2.2.2.mono HZ0.out.1.size)).size)))).c3, (HC1.out.1.below (((HZ0.out.1.trans (HO.out.2.2.2.mono HZ0.out.1.size)).trans (HB.out.1.mono (HZ0.out.1.trans (HO.out.2.2.2.mono HZ0.out.1.size)).size)).trans (tn5.below ((HZ0.out.1.trans (HO.out.2.2.2.mono HZ0.out.1.size)).trans (HB.out.1.mono (HZ0.out.1.trans (HO.out.2.2.2.mono HZ0.out.1.size)).size)).size (fun q hq => by rw [hq, ← HB.out.2.2]; exact (HZ0.out.1.trans (HO.out.2.2.2.mono HZ0.out.1.size)).size)))).c4, (HC1.out.1.below (((HZ0.out.1.trans (HO.out.2.2.2.mono HZ0.out.1.size)).trans (HB.out.1.mono (HZ0.out.1.trans (HO.out.2.2.2.mono HZ0.out.1.size)).size)).trans (tn5.below ((HZ0.out.1.trans (HO.out.2.2.2.mono HZ0.out.1.size)).trans (HB.out.1.mono (HZ0.out.1.trans (HO.out.2.2.2.mono HZ0.out.1.size)).size)).size (fun q hq => by rw [hq, ← HB.out.2.2]; exact (HZ0.out.1.trans (HO.out.2.2.2.mono HZ0.out.1.size)).size)))).c5, (HC1.out.1.below (((HZ0.out.1.trans (HO.out.2.2.2.mono HZ0.out.1.size)).trans (HB.out.1.mono (HZ0.out.1.trans (HO.out.2.2.2.mono HZ0.out.1.size)).size)).trans (tn5.below ((HZ0.out.1.trans (HO.out.2.2.2.mono HZ0.out.1.size)).trans (HB.out.1.mono (HZ0.out.1.trans (HO.out.2.2.2.mono HZ0.out.1.size)).size)).size (fun q hq => by rw [hq, ← HB.out.2.2]; exact (HZ0.out.1.trans (HO.out.2.2.2.mono HZ0.out.1.size)).size)))).c6, (HC1.out.1.below (((HZ0.out.1.trans (HO.out.2.2.2.mono HZ0.out.1.size)).trans (HB.out.1.mono (HZ0.out.1.trans (HO.out.2.2.2.mono HZ0.out.1.size)).size)).trans (tn5.below ((HZ0.out.1.trans (HO.out.2.2.2.mono HZ0.out.1.size)).trans (HB.out.1.mono (HZ0.out.1.trans (HO.out.2.2.2.mono HZ0.out.1.size)).size)).size (fun q hq => by rw [hq, ← HB.out.2.2]; exact (HZ0.out.1.trans (HO.out.2.2.2.mono HZ0.out.1.size)).size)))).c7, (HC1.out.2.below (((HZ0.out.1.trans (HO.out.2.2.2.mono HZ0.out.1.size)).trans (HB.out.1.mono (HZ0.out.1.trans (HO.out.2.2.2.mono HZ0.out.1.size)).size)).trans (tn5.below ((HZ0.out.1.trans (HO.out.2.2.2.mono HZ0.out.1.size)).trans (HB.out.1.mono (HZ0.out.1.trans (HO.out.2.2.2.mono HZ0.out.1.size)).size)).size (fun q hq => by rw [hq, ← HB.out.2.2]; exact (HZ0.out.1.trans (HO.out.2.2.2.mono HZ0.out.1.size)).size)))).and⟩ (fun hH => ?_)
      clear hK K
      try simp only [Act.put, tkA, tkB, tkC]
      refine wpAnyK_last (by kernel_rfl) rfl (fun K hK => ?_) (by kernel_rfl)
      go_simp
      refine hK.out _ _ (wpAnyK_done (by kernel_rfl) ?_ _)
      clear hK K hH
      go_wp2_with fail
      go_meet
      case rel => exact cm_done ((HZ0.out.1.trans (HO.out.2.2.2.mono HZ0.out.1.size)).trans (HB.out.1.mono (HZ0.out.1.trans (HO.out.2.2.2.mono HZ0.out.1.size)).size)) HQ.out (by rw [← HB.out.2.2]; exact (HZ0.out.1.trans (HO.out.2.2.2.mono HZ0.out.1.size)).size) (row_below HO.out.1 HB.out.1) (row_below HO.out.2.1 HB.out.1) (row_below HO.out.2.2.1 HB.out.1) HZ0.out.1.size (fun q hq => by have := (HO.out.1.lt q hq).2; have := HB.out.2.2; omega) (fun q hq => by have := (HO.out.2.1.lt q hq).2; have := HB.out.2.2; omega) (fun q hq => by have := (HO.out.2.2.1.lt q hq).2; have := HB.out.2.2; omega)
    · obtain rfl := List.mem_singleton.1 hi2
      refine wpOp_K rfl (fun K hK => ?_) (by kernel_rfl)
      go_simp
      obtain ⟨ob, hob⟩ : ∃ k, wz.heap.size = k := ⟨_, rfl⟩
      rw [hob]
      obtain ⟨wb, hwb⟩ : ∃ wb, wz.alloc (.cells #[.slice none 0 0, .int .i64 0, .int .i64 0, .slice none 0 0, .slice none 0 0] 30) = wb := ⟨_, rfl⟩
      rw [hwb]
      have hbb : Below wz.heap.size wz wb := by rw [← hwb]; exact (Below.refl _ _).alloc (Nat.le_refl _) _
      have hoz : ObZ wb ob := by rw [← hob, ← hwb]; exact ObZ.made _
      have HB := Lib.hid (And.intro hbb (And.intro hoz hob))
      clear hbb hoz hob hwb
      refine hK.out _ _ ⟨(HC1.out.1.below (HZ0.out.1.trans (HB.out.1.mono HZ0.out.1.size))).c3, (HC1.out.1.below (HZ0.out.1.trans (HB.out.1.mono HZ0.out.1.size))).c4, (HC1.out.1.below (HZ0.out.1.trans (HB.out.1.mono HZ0.out.1.size))).c5, (HC1.out.1.below (HZ0.out.1.trans (HB.out.1.mono HZ0.out.1.size))).c6, (HC1.out.1.below (HZ0.out.1.trans (HB.out.1.mono HZ0.out.1.size))).c7, (HC1.out.2.below (HZ0.out.1.trans (HB.out.1.mono HZ0.out.1.size))).and⟩ (fun hH => ?_)
      clear hK K
      try simp only [Act.put, tkA, tkB, tkC]
      refine wpAnyK_one (i := 5) (by kernel_rfl) rfl (fun K hK => ?_) (by kernel_rfl)
      go_simp
      go_at_call 15
      refine (HAP.out _ (HZ0.out.1.trans (HB.out.1.mono HZ0.out.1.size))).mono ?_
      rintro r w5 ⟨fa, fc, la, lc, na, nc, rfl, o1, o2, o3, hb⟩
      have HO := Lib.hid (And.intro o1 (And.intro o2 (And.intro o3 hb)))
      clear o1 o2 o3 hb
      refine hK.out _ _ ⟨(HC1.out.1.below ((HZ0.out.1.trans (HB.out.1.mono HZ0.out.1.size)).trans (HO.out.2.2.2.mono (HZ0.out.1.trans (HB.out.1.mono HZ0.out.1.size)).size))).c3, (HC1.out.1.below ((HZ0.out.1.trans (HB.out.1.mono HZ0.out.1.size)).trans (HO.out.2.2.2.mono (HZ0.out.1.trans (HB.out.1.mono HZ0.out.1.size)).size))).c4, (HC1.out.1.below ((HZ0.out.1.trans (HB.out.1.mono HZ0.out.1.size)).trans (HO.out.2.2.2.mono (HZ0.out.1.trans (HB.out.1.mono HZ0.out.1.size)).size))).c5, (HC1.out.1.below ((HZ0.out.1.trans (HB.out.1.mono HZ0.out.1.size)).trans (HO.out.2.2.2.mono (HZ0.out.1.trans (HB.out.1.mono HZ0.out.1.size)).size))).c6, (HC1.out.1.below ((HZ0.out.1.trans (HB.out.1.mono HZ0.out.1.size)).trans (HO.out.2.2.2.mono (HZ0.out.1.trans (HB.out.1.mono HZ0.out.1.size)).size))).c7, (HC1.out.2.below ((HZ0.out.1.trans (HB.out.1.mono HZ0.out.1.size)).trans (HO.out.2.2.2.mono (HZ0.out.1.trans (HB.out.1.mono HZ0.out.1.size)).size))).and⟩ (fun hH => ?_)
      clear hK K
      try simp only [Act.put, tkA, tkB, tkC]
      refine tkK (i := 6) [11] rfl hH ?_
      try simp only [Act.put, tkA, tkB, tkC]
      refine tkK (i := 7) [11] rfl hH ?_
      try simp only [Act.put, tkA, tkB, tkC]
      refine tkK (i := 8) [11] rfl hH ?_
      try simp only [Act.put, tkA, tkB, tkC]
      have hoz : ObZ w5 ob := HB.out.2.1.below HO.out.2.2.2
      have z0 := hoz.z0
      have z1 := hoz.z1
      have z2 := hoz.z2
      have z3 := hoz.z3
      have z4 := hoz.z4
      have f0 := hoz.zf 0
      have f1 := hoz.zf 1
      have f2 := hoz.zf 2
      have f3 := hoz.zf 3
      have f4 := hoz.zf 4
      have HQ := Lib.hid hoz
      clear hoz
      refine wpAnyK_one (i := 10) (by kernel_rfl) rfl (fun K hK => ?_) (by kernel_rfl)
      go_simp
      refine hK.out _ _ ⟨(HC1.out.1.below (((HZ0.out.1.trans (HB.out.1.mono HZ0.out.1.size)).trans (HO.out.2.2.2.mono (HZ0.out.1.trans (HB.out.1.mono HZ0.out.1.size)).size)).trans (tn5.below ((HZ0.out.1.trans (HB.out.1.mono HZ0.out.1.size)).trans (HO.out.2.2.2.mono (HZ0.out.1.trans (HB.out.1.mono HZ0.out.1.size)).size)).size (fun q hq => by rw [hq, ← HB.out.2.2]; exact HZ0.out.1.size)))).c3, (HC1.out.1.below (((HZ0.out.1.trans (HB.out.1.mono HZ0.out.1.size)).trans (HO.out.2.2.2.mono (HZ0.out.1.trans (HB.out.1.mono HZ0.out.1.size)).size)).trans (tn5.below ((HZ0.out.1.trans (HB.out.1.mono HZ0.out.1.size)).trans (HO.out.2.2.2.mono (HZ0.out.1.trans (HB.out.1.mono HZ0.out.1.size)).size)).size (fun q hq => by rw [hq, ← HB.out.2.2]; exact HZ0.out.1.size)))).c4, (HC1.out.1.below (((HZ0.out.1.trans (HB.out.1.mono HZ0.out.1.size)).trans (HO.out.2.2.2.mono (HZ0.out.1.trans (HB.out.1.mono HZ0.out.1.size)).size)).trans (tn5.below ((HZ0.out.1.trans (HB.out.1.mono HZ0.out.1.size)).trans (HO.out.2.2.2.mono (HZ0.out.1.trans (HB.out.1.mono HZ0.out.1.size)).size)).size (fun q hq => by rw [hq, ← HB.out.2.2]; exact HZ0.out.1.size)))).c5, (HC1.out.1.below (((HZ0.out.1.trans (HB.out.1.mono HZ0.out.1.size)).trans (HO.out.2.2.2.mono (HZ0.out.1.trans (HB.out.1.mono HZ0.out.1.size)).size)).trans (tn5.below ((HZ0.out.1.trans (HB.out.1.mono HZ0.out.1.size)).trans (HO.out.2.2.2.mono (HZ0.out.1.trans (HB.out.1.mono HZ0.out.1.size)).size)).size (fun q hq => by rw [hq, ← HB.out.2.2]; exact HZ0.out.1.size)))).c6, (HC1.out.1.below (((HZ0.out.1.trans (HB.out.1.mono HZ0.out.1.size)).trans (HO.out.2.2.2.mono (HZ0.out.1.trans (HB.out.1.mono HZ0.out.1.size)).size)).trans (tn5.below ((HZ0.out.1.trans (HB.out.1.mono HZ0.out.1.size)).trans (HO.out.2.2.2.mono (HZ0.out.1.trans (HB.out.1.mono HZ0.out.1.size)).size)).size (fun q hq => by rw [hq, ← HB.out.2.2]; exact HZ0.out.1.size)))).c7, (HC1.out.2.below (((HZ0.out.1.trans (HB.out.1.mono HZ0.out.1.size)).trans (HO.out.2.2.2.mono (HZ0.out.1.trans (HB.out.1.mono HZ0.out.1.size)).size)).trans (tn5.below ((HZ0.out.1.trans (HB.out.1.mono HZ0.out.1.size)).trans (HO.out.2.2.2.mono (HZ0.out.1.trans (HB.out.1.mono HZ0.out.1.size)).size)).size (fun q hq => by rw [hq, ← HB.out.2.2]; exact HZ0.out.1.size)))).and⟩ (fun hH => ?_)
      clear hK K
      try simp only [Act.put, tkA, tkB, tkC]
      refine wpAnyK_last (by kernel_rfl) rfl (fun K hK => ?_) (by kernel_rfl)
      go_simp
      refine hK.out _ _ (wpAnyK_done (by kernel_rfl) ?_ _)
      clear hK K hH
      go_wp2_with fail
      go_meet
      case rel => exact cm_done ((HZ0.out.1.trans (HB.out.1.mono HZ0.out.1.size)).trans (HO.out.2.2.2.mono (HZ0.out.1.trans (HB.out.1.mono HZ0.out.1.size)).size)) HQ.out (by rw [← HB.out.2.2]; exact HZ0.out.1.size) HO.out.1 HO.out.2.1 HO.out.2.2.1 (HZ0.out.1.trans (HB.out.1.mono HZ0.out.1.size)).size (fun q hq => by have := (HO.out.1.lt q hq).1; have := HB.out.2.1.lt; omega) (fun q hq => by have := (HO.out.2.1.lt q hq).1; have := HB.out.2.1.lt; omega) (fun q hq => by have := (HO.out.2.2.1.lt q hq).1; have := HB.out.2.1.lt; omega)
  case rest =>
    obtain ⟨hbx, ob, fa, fc, la, lc, na, nc, rfl, rfl, hob, ho, o1, o2, o3, n1, n2, n3⟩ := hcut
    have hMc := HM1.out.stay hbx
    have hmc := HC1.out.1.below hbx
    have hec := HC1.out.2.below hbx
    have hxc : StX (fun q => F q ∨ q = mm) wc (.agg #[.slice fa t.fs.length fc, .int .i64 t.next, .int .i64 t.log, .slice la t.fl.length lc, .slice na t.ns.length nc]) t :=
      OwnSt.stx (B := w1.heap.size) ⟨_, _, _, rfl, o1, o2, o3⟩ (fun q hq => hq.elim (fun hq => by have := HLF.out.1 q hq; omega) (fun hq => by omega))
    have HMc := Lib.hid (And.intro hMc (And.intro hmc (And.intro hec (And.intro hbx (And.intro ho (And.intro hxc hob))))))
    obtain ⟨tfn, htf⟩ : ∃ n, t.fs.length = n := ⟨_, rfl⟩
    obtain ⟨tln, htl⟩ : ∃ n, t.fl.length = n := ⟨_, rfl⟩
    obtain ⟨tnn, htn⟩ : ∃ n, t.ns.length = n := ⟨_, rfl⟩
    rw [htf, htl, htn] at HMc
    have y0 := hmc.c0
    have y1 := hmc.c1
    clear hMc hmc hec hxc hbx ho hob o1 o2 o3 n1 n2 n3 htf htl htn
    have hls' : ((dkF (dmap dr S none) (-1) none k).list (dir ++ ⟨#[47, 109]⟩)).length = n := by rw [hdr]; exact HR.out.2.2.1
    have HLS := Lib.hid hls'
    have HDR := Lib.hid hdr
    have b1 : ¬ 9223372036854775807 < dir.size + 2 := by omega
    have z17 : ¬ (17 : Int) ≤ (n : Int) := by omega
    clear hls' hdr
    go_upto_region 8 with fail
    refine wp_region_K (fun w' => w'.cell? ⟨mm, 0, none⟩ = some (.pointer (some ⟨db, 0, none⟩)) ∧ w'.cell? ⟨mm, 1, none⟩ = some (.string dir)) 11 12 (by kernel_rfl) (by kernel_rfl) ⟨y0, y1⟩ (fun hH => ?_)
    refine tkK (i := 0) [1, 2, 3, 9, 10, 11] rfl hH ?_
    try simp only [Act.put, tkA, tkB, tkC]
    refine tkK (i := 1) [2, 3, 9, 10, 11] rfl hH ?_
    try simp only [Act.put, tkA, tkB, tkC]
    refine tkK (i := 2) [3, 9, 10, 11] rfl hH ?_
    try simp only [Act.put, tkA, tkB, tkC]
    refine tkK (i := 3) [9, 10, 11] rfl hH ?_
    try simp only [Act.put, tkA, tkB, tkC]
    refine tkK (i := 4) [5, 6, 7, 8, 9, 10, 11] rfl hH ?_
    try simp only [Act.put, tkA, tkB, tkC]
    refine tkK (i := 5) [6, 7, 8, 9, 10, 11] rfl hH ?_
    try simp only [Act.put, tkA, tkB, tkC]
    refine tkK (i := 6) [7, 8, 9, 10, 11] rfl hH ?_
    try simp only [Act.put, tkA, tkB, tkC]
    refine tkK (i := 7) [8, 9, 10, 11] rfl hH ?_
    try simp only [Act.put, tkA, tkB, tkC]
    refine tkK (i := 8) [9, 10, 11] rfl hH ?_
    try simp only [Act.put, tkA, tkB, tkC]
    refine wpAnyK_one (i := 9) (by kernel_rfl) rfl (fun K hK => ?_) (by kernel_rfl)
    go_simp
    go_at_call 24
    refine (cl_list (HMc.out.1.ws.d.d.below (Below.refl _ _).drew) rfl _ HLS.out).mono ?_
    rintro r w8 ⟨l8, k8, rfl, hb8⟩
    have hb8' := (Below.refl wc.heap.size wc).drew.trans hb8
    have H8 := Lib.hid (And.intro (HMc.out.1.stay hb8') (And.intro (HMc.out.2.1.below hb8') (And.intro (HMc.out.2.2.1.below hb8') (And.intro (HMc.out.2.2.2.1.trans (hb8'.mono HMc.out.2.2.2.1.size)) (And.intro (HMc.out.2.2.2.2.1.below hb8') (HMc.out.2.2.2.2.2.1.step (Tn.ofBelow (F := fun _ => False) hb8') (fun _ _ e => e.elim) (fun _ e => .inl e)))))))
    clear hb8 hb8'
    refine hK.out _ _ ⟨H8.out.2.1.c0, H8.out.2.1.c1⟩ (fun hH => ?_)
    clear hK K
    try simp only [Act.put, tkA, tkB, tkC]
    refine tkK (i := 10) [11] rfl hH ?_
    try simp only [Act.put, tkA, tkB, tkC]
    refine wpAnyK_last (by kernel_rfl) rfl (fun K hK => ?_) (by kernel_rfl)
    go_simp
    refine hK.out _ _ (wpAnyK_done (by kernel_rfl) ?_ _)
    clear hK K hH y0 y1 b1
    go_upto_region 12 with fail
    obtain ⟨hsq0, hsq1⟩ := hseq
    have hwr : IntKind.i64.wrap (seq + 1) = seq + 1 := IntWalk.i64_in _ (by omega)
    obtain ⟨sn, tn, zn, cn⟩ := num_tx (seq + 1) w (by omega) (by omega)
    obtain ⟨sl, tl⟩ : ∃ s, Tx s (laidL e) := ⟨_, rfl⟩
    have zl : sl.size ≤ 90000 := by rw [tl.size]; exact HR.out.2.2.2
    have b2 : ¬ 9223372036854775807 < sn.size + sl.size := by omega
    have hsl : (sn ++ sl).size ≤ 100000 := by rw [ByteArray.size_append]; omega
    have HD := Lib.hid (And.intro cn (And.intro tl hsl))
    clear cn tl hsl tn zn zl
    refine wp_region_K (fun w' => w'.cell? ⟨mm, 2, none⟩ = some (.pointer (some ⟨lb, 0, none⟩)) ∧ w'.cell? ⟨mm, 8, none⟩ = some (.int .i64 seq) ∧ w'.cell? ⟨mm, 3, none⟩ = some (fv) ∧ w'.cell? ⟨mm, 4, none⟩ = some (.int .i64 s.next) ∧ w'.cell? ⟨mm, 5, none⟩ = some (.int .i64 s.log) ∧ w'.cell? ⟨mm, 6, none⟩ = some (lv) ∧ w'.cell? ⟨mm, 7, none⟩ = some (nv) ∧ w'.cell? ⟨w.heap.size, 0, none⟩ = some (.slice xa xn xc) ∧ w'.cell? ⟨w.heap.size, 1, none⟩ = some (.slice ya yn yc) ∧ w'.cell? ⟨w.heap.size, 2, none⟩ = some (.int .i64 e.log) ∧ w'.cell? ⟨w.heap.size, 3, none⟩ = some (.slice ma mn mc) ∧ w'.cell? ⟨w.heap.size, 4, none⟩ = some (.slice oa on oc)) 19 20 (by kernel_rfl) (by kernel_rfl) ⟨H8.out.2.1.c2, H8.out.2.1.c8, H8.out.2.1.c3, H8.out.2.1.c4, H8.out.2.1.c5, H8.out.2.1.c6, H8.out.2.1.c7, H8.out.2.2.1.and⟩ (fun hH => ?_)
    have hb0 := (Below.refl w8.heap.size w8).drew
    have HV0 := Lib.hid (And.intro (H8.out.1.stay hb0) (And.intro (H8.out.2.1.below hb0) (And.intro (H8.out.2.2.1.below hb0) (And.intro (H8.out.2.2.2.1.trans (hb0.mono H8.out.2.2.2.1.size)) (And.intro (H8.out.2.2.2.2.1.below hb0) (H8.out.2.2.2.2.2.step (Tn.ofBelow (F := fun _ => False) hb0) (fun _ _ e => e.elim) (fun _ e => .inl e)))))))
    clear hb0
    refine tkK (i := 0) [19] rfl hH ?_
    try simp only [Act.put, tkA, tkB, tkC]
    refine tkK (i := 1) [19] rfl hH ?_
    try simp only [Act.put, tkA, tkB, tkC]
    refine tkK (i := 2) [19] rfl hH ?_
    try simp only [Act.put, tkA, tkB, tkC]
    refine tkK (i := 3) [19] rfl hH ?_
    try simp only [Act.put, tkA, tkB, tkC]
    refine tkK (i := 4) [19] rfl hH ?_
    try simp only [Act.put, tkA, tkB, tkC]
    refine tkK (i := 5) [19] rfl hH ?_
    try simp only [Act.put, tkA, tkB, tkC]
    refine tkK (i := 6) [19] rfl hH ?_
    try simp only [Act.put, tkA, tkB, tkC]
    refine tkK (i := 7) [19] rfl hH ?_
    try simp only [Act.put, tkA, tkB, tkC]
    refine tkK (i := 8) [19] rfl hH ?_
    try simp only [Act.put, tkA, tkB, tkC]
    refine tkK (i := 10) [19] rfl hH ?_
    try simp only [Act.put, tkA, tkB, tkC]
    refine tkK (i := 11) [19] rfl hH ?_
    try simp only [Act.put, tkA, tkB, tkC]
    refine tkK (i := 12) [19] rfl hH ?_
    try simp only [Act.put, tkA, tkB, tkC]
    refine tkK (i := 13) [19] rfl hH ?_
    try simp only [Act.put, tkA, tkB, tkC]
    refine tkK (i := 14) [19] rfl hH ?_
    try simp only [Act.put, tkA, tkB, tkC]
    refine wpAnyK_one (i := 9) (by kernel_rfl) rfl (fun K hK => ?_) (by kernel_rfl)
    go_simp
    go_at_call 26
    refine (HD.out.1 _).mono ?_
    rintro r v1 ⟨rfl, hb0⟩
    have HV1 := Lib.hid (And.intro (HV0.out.1.stay hb0) (And.intro (HV0.out.2.1.below hb0) (And.intro (HV0.out.2.2.1.below hb0) (And.intro (HV0.out.2.2.2.1.trans (hb0.mono HV0.out.2.2.2.1.size)) (And.intro (HV0.out.2.2.2.2.1.below hb0) (HV0.out.2.2.2.2.2.step (Tn.ofBelow (F := fun _ => False) hb0) (fun _ _ e => e.elim) (fun _ e => .inl e)))))))
    clear hb0
    refine hK.out _ _ ⟨HV1.out.2.1.c2, HV1.out.2.1.c8, HV1.out.2.1.c3, HV1.out.2.1.c4, HV1.out.2.1.c5, HV1.out.2.1.c6, HV1.out.2.1.c7, HV1.out.2.2.1.and⟩ (fun hH => ?_)
    clear hK K
    try simp only [Act.put, tkA, tkB, tkC]
    refine wpAnyK_one (i := 15) (by kernel_rfl) rfl (fun K hK => ?_) (by kernel_rfl)
    go_simp
    go_at_call 28
    refine (few_none (s := s) (HST.out.st.below HV1.out.2.2.2.1) ((HE.out.below HB1.out).below HV1.out.2.2.2.1) HQ4.out.2.2.2.1 HQ4.out.2.2.2.2).mono ?_
    rintro r v2 ⟨ve, rfl, hev, hb0⟩
    have HV2 := Lib.hid (And.intro (HV1.out.1.stay hb0) (And.intro (HV1.out.2.1.below hb0) (And.intro (HV1.out.2.2.1.below hb0) (And.intro (HV1.out.2.2.2.1.trans (hb0.mono HV1.out.2.2.2.1.size)) (And.intro (HV1.out.2.2.2.2.1.below hb0) (HV1.out.2.2.2.2.2.step (Tn.ofBelow (F := fun _ => False) hb0) (fun _ _ e => e.elim) (fun _ e => .inl e)))))))
    clear hb0
    have HEV := Lib.hid hev
    clear hev
    refine hK.out _ _ ⟨HV2.out.2.1.c2, HV2.out.2.1.c8, HV2.out.2.1.c3, HV2.out.2.1.c4, HV2.out.2.1.c5, HV2.out.2.1.c6, HV2.out.2.1.c7, HV2.out.2.2.1.and⟩ (fun hH => ?_)
    clear hK K
    try simp only [Act.put, tkA, tkB, tkC]
    refine wpAnyK_one (i := 16) (by kernel_rfl) rfl (fun K hK => ?_) (by kernel_rfl)
    go_simp
    go_at_call 27
    refine (laid_any HEV.out HQ4.out.1).mono ?_
    rintro r v3 ⟨rfl, hb0⟩
    rw [← (show sl = ⟨(laidL e).toArray⟩ from HD.out.2.1)]
    have HV3 := Lib.hid (And.intro (HV2.out.1.stay hb0) (And.intro (HV2.out.2.1.below hb0) (And.intro (HV2.out.2.2.1.below hb0) (And.intro (HV2.out.2.2.2.1.trans (hb0.mono HV2.out.2.2.2.1.size)) (And.intro (HV2.out.2.2.2.2.1.below hb0) (HV2.out.2.2.2.2.2.step (Tn.ofBelow (F := fun _ => False) hb0) (fun _ _ e => e.elim) (fun _ e => .inl e)))))))
    clear hb0
    refine hK.out _ _ ⟨HV3.out.2.1.c2, HV3.out.2.1.c8, HV3.out.2.1.c3, HV3.out.2.1.c4, HV3.out.2.1.c5, HV3.out.2.1.c6, HV3.out.2.1.c7, HV3.out.2.2.1.and⟩ (fun hH => ?_)
    clear hK K
    try simp only [Act.put, tkA, tkB, tkC]
    refine tkK (i := 17) [19] rfl hH ?_
    try simp only [Act.put, tkA, tkB, tkC]
    refine wpAnyK_one (i := 18) (by kernel_rfl) rfl (fun K hK => ?_) (by kernel_rfl)
    go_simp
    go_at_call 25
    refine (cl_big HV3.out.1.ws HR.out.2.1 hd40 (by decide) HR.out.1 (sn ++ sl) HD.out.2.2 (by omega) hSl hlN hlong).mono ?_
    rintro r v4 ⟨c, D4, L4, G4, F4, rfl, ha, hw4, hs4⟩
    obtain ⟨rfl, S4, k4, rfl, hr4, ha4, hk4, _⟩ := ha.ok
    have hS4 := (app_facts HR.out.1 ha4 (by have := HD.out.2.2; rw [ByteArray.size_append]; show 1 + _ ≤ _; omega)).2.2.2.2.2
    have hM4 := HV3.out.1.go hw4 hs4
    have hm4 := HV3.out.2.1.tn hs4.t HV3.out.1.nf
    have he4 := HV3.out.2.2.1.tnH hs4.t (fun e => by have := HLF.out.1 _ e; omega)
    have hsw := HB1.out.size
    have hwc := HV3.out.2.2.2.1.size
    have hob4 := HMc.out.2.2.2.2.2.2
    have ho4 := HV3.out.2.2.2.2.1.tnH hs4.t (fun e => by have := HLF.out.1 _ e; omega)
    have hx4 := HV3.out.2.2.2.2.2.go hs4
    have H4 := Lib.hid (And.intro hM4 (And.intro hm4 (And.intro he4 (And.intro ho4 (And.intro hx4 (And.intro hs4 (And.intro hr4 (And.intro hk4 hS4))))))))
    clear ha hw4 hs4 hr4 ha4 hk4 hS4 hM4 hm4 he4 ho4 hx4
    refine hK.out _ _ ⟨H4.out.2.1.c2, H4.out.2.1.c8, H4.out.2.1.c3, H4.out.2.1.c4, H4.out.2.1.c5, H4.out.2.1.c6, H4.out.2.1.c7, H4.out.2.2.1.and⟩ (fun hH => ?_)
    clear hK K
    try simp only [Act.put, tkA, tkB, tkC]
    refine wpAnyK_last (by kernel_rfl) rfl (fun K hK => ?_) (by kernel_rfl)
    go_simp
    refine hK.out _ _ (wpAnyK_done (by kernel_rfl) ?_ _)
    clear hK K hH b2
    have y2 := H4.out.2.1.c2
    go_wp2_with (go_at_call 29; refine (c_sync_run H4.out.1.ws HR.out.2.1 hd40 H4.out.2.2.2.2.2.2.1 (by have := H4.out.2.2.2.2.2.2.2.1; omega)).mono ?_; rintro r v5 ⟨rfl, S5, k5, hw5, hs5, hk5, hr5, _, hl5, _⟩; have hM5 := H4.out.1.go hw5 hs5; have ho5 := H4.out.2.2.2.1.tnH hs5.t (fun e => (H4.out.2.2.2.2.2.1.n _ e).elim (fun e => by have := HLF.out.1 _ e; omega) (fun e => by have := HV3.out.2.2.2.2.1.lt; omega)); have hx5 := H4.out.2.2.2.2.1.go hs5; have H5 := Lib.hid (And.intro hM5 (And.intro ho5 (And.intro hx5 (And.intro hs5 (And.intro hk5 (And.intro hr5 hl5)))))); have x0 := ho5.z0; have x1 := ho5.z1; have x2 := ho5.z2; have x3 := ho5.z3; have x4 := ho5.z4; obtain ⟨fv5, lv5, nv5, m3, m4, m5, m6, m7, _⟩ := hM5.st; have m8 := hM5.c8; have g3 := hM5.fz 3; have g4 := hM5.fz 4; have g5 := hM5.fz 5; have g6 := hM5.fz 6; have g7 := hM5.fz 7; have g8 := hM5.fz 8; clear hM5 ho5 hx5 hs5 hk5 hr5 hl5 hw5 y2)
    have h9 := (H5.out.1.setS rfl H5.out.2.2.1).set8 rfl (seq + 1)
    have H9 := Lib.hid h9
    clear h9 x0 x1 x2 x3 x4 m3 m4 m5 m6 m7 m8 g3 g4 g5 g6 g7 g8
    refine (mdone_at H9.out rfl 0).mono ?_
    rintro r v6 ⟨rfl, hM6, hv6⟩
    rw [show decide ((0 : Int) = 20) = false by decide] at hM6
    have tA : Tn (fun q => F q ∨ q = mm) w v3 := Tn.ofBelow (HB1.out.trans (HV3.out.2.2.2.1.mono HB1.out.size))
    have tB : Tn (fun q => F q ∨ q = mm) w v4 := tA.trans (H4.out.2.2.2.2.2.1.t.mono (fun q e => .inl e))
    have nB : ∀ q, F4 q → F q ∨ w.heap.size ≤ q := fun q e => (H4.out.2.2.2.2.2.1.n q e).imp id (fun e => Nat.le_trans tA.size e)
    have tC : Tn (fun q => F q ∨ q = mm) w v5 := tB.andThen H5.out.2.2.2.1.t (fun q e => (nB q e).imp .inl id)
    have tD : Tn (fun q => q = mm) v5 v6 := by rw [hv6]; exact (((((tn_setS.trans tn_setS).trans tn_setS).trans tn_setS).trans tn_setS).trans tn_setS).trans tn_setS
    have tE : Tn (fun q => F q ∨ q = mm) w v6 := tC.trans (tD.mono (fun q e => .inr e))
    have HF := Lib.hid (And.intro hM6 (And.intro tE nB))
    clear hM6 hv6 tA tB nB tC tD tE
    go_wp2
    go_ret
    exact ⟨rfl, F4, G4, S5, k5, L4, HF.out.1, H5.out.2.2.2.2.2.1, by have := H5.out.2.2.2.2.1; have := H4.out.2.2.2.2.2.2.2.1; omega, by have := H5.out.2.2.2.2.2.2; have := H4.out.2.2.2.2.2.2.2.2; omega, HF.out.2.1, HF.out.2.2⟩
end Go.Proofs.YtjebpppjhkkebaaGreatDoor
