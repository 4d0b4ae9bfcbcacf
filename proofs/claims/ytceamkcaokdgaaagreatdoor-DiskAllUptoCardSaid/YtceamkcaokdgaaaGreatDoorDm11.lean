import Derived.Test.YtceamkcaokdgaaaGreatDoorDm10
import Derived.Test.YtceamkcaokdgaaaGreatDoorDm4
set_option linter.unusedSimpArgs false
set_option linter.unusedVariables false
/-
  The document's disk: its cells and files are set; a crash.
-/
namespace Go.Proofs.YtceamkcaokdgaaaGreatDoor
open Go.RowKit
variable {F G : Nat → Prop} {w w' : World} {rb : Nat} {lv : Value} {R R' : Dk}

theorem flat_set (m : Fm) : ∀ (i j : Nat) (hi : i < m.length) (_ : j < 3) (u : Value) (x' : ByteArray × Fl), (cFl m[i]).set j u = cFl x' → (m.flatMap cFl).set (i * 3 + j) u = (m.set i x').flatMap cFl := by
  induction m with
  | nil => intro i j hi; simp at hi
  | cons a l ih =>
    intro i j hi hj u x' h
    cases i with
    | zero =>
      rw [List.set_cons_zero, List.flatMap_cons, List.flatMap_cons, List.set_append_left _ _ (by show 0 * 3 + j < 3; omega)]
      rw [← h]
      simp
    | succ i =>
      rw [List.set_cons_succ, List.flatMap_cons, List.flatMap_cons, List.set_append_right _ _ (by show 3 ≤ (i + 1) * 3 + j; omega)]
      congr 1
      have e : (i + 1) * 3 + j - (cFl a).length = i * 3 + j := by show (i + 1) * 3 + j - 3 = i * 3 + j; omega
      rw [e]
      exact ih i j (by simpa using hi) hj u x' h
theorem fset {B g n cap : Nat} {m : Fm} (h : Own eFl w B (.slice (some ⟨g, 0, none⟩) n cap) m) (hn : m.length = n) {i j : Nat} (hi : i < m.length) (hj : j < 3) {u : Value} {x' : ByteArray × Fl} (hx : (cFl m[i]).set j u = cFl x') :
    Own eFl (w.setCell ⟨g, i * 3 + j, none⟩ u) B (.slice (some ⟨g, 0, none⟩) n cap) (m.set i x') := by
  subst hn
  have h1 := (World.ownsRow.stored h (i * 3 + j) u).1
  show World.ownsRow _ _ _ _ _ _ _
  rw [List.length_set, ← flat_set m i j hi hj u x' hx]
  exact h1
/-- The disk's own cells turn. -/
theorem RfAt.store (h : RfAt F w rb lv R) (ht : Tn (fun q => q = rb) w w') (c0 : w'.cell? ⟨rb, 0, none⟩ = some lv) (c1 : w'.cell? ⟨rb, 1, none⟩ = some (.bool (!R'.on))) (c2 : w'.cell? ⟨rb, 2, none⟩ = some (.int .i64 R'.quota)) (c3 : w'.cell? ⟨rb, 3, none⟩ = some (.int .i64 (fzN R'.fuse)))
    (c4 : ∃ x : Int, w'.cell? ⟨rb, 4, none⟩ = some (.int .i64 x) ∧ ∀ z, R'.fuse = some z → z.flip = x) (c5 : ∃ a n c, w'.cell? ⟨rb, 5, none⟩ = some (.slice a n c) ∧ ∀ z, R'.fuse = some z → RdC F w' (.slice a n c) z.cuts) (c6 : w'.cell? ⟨rb, 6, none⟩ = some (.int .i64 (R'.acts : Int)))
    (hfz : ∀ j, w'.frozen? ⟨rb, j, none⟩ = w.frozen? ⟨rb, j, none⟩) (hm : R'.m = R.m) (hok : R'.Ok) : RfAt F w' rb lv R' :=
  ⟨c0, c1, c2, c3, c4, c5, c6, fun j => (hfz j).trans (h.fz j), by rw [hm]; exact ht.row h.row (fun q hq e => h.ne (by rw [hq, e])), h.ne, hok, by rw [hm]; exact h.nd⟩
theorem other_cell {b j k : Nat} (u : Value) (h : j ≠ k) : (w.setCell ⟨b, j, none⟩ u).cell? ⟨b, k, none⟩ = w.cell? ⟨b, k, none⟩ :=
  World.cell?_setCell_other _ _ _ _ (by intro e; injection e with _ e2; omega)
theorem RfAt.c5' (h : RfAt F w rb lv R) (hF : F rb) {j : Nat} (u : Value) (hj : j ≠ 5) : ∃ a n c, (w.setCell ⟨rb, j, none⟩ u).cell? ⟨rb, 5, none⟩ = some (.slice a n c) ∧ ∀ z, R.fuse = some z → RdC F (w.setCell ⟨rb, j, none⟩ u) (.slice a n c) z.cuts := by
  obtain ⟨a, n, c, h5, h5b⟩ := h.c5
  refine ⟨a, n, c, by rw [other_cell _ hj]; exact h5, fun z hz => (h5b z hz).tn (G := fun q => q = rb) (Tn.setCell _ _ _ rfl) (fun q _ e => by rw [e]; exact hF)⟩
theorem RfAt.set1 (h : RfAt F w rb lv R) (hF : F rb) (b : Bool) : RfAt F (w.setCell ⟨rb, 1, none⟩ (.bool (!b))) rb lv { R with on := b } := by
  obtain ⟨x, h4, h4b⟩ := h.c4
  exact h.store (Tn.setCell _ _ _ rfl) (by rw [other_cell _ (by decide)]; exact h.c0) (World.cell?_setCell_same _ _ _ h.c1) (by rw [other_cell _ (by decide)]; exact h.c2) (by rw [other_cell _ (by decide)]; exact h.c3) ⟨x, by rw [other_cell _ (by decide)]; exact h4, h4b⟩ (h.c5' hF _ (by decide)) (by rw [other_cell _ (by decide)]; exact h.c6) (fun j => World.frozen?_setCell _ _ _ _) rfl ⟨h.ok.nam, h.ok.syn, h.ok.few, h.ok.acts, h.ok.quota, h.ok.fuse⟩
/-- The files turn. -/
theorem RfAt.rows (h : RfAt F w rb lv R) {lv' : Value} {m : Fm} (ht : Tn G w w') (hG : ∀ q, q < w.heap.size → G q → F q ∧ q ≠ rb) (hrow : Own eFl w' 0 lv' m) (hne : lv'.ownBlock ≠ some rb) (hc0 : lv' = lv) (hok : ({ R with m := m } : Dk).Ok) (hnd : keysN m) : RfAt F w' rb lv' { R with m := m } := by
  subst hc0
  have hn : ¬ G rb := fun e => (hG rb h.ltb e).2 rfl
  obtain ⟨x, h4, h4b⟩ := h.c4
  obtain ⟨a, n, c, h5, h5b⟩ := h.c5
  exact ⟨ht.cell h.c0 hn, ht.cell h.c1 hn, ht.cell h.c2 hn, ht.cell h.c3 hn, ⟨x, ht.cell h4 hn, h4b⟩, ⟨a, n, c, ht.cell h5 hn, fun z hz => (h5b z hz).tn ht (fun q hq e => (hG q hq e).1)⟩, ht.cell h.c6 hn,
    fun j => (ht.frozen (p := ⟨rb, j, none⟩) h.ltb hn).trans (h.fz j), hrow, hne, hok, hnd⟩
theorem RdC.mono {v : Value} {l : List Int} {F' : Nat → Prop} (h : RdC F w v l) (hF : ∀ q, F' q → F q) : RdC F' w v l := by
  obtain ⟨a, c, e, h⟩ := h
  refine ⟨a, c, e, h.imp id ?_⟩
  rintro ⟨b, off, ha, hf, r⟩
  exact ⟨b, off, ha, fun e => hf (hF b e), r⟩
theorem Own.getX {w : World} {B n cap : Nat} {a : Option Addr} {l : List ByteArray} (h : Own kTexts w B (.slice a n cap) l) {i : Nat} (hi : i < l.length) : ∃ g, a = some ⟨g, 0, none⟩ ∧ B ≤ g ∧ g < w.heap.size ∧ w.cell? ⟨g, i, none⟩ = some (.string l[i]) := by
  have h0 := h
  obtain ⟨h1, h2⟩ := h
  rcases h2 with ⟨_, h3⟩ | ⟨g, cap', cur, hv, hg, hh, hn', hc, hcl, htk⟩
  · omega
  · injection hv with e1 e2 e3
    subst e1 e2
    refine ⟨g, rfl, hg, (Array.getElem?_eq_some_iff.1 hh).1, ?_⟩
    have := World.ownsRow.cellAt h0 i (by omega)
    rw [this]
    have h4 := kTexts.get l i 0 hi (by omega)
    rw [Nat.mul_one, Nat.add_zero] at h4
    rw [h4]
    rfl
theorem val_i {k : IntKind} {a b : Int} (h : a = b) : Value.int k a = .int k b := by rw [h]
theorem names_pre (R : Dk) : sortB (preN ⟨#[]⟩ R.m) = R.names := by
  unfold Dk.names
  rw [preN_sort]
  refine List.filter_eq_self.2 (fun s _ => ?_)
  rfl

theorem crashK_ok (h : R.Ok) (cuts : List Int) (flip : Int) (l : List ByteArray) : ({ R with m := crashL cuts flip l 0 R.m, on := false } : Dk).Ok := by
  have := crashL_ok (cuts := cuts) (flip := flip) l 0 R.m h.syn
  exact ⟨crashL_nam _ _ _ h.nam, this.1, by rw [this.2]; exact h.few, h.acts, h.quota, h.fuse⟩
theorem crashK_nd (h : keysN R.m) (cuts : List Int) (flip : Int) (l : List ByteArray) : keysN (crashL cuts flip l 0 R.m) := by
  unfold keysN
  rw [crashL_keys]
  exact h
set_option maxRecDepth 100000 in
set_option maxHeartbeats 4000000 in
theorem rcrash_on (h : RfAt F w rb lv R) (hF : ∀ q, RFoot rb lv q → F q) (hon : R.on = true) {v : Value} {cuts : List Int} (hr : RdC (RFoot rb lv) w v cuts) (hcl : cuts.length ≤ 1000000) (flip : Int) :
    Calls Tryz.prog 35 #[.pointer (some ⟨rb, 0, none⟩), v, .int .i64 flip] w fun e w' => e = .returned (.tuple #[]) ∧ RfAt F w' rb lv (R.crash cuts flip) ∧ Tn (RFoot rb lv) w w' := by
  have hcr : R.crash cuts flip = { R with m := crashL cuts flip R.names 0 R.m, on := false } := by unfold Dk.crash; rw [hon]; rfl
  rw [hcr]
  have c1 := h.c1
  rw [hon] at c1
  have f1 := h.fz 1
  have hrb := h.ltb
  obtain ⟨av, vl, cv, rfl, hvl, hrr⟩ : ∃ av vl cv, v = .slice av vl cv ∧ cuts.length = vl ∧ (cuts = [] ∨ ∃ b off, av = some ⟨b, off, none⟩ ∧ ¬ RFoot rb lv b ∧ b < w.heap.size ∧ ∀ i (hi : i < cuts.length), w.cell? ⟨b, off + i, none⟩ = some (.int .i64 cuts[i])) := by
    obtain ⟨a, c, e, h⟩ := hr
    exact ⟨a, _, c, e, rfl, h⟩
  rw [hvl] at hcl
  have h1 := h.set1 (hF rb (.inl rfl)) false
  have t1 : Tn (RFoot rb lv) w (w.setCell ⟨rb, 1, none⟩ (.bool true)) := Tn.setCell _ _ _ (.inl rfl)
  have hnm := rnames_any h1 ⟨#[]⟩
  rw [names_pre] at hnm
  have hnn : ({ R with on := false } : Dk).names = R.names := rfl
  rw [hnn] at hnm
  obtain ⟨w1, hw1⟩ : ∃ w1, w.setCell ⟨rb, 1, none⟩ (.bool true) = w1 := ⟨_, rfl⟩
  have hw1' : w.setCell ⟨rb, 1, none⟩ (.bool (!false)) = w1 := hw1
  rw [hw1'] at h1 hnm
  rw [hw1] at t1
  obtain ⟨n, hn⟩ : ∃ n, R.names.length = n := ⟨_, rfl⟩
  rw [hn] at hnm
  have hnl : n ≤ 20000 := by
    rw [← hn]
    unfold Dk.names
    rw [(sortB_perm _).length_eq, List.length_map]
    exact h.ok.few
  have H := Lib.hid (And.intro h (And.intro hF (And.intro hvl hrr)))
  have H1 := Lib.hid (And.intro h1 t1)
  have HN := Lib.hid hn
  have HNM := Lib.hid hnm
  clear h hF hon hr hvl hrr h1 t1 hnm hnn hcr hn hw1'
  go_enter Tryz.func35, Tryz.ntmps35
  go_wp2_with (go_at_call 124; refine HNM.out.mono ?_; rintro e w2 ⟨an, cn, rfl, ho2, hb2⟩; have H2 := Lib.hid (And.intro ho2 hb2); clear ho2 hb2)
  have hrel0 : RfAt F w2 rb lv { R with m := crashL cuts flip (R.names.take 0) 0 R.m, on := false } := H1.out.1.below H2.out.2
  have ht0 : Tn (RFoot rb lv) w w2 := H1.out.2.trans (Tn.ofBelow H2.out.2)
  have ho0 : Own kTexts w2 w.heap.size (.slice an n cn) R.names := row_mono H2.out.1 H1.out.2.size
  go_loopw [7, 8, 9, 10, 11] (fun kv _ _ _ _ wr => ∃ k : Nat, k ≤ n ∧ kv = .int .i64 (k : Int) ∧ RfAt F wr rb lv { R with m := crashL cuts flip (R.names.take k) 0 R.m, on := false } ∧ Tn (RFoot rb lv) w wr ∧ Own kTexts wr w.heap.size (.slice an n cn) R.names) (fun kv _ _ _ _ _ => n - (intOf kv).toNat)
  case atStart => exact ⟨0, by omega, rfl, hrel0, ht0, ho0⟩
  case round =>
    clear hrel0 ht0 ho0
    obtain ⟨k, hk, rfl, hd, ht, ho⟩ := hrel
    by_cases hlt : k < n
    · have hkn : k < R.names.length := by rw [HN.out]; exact hlt
      obtain ⟨gl, rfl, _, hgl, hcell⟩ := ho.getX hkn
      obtain ⟨nm, hnm⟩ : ∃ nm, R.names[k] = nm := ⟨_, rfl⟩
      rw [hnm] at hcell
      obtain ⟨m, hm⟩ : ∃ m, crashL cuts flip (R.names.take k) 0 R.m = m := ⟨_, rfl⟩
      rw [hm] at hd
      have hmem : nm ∈ m.map (·.1) := by
        rw [← hm, crashL_keys, ← hnm]
        exact (sortB_perm _).mem_iff.1 (List.getElem_mem hkn)
      have hi : atN m nm < m.length := by
        rcases Nat.lt_or_ge (atN m nm) m.length with h | h
        · exact h
        · obtain ⟨f, hf⟩ := getL_some hmem
          rw [getL_no (by omega)] at hf
          cases hf
      have hat := atN_at hi
      have hget := getL_at hi
      have hset := fun v => setL_at hd.nd hi v
      have hcall := fun (d : Nat) => (rat_any (hd.below (below_drewN (Below.refl _ wr) d)) nm).mono (R' := fun e w' => e = .returned (.int .i64 (atI ({ R with m := m, on := false } : Dk).m nm)) ∧ w' = wr.drewN d) (fun _ _ h => ⟨h.1, h.2.symm⟩)
      have hai : atI m nm = (atN m nm : Int) := by unfold atI; rw [if_pos hi]
      have hmr : ({ R with m := m, on := false } : Dk).m = m := rfl
      rw [hmr, hai] at hcall
      obtain ⟨i, hie⟩ : ∃ i, atN m nm = i := ⟨_, rfl⟩
      rw [hie] at hcall hset
      simp only [hie] at hi hat hget
      obtain ⟨f, hf⟩ : ∃ f, m[i].2 = f := ⟨_, rfl⟩
      rw [hf] at hget
      obtain ⟨fd, fs⟩ := f
      have hmi : m[i] = (nm, ⟨fd, fs⟩) := Prod.ext hat hf
      obtain ⟨g, cap, hlv, _, hg, k0, k1, k2⟩ := rf_cells hd.row (show i < ({ R with m := m, on := false } : Dk).m.length from hi)
      obtain ⟨nm2, hnm2⟩ : ∃ x, m.length = x := ⟨_, rfl⟩
      have hfs := hd.ok.syn m[i] (List.getElem_mem hi)
      rw [hmi] at hfs
      have k1' : wr.cell? ⟨g, i * 3 + 1, none⟩ = some (.string fd) := by rw [k1]; show some (Value.string m[i].2.data) = _; rw [hf]
      have k2' : wr.cell? ⟨g, i * 3 + 2, none⟩ = some (.int .i64 (fs : Int)) := by rw [k2]; show some (Value.int .i64 (m[i].2.syn : Int)) = _; rw [hf]
      have hlv2 : lv = .slice (some ⟨g, 0, none⟩) nm2 cap := by rw [hlv]; show Value.slice _ m.length _ = _; rw [hnm2]
      subst hlv2
      have c0 := hd.c0
      have q1 : fs ≤ fd.size := hfs.1
      have q2 : fd.size ≤ 1048576 := hfs.2
      have him : i < nm2 := by rw [← hnm2]; exact hi
      have hm2 : nm2 ≤ 20000 := by rw [← hnm2]; exact hd.ok.few
      obtain ⟨cval, hcval, hcc⟩ : ∃ cval, cutAt cuts k = cval ∧ ((vl = 0 ∧ cval = 0) ∨ (0 < vl ∧ ∃ b off, av = some ⟨b, off, none⟩ ∧ wr.cell? ⟨b, off + k % vl, none⟩ = some (.int .i64 cval))) := by
        refine ⟨_, rfl, ?_⟩
        rcases Nat.eq_zero_or_pos vl with h0 | h0
        · exact .inl ⟨h0, by unfold cutAt; rw [H.out.2.2.1, if_pos h0]⟩
        · obtain ⟨b, off, e, hb, hbl, hcs⟩ := H.out.2.2.2.resolve_left (fun e => by have := H.out.2.2.1; rw [e] at this; simp at this; omega)
          have hmd : k % vl < cuts.length := by rw [H.out.2.2.1]; exact Nat.mod_lt _ h0
          refine .inr ⟨h0, b, off, e, ht.cell ?_ hb⟩
          have hcv : cutAt cuts k = cuts[k % vl] := by
            unfold cutAt
            rw [if_neg (by have := H.out.2.2.1; omega), List.getD_eq_getElem?_getD, H.out.2.2.1, List.getElem?_eq_getElem hmd]
            rfl
          rw [hcv]
          exact hcs _ hmd
      have r1 : (k : Int) < (n : Int) := by omega
      obtain ⟨d0, hd0⟩ : ∃ d0, fd.size - fs = d0 := ⟨_, rfl⟩
      have hd0' : (fd.size : Int) - (fs : Int) = (d0 : Int) := by omega
      have hkpe : ∃ kp, keep ⟨fd, fs⟩ cval = kp ∧ kp = min cval.toNat d0 := ⟨_, rfl, by unfold keep; rw [← hd0]⟩
      obtain ⟨kp, hkp, hkp2⟩ := hkpe
      have hkl : fs + kp ≤ fd.size := by omega
      have HR := Lib.hid (And.intro hd (And.intro ht (And.intro ho (And.intro hget (And.intro hset (And.intro hmi (And.intro hnm (And.intro hm (And.intro hcval (And.intro hkp (And.intro hnm2 hi)))))))))))
      clear hd ht ho hget hset hmi hnm hm hcval hkp hmem hat hai hmr hfs k0 k1 k2 hf hlv hie hnm2
      go_wp2
      go_quiet ((go_at_call 116; with_reducible exact Calls.quiet_of_same (hcall _)))
      clear hcall
      go_wp2
      go_quiet (fail)
      go_upto_if 50 with fail
      go_cut [10] from 21 (fun x wx => x = .int .i64 cval ∧ ∃ d, wx = wr.drewN d)
      case first =>
        rcases hcc with ⟨rfl, rfl⟩ | ⟨hvp, cb, coff, rfl, hcellc⟩
        · go_wp2
          go_meet
          case rel => exact ⟨rfl, by first | exact ⟨_, rfl⟩ | exact ⟨_, World.drewN_drewN _ _ _⟩ | exact ⟨_, (World.drewN_drewN _ _ _).trans (World.drewN_drewN _ _ _)⟩⟩
        · have r2 : (0 : Int) < (vl : Int) := by omega
          have r3 : ((k % vl : Nat) : Int) = (k : Int) % (vl : Int) := by omega
          have r4 : (k : Int) % (vl : Int) < (vl : Int) := Int.emod_lt_of_pos _ r2
          have r5 : 0 ≤ (k : Int) % (vl : Int) := Int.emod_nonneg _ (by omega)
          go_wp2
          go_meet
          case rel => exact ⟨rfl, by first | exact ⟨_, rfl⟩ | exact ⟨_, World.drewN_drewN _ _ _⟩ | exact ⟨_, (World.drewN_drewN _ _ _).trans (World.drewN_drewN _ _ _)⟩⟩
      case rest =>
      obtain ⟨rfl, d, rfl⟩ := hcut
      clear hcc
      obtain ⟨nn, hnn⟩ : ∃ nn : Int, nn = if cval < (d0 : Int) then cval else (d0 : Int) := ⟨_, rfl⟩
      have HNN := Lib.hid hnn
      clear hnn
      have HK2 := Lib.hid hkp2
      clear hkp2
      go_upto_if 60 with fail
      go_cut [9] from 21 (fun x wx => x = .int .i64 nn ∧ wx = wr.drewN d)
      case first =>
        by_cases hdc : cval < (d0 : Int)
        · have t1 : decide (cval < (d0 : Int)) = true := by simpa using hdc
          have HDC := Lib.hid hdc
          go_wp2
          go_meet
          case rel => exact ⟨val_i (by rw [HNN.out, if_pos HDC.out]), rfl⟩
        · have t1 : decide (cval < (d0 : Int)) = false := by simpa using hdc
          have HDC := Lib.hid hdc
          go_wp2
          go_meet
          case rel => exact ⟨val_i (by rw [HNN.out, if_neg (by have := HDC.out; omega)]), rfl⟩
      case rest =>
      obtain ⟨rfl, rfl⟩ := hcut
      go_upto_if 63 with fail
      go_cut [9] from 21 (fun x wx => x = .int .i64 (kp : Int) ∧ wx = wr.drewN d)
      case first =>
        by_cases hn0 : nn < 0
        · have t1 : decide (nn < 0) = true := by simpa using hn0
          have HDC := Lib.hid hn0
          go_wp2
          go_meet
          case rel => exact ⟨val_i (by
            have h1 := HNN.out
            have h2 := HDC.out
            have h3 := HK2.out
            split at h1 <;> omega), rfl⟩
        · have t1 : decide (nn < 0) = false := by simpa using hn0
          have HDC := Lib.hid hn0
          go_wp2
          go_meet
          case rel => exact ⟨val_i (by
            have h1 := HNN.out
            have h2 := HDC.out
            have h3 := HK2.out
            split at h1 <;> omega), rfl⟩
      case rest =>
      obtain ⟨rfl, rfl⟩ := hcut
      clear HNN HK2 nn
      have hkb : kp ≤ d0 := by omega
      have hxs : (fd.extract 0 (fs + kp)).size = fs + kp := by rw [ByteArray.size_extract]; omega
      have hxl : (fd.extract 0 (fs + kp)).data.toList = fd.data.toList.take (fs + kp) := by
        rw [ByteArray.data_extract, Array.toList_extract]
        simp
      have r6 : ((fs : Int) + (kp : Int)).toNat = fs + kp := by omega
      have r7 : (fs : Int) + (kp : Int) ≤ (fd.size : Int) := by omega
      have r9 : 0 ≤ (fs : Int) + (kp : Int) := by omega
      have r8 : IntKind.i64.wrap ((fs : Int) + (kp : Int)) = (fs : Int) + (kp : Int) := IntWalk.i64_in _ (by omega)
      obtain ⟨ccap, w4, hb4, hz4, hB4, hconv⟩ := conv_b (fd.extract 0 (fs + kp)) (wr.drewN (d + 1))
      rw [hxl] at hB4
      rw [hxs] at hconv
      obtain ⟨bq, hbq⟩ : ∃ bq, (wr.drewN (d + 1)).heap.size = bq := ⟨_, rfl⟩
      rw [hbq] at hB4 hconv
      have hbq' : wr.heap.size = bq := hbq
      have hlen4 : (fd.data.toList.take (fs + kp)).length = fs + kp := by rw [← hxl, ← Lib.size_eq, hxs]
      have hb40 : Below wr.heap.size wr w4 := (below_drewN (Below.refl _ wr) (d + 1)).trans hb4
      have kd1 : ((wr.drewN d).drew).cell? ⟨g, i * 3 + 1, none⟩ = some (.string fd) := k1'
      have kd2 : ((wr.drewN d).drew).cell? ⟨g, i * 3 + 2, none⟩ = some (.int .i64 (fs : Int)) := k2'
      have HB4 := Lib.hid (And.intro hb40 (And.intro hB4 (And.intro hlen4 (And.intro hbq' hg))))
      have HXS := Lib.hid (And.intro hxs hxl)
      clear hb4 hz4 hB4 hbq hbq' hlen4 hb40 hxs hxl
      go_wp2
      refine wp_region_K (fun w' => w'.cell? ⟨g, i * 3 + 1, none⟩ = some (.string fd) ∧ w'.cell? ⟨g, i * 3 + 2, none⟩ = some (.int .i64 (fs : Int))) 12 13 (by kernel_rfl) (by kernel_rfl) ⟨kd1, kd2⟩ (fun hH => ?_)
      refine wpAnyK_take (i := 0) [12] (v := ?v1) rfl (by kernel_rfl) (by kernel_rfl) (by kernel_rfl) (by kernel_rfl) (fun _ _ _ h => h) (Or.inl ⟨by rfl, ?hy1⟩) hH ?rest1
      case hy1 => (intro w hSw; (try dsimp only at hSw); go_simp; with_reducible rfl)
      try simp only [Act.put, List.setIfInBounds_toArray, List.set_cons_zero, List.set_cons_succ]
      refine wpAnyK_take (i := 1) [12] (v := ?v2) rfl (by kernel_rfl) (by kernel_rfl) (by kernel_rfl) (by kernel_rfl) (fun _ _ _ h => h) (Or.inl ⟨by rfl, ?hy2⟩) hH ?rest2
      case hy2 => (intro w hSw; (try dsimp only at hSw); go_simp; with_reducible rfl)
      try simp only [Act.put, List.setIfInBounds_toArray, List.set_cons_zero, List.set_cons_succ]
      refine wpAnyK_take (i := 2) [12] (v := ?v3) rfl (by kernel_rfl) (by kernel_rfl) (by kernel_rfl) (by kernel_rfl) (fun _ _ _ h => h) (Or.inl ⟨by rfl, ?hy3⟩) hH ?rest3
      case hy3 => (intro w hSw; (try dsimp only at hSw); go_simp; with_reducible rfl)
      try simp only [Act.put, List.setIfInBounds_toArray, List.set_cons_zero, List.set_cons_succ]
      refine wpAnyK_take (i := 3) [12] (v := ?v4) rfl (by kernel_rfl) (by kernel_rfl) (by kernel_rfl) (by kernel_rfl) (fun _ _ _ h => h) (Or.inl ⟨by rfl, ?hy4⟩) hH ?rest4
      case hy4 => (intro w hSw; (try dsimp only at hSw); go_simp; with_reducible rfl)
      try simp only [Act.put, List.setIfInBounds_toArray, List.set_cons_zero, List.set_cons_succ]
      refine wpAnyK_take (i := 4) [12] (v := ?v5) rfl (by kernel_rfl) (by kernel_rfl) (by kernel_rfl) (by kernel_rfl) (fun _ _ _ h => h) (Or.inl ⟨by rfl, ?hy5⟩) hH ?rest5
      case hy5 => (intro w hSw; (try dsimp only at hSw); go_simp; with_reducible rfl)
      try simp only [Act.put, List.setIfInBounds_toArray, List.set_cons_zero, List.set_cons_succ]
      refine wpAnyK_take (i := 5) [12] (v := ?v6) rfl (by kernel_rfl) (by kernel_rfl) (by kernel_rfl) (by kernel_rfl) (fun _ _ _ h => h) (Or.inl ⟨by rfl, ?hy6⟩) hH ?rest6
      case hy6 => (intro w hSw; (try dsimp only at hSw); go_simp; with_reducible rfl)
      try simp only [Act.put, List.setIfInBounds_toArray, List.set_cons_zero, List.set_cons_succ]
      refine wpAnyK_take (i := 6) [12] (v := ?v7) rfl (by kernel_rfl) (by kernel_rfl) (by kernel_rfl) (by kernel_rfl) (fun _ _ _ h => h) (Or.inl ⟨by rfl, ?hy7⟩) hH ?rest7
      case hy7 => (intro w hSw; (try dsimp only at hSw); go_simp; with_reducible rfl)
      try simp only [Act.put, List.setIfInBounds_toArray, List.set_cons_zero, List.set_cons_succ]
      refine wpAnyK_take (i := 7) [12] (v := ?v8) rfl (by kernel_rfl) (by kernel_rfl) (by kernel_rfl) (by kernel_rfl) (fun _ _ _ h => h) (Or.inl ⟨by rfl, ?hy8⟩) hH ?rest8
      case hy8 => (intro w hSw; (try dsimp only at hSw); go_simp; with_reducible rfl)
      try simp only [Act.put, List.setIfInBounds_toArray, List.set_cons_zero, List.set_cons_succ]
      refine wpAnyK_take (i := 8) [12] (v := ?v9) rfl (by kernel_rfl) (by kernel_rfl) (by kernel_rfl) (by kernel_rfl) (fun _ _ _ h => h) (Or.inl ⟨by rfl, ?hy9⟩) hH ?rest9
      case hy9 => (intro w hSw; (try dsimp only at hSw); go_simp; with_reducible rfl)
      try simp only [Act.put, List.setIfInBounds_toArray, List.set_cons_zero, List.set_cons_succ]
      refine wpAnyK_take (i := 9) [12] (v := ?v10) rfl (by kernel_rfl) (by kernel_rfl) (by kernel_rfl) (by kernel_rfl) (fun _ _ _ h => h) (Or.inl ⟨by rfl, ?hy10⟩) hH ?rest10
      case hy10 => (intro w hSw; (try dsimp only at hSw); go_simp; with_reducible rfl)
      try simp only [Act.put, List.setIfInBounds_toArray, List.set_cons_zero, List.set_cons_succ]
      refine wpAnyK_take (i := 10) [12] (v := ?v11) rfl (by kernel_rfl) (by kernel_rfl) (by kernel_rfl) (by kernel_rfl) (fun _ _ _ h => h) (Or.inl ⟨by rfl, ?hy11⟩) hH ?rest11
      case hy11 => (intro w hSw; (try dsimp only at hSw); go_simp; with_reducible rfl)
      try simp only [Act.put, List.setIfInBounds_toArray, List.set_cons_zero, List.set_cons_succ]
      refine wpAnyK_one (i := 11) (by kernel_rfl) rfl (fun K hK => ?_) (by kernel_rfl)
      go_simp
      refine hK.out _ _ ⟨(HB4.out.1.cell (p := ⟨g, i * 3 + 1, none⟩) HB4.out.2.2.2.2).trans k1', (HB4.out.1.cell (p := ⟨g, i * 3 + 2, none⟩) HB4.out.2.2.2.2).trans k2'⟩ (fun hH => ?_)
      clear hK K
      try simp only [Act.put, List.setIfInBounds_toArray, List.set_cons_zero, List.set_cons_succ]
      refine wpAnyK_last (by kernel_rfl) rfl (fun K hK => ?_) (by kernel_rfl)
      go_simp
      refine hK.out _ _ (wpAnyK_done (by kernel_rfl) ?_ _)
      clear hK K hH hconv kd1 kd2
      obtain ⟨sp, hsp⟩ : ∃ sp, decide (0 < kp ∧ 1 ≤ flip ∧ flip ≤ 255) = sp := ⟨_, rfl⟩
      have HSPB := Lib.hid hsp
      clear hsp
      go_upto_region 16 with fail
      go_cut [85] from 21 (fun t wx => t = .bool sp ∧ wx = w4)
      case first =>
        rcases (by omega : kp = 0 ∨ (0 < kp ∧ flip < 1) ∨ (0 < kp ∧ 255 < flip) ∨ (0 < kp ∧ 1 ≤ flip ∧ flip ≤ 255)) with hw | hw | hw | hw
        · have hsf : sp = false := by rw [← HSPB.out]; simp; omega
          subst hsf
          have t1 : decide ((0 : Int) < (kp : Int)) = false := by simp; omega
          have t1n : decide (0 < kp) = false := by simp; omega
          have t1m : ¬ 0 < kp := by omega
          clear hw
          go_wp2
          go_meet
          case rel => exact ⟨rfl, rfl⟩
        · have hsf : sp = false := by rw [← HSPB.out]; simp; omega
          subst hsf
          have t1 : decide ((0 : Int) < (kp : Int)) = true := by simp; omega
          have t1n : decide (0 < kp) = true := by simp; omega
          have t1m : 0 < kp := by omega
          have t2 : decide ((1 : Int) ≤ flip) = false := by simp; omega
          clear hw
          go_wp2
          go_meet
          case rel => exact ⟨rfl, rfl⟩
        · have hsf : sp = false := by rw [← HSPB.out]; simp; omega
          subst hsf
          have t1 : decide ((0 : Int) < (kp : Int)) = true := by simp; omega
          have t1n : decide (0 < kp) = true := by simp; omega
          have t1m : 0 < kp := by omega
          have t2 : decide ((1 : Int) ≤ flip) = true := by simp; omega
          have t3 : decide (flip ≤ (255 : Int)) = false := by simp; omega
          clear hw
          go_wp2
          go_meet
          case rel => exact ⟨rfl, rfl⟩
        · have hsf : sp = true := by rw [← HSPB.out]; simp; omega
          subst hsf
          have t1 : decide ((0 : Int) < (kp : Int)) = true := by simp; omega
          have t1n : decide (0 < kp) = true := by simp; omega
          have t1m : 0 < kp := by omega
          have t2 : decide ((1 : Int) ≤ flip) = true := by simp; omega
          have t3 : decide (flip ≤ (255 : Int)) = true := by simp; omega
          clear hw
          go_wp2
          go_meet
          case rel => exact ⟨rfl, rfl⟩
      case rest =>
      obtain ⟨rfl, rfl⟩ := hcut
      go_upto_if 85 with fail
      go_cut [11] from 21 (fun x wx => x = .slice (some ⟨bq, 0, none⟩) (fs + kp) ccap ∧ HasB wx bq (kept ⟨fd, fs⟩ cval flip) ∧ (kept ⟨fd, fs⟩ cval flip).length = fs + kp ∧ Below wr.heap.size wr wx)
      case first =>
        cases sp with
        | false =>
          have hno : ¬ (0 < kp ∧ 1 ≤ flip ∧ flip ≤ 255) := by
            have := HSPB.out
            simpa using this
          have hkeep : kept ⟨fd, fs⟩ cval flip = fd.data.toList.take (fs + kp) := by
            unfold kept
            rw [HR.out.2.2.2.2.2.2.2.2.2.1]
            exact if_neg hno
          have HKE := Lib.hid hkeep
          clear hkeep hno
          go_wp2
          go_meet
          case rel => exact ⟨rfl, by rw [HKE.out]; exact HB4.out.2.1, by rw [HKE.out]; exact HB4.out.2.2.1, HB4.out.1⟩
        | true =>
          have hw : 0 < kp ∧ 1 ≤ flip ∧ flip ≤ 255 := by
            have := HSPB.out
            simpa using this
          have hkeep : kept ⟨fd, fs⟩ cval flip = spoil (fd.data.toList.take (fs + kp)) flip := by
            unfold kept
            rw [HR.out.2.2.2.2.2.2.2.2.2.1]
            exact if_pos hw
          have HKE := Lib.hid hkeep
          have hj0 : fs + kp - 1 < (fd.data.toList.take (fs + kp)).length := by rw [HB4.out.2.2.1]; omega
          obtain ⟨lb, hlb⟩ : ∃ lb, (fd.data.toList.take (fs + kp))[fs + kp - 1]? = some lb := ⟨_, List.getElem?_eq_getElem hj0⟩
          have u1 := (HB4.out.2.1 (fs + kp - 1) hj0).1
          have u2 := (HB4.out.2.1 (fs + kp - 1) hj0).2
          have e0 := hlb
          rw [List.getElem?_eq_getElem hj0] at e0
          rw [Option.some.inj e0] at u1
          have HLB := Lib.hid hlb
          obtain ⟨pq, hpq⟩ : ∃ pq, fs + kp = pq + 1 := ⟨fs + kp - 1, by omega⟩
          have hpq1 : fs + kp - 1 = pq := by omega
          rw [hpq1] at u1 u2
          have HPQ := Lib.hid (And.intro hpq hpq1)
          have hpb : pq < 1048576 := by omega
          have hxr : bits BinOp.xor IntKind.u8 (lb.toNat : Int) (flip % 256) = ((lb ^^^ UInt8.ofNat flip.toNat).toNat : Int) := by
            rw [show flip % 256 = flip by omega, u8_xor _ _ (by omega) (by have := lb.toNat_lt; omega) (by omega) (by omega), UInt8.toNat_xor, UInt8.toNat_ofNat', Int.toNat_natCast, Nat.mod_eq_of_lt (show flip.toNat < 2 ^ 8 by omega)]
          have hxr2 : bits BinOp.xor IntKind.u8 (lb.toNat : Int) flip = ((lb ^^^ UInt8.ofNat flip.toNat).toNat : Int) := by
            rw [u8_xor _ _ (by omega) (by have := lb.toNat_lt; omega) (by omega) (by omega), UInt8.toNat_xor, UInt8.toNat_ofNat', Int.toNat_natCast, Nat.mod_eq_of_lt (show flip.toNat < 2 ^ 8 by omega)]
          have HXR := Lib.hid (And.intro hxr hxr2)
          have f1 : 1 ≤ flip := hw.2.1
          have f2 : flip ≤ 255 := hw.2.2
          have hspo : spoil (fd.data.toList.take (fs + kp)) flip = (fd.data.toList.take (fs + kp)).set (fs + kp - 1) (lb ^^^ UInt8.ofNat flip.toNat) := by
            unfold spoil
            rw [HB4.out.2.2.1, List.getD_eq_getElem?_getD, HLB.out]
            rfl
          have HSP := Lib.hid hspo
          clear hw hkeep hlb e0 hj0 hspo hpq1 hxr hxr2
          rw [hpq]
          go_wp2
          go_meet
          case rel =>
            refine ⟨by rw [HPQ.out.1], ?_, by rw [HKE.out, spoil_len, HB4.out.2.2.1], ?_⟩
            · rw [HKE.out, HSP.out, HPQ.out.2]
              first | exact HB4.out.2.1.set _ _ | (rw [HXR.out.1]; exact HB4.out.2.1.set _ _) | (rw [HXR.out.2]; exact HB4.out.2.1.set _ _)
            · exact HB4.out.1.setCell (Nat.le_of_eq HB4.out.2.2.2.1) _
      case rest =>
      obtain ⟨rfl, hH5, hlk5, hb5⟩ := hcut
      rename World => wx
      have hd5 := HR.out.1.below hb5
      have ho5 := row_below HR.out.2.2.1 hb5
      have ht5 := HR.out.2.1.trans (Tn.ofBelow hb5)
      have hstr : (convert 123 9 (.slice (some ⟨bq, 0, none⟩) (fs + kp) ccap)).run Tryz.prog wx = .ok (.string ⟨(kept ⟨fd, fs⟩ cval flip).toArray⟩) wx := hH5.str _ _ hlk5.symm
      have hcut2 : cutF ⟨fd, fs⟩ cval flip = ⟨⟨(kept ⟨fd, fs⟩ cval flip).toArray⟩, fs + kp⟩ := by
        unfold cutF
        rw [hlk5]
      obtain ⟨sv, hsv⟩ : ∃ sv : ByteArray, (⟨(kept ⟨fd, fs⟩ cval flip).toArray⟩ : ByteArray) = sv := ⟨_, rfl⟩
      rw [hsv] at hstr hcut2
      have hrow5 : wx.ownsRow 0 121 3 (.slice (some ⟨g, 0, none⟩) nm2 cap) nm2 (m.flatMap cFl) := by
        have h9 : wx.ownsRow 0 121 3 (.slice (some ⟨g, 0, none⟩) nm2 cap) m.length (m.flatMap cFl) := hd5.row
        rwa [HR.out.2.2.2.2.2.2.2.2.2.2.1] at h9
      have z1 : wx.frozen? ⟨g, i * 3 + 1, none⟩ = false := World.ownsRow.frozenAt hrow5 _
      have z2 : wx.frozen? ⟨g, i * 3 + 2, none⟩ = false := World.ownsRow.frozenAt hrow5 _
      have y1 := (hb5.cell (p := ⟨g, i * 3 + 1, none⟩) HB4.out.2.2.2.2).trans k1'
      have y2 := (hb5.cell (p := ⟨g, i * 3 + 2, none⟩) HB4.out.2.2.2.2).trans k2'
      have e7 : crashL cuts flip (R.names.take (k + 1)) 0 R.m = setL m nm (cutF ⟨fd, fs⟩ cval flip) := by
        rw [List.take_succ_eq_append_getElem hkn, crashL_app, HR.out.2.2.2.2.2.2.1, HR.out.2.2.2.2.2.2.2.1, HR.out.2.2.2.1]
        simp only [Nat.zero_add]
        rw [List.length_take_of_le (Nat.le_of_lt hkn), HR.out.2.2.2.2.2.2.2.2.1]
      have HFIN : Hid (∀ v : Int, v = ((fs + kp : Nat) : Int) → RfAt F ((wx.setCell ⟨g, i * 3 + 1, none⟩ (.string sv)).setCell ⟨g, i * 3 + 2, none⟩ (.int .i64 v)) rb (.slice (some ⟨g, 0, none⟩) nm2 cap) { R with m := crashL cuts flip (R.names.take (k + 1)) 0 R.m, on := false } ∧
          Tn (RFoot rb (.slice (some ⟨g, 0, none⟩) nm2 cap)) w ((wx.setCell ⟨g, i * 3 + 1, none⟩ (.string sv)).setCell ⟨g, i * 3 + 2, none⟩ (.int .i64 v)) ∧ Own kTexts ((wx.setCell ⟨g, i * 3 + 1, none⟩ (.string sv)).setCell ⟨g, i * 3 + 2, none⟩ (.int .i64 v)) w.heap.size (.slice (some ⟨gl, 0, none⟩) n cn) R.names) := by
        intro v hv
        subst hv
        have h6 := fset (x' := (nm, ⟨sv, fs⟩)) (u := .string sv) hd5.row HR.out.2.2.2.2.2.2.2.2.2.2.1 (i := i) hi (j := 1) (by decide) (by
          show (cFl m[i]).set 1 _ = _
          rw [HR.out.2.2.2.2.2.1]
          rfl)
        have h7 := fset (x' := (nm, ⟨sv, fs + kp⟩)) (u := .int .i64 ((fs + kp : Nat) : Int)) h6 (by rw [List.length_set]; exact HR.out.2.2.2.2.2.2.2.2.2.2.1) (i := i) (by rw [List.length_set]; exact hi) (j := 2) (by decide) (by
          rw [List.getElem_set_self]
          rfl)
        rw [List.set_set] at h7
        have hst := HR.out.2.2.2.2.1 (cutF ⟨fd, fs⟩ cval flip)
        have hm7 : m.set i (nm, ⟨sv, fs + kp⟩) = crashL cuts flip (R.names.take (k + 1)) 0 R.m := by
          rw [e7, hcut2]
          rw [hcut2] at hst
          exact hst.symm
        have hrow : Own eFl ((wx.setCell ⟨g, i * 3 + 1, none⟩ (.string sv)).setCell ⟨g, i * 3 + 2, none⟩ (.int .i64 ((fs + kp : Nat) : Int))) 0 (.slice (some ⟨g, 0, none⟩) nm2 cap) (crashL cuts flip (R.names.take (k + 1)) 0 R.m) := by
          rw [← hm7]
          exact h7
        have htg : Tn (fun q => q = g) wx ((wx.setCell ⟨g, i * 3 + 1, none⟩ (.string sv)).setCell ⟨g, i * 3 + 2, none⟩ (.int .i64 ((fs + kp : Nat) : Int))) :=
          (Tn.setCell (F := fun q => q = g) wx ⟨g, i * 3 + 1, none⟩ (.string sv) rfl).trans (Tn.setCell (F := fun q => q = g) _ ⟨g, i * 3 + 2, none⟩ _ rfl)
        have hgr : g ≠ rb := fun e => hd5.ne (by rw [e]; rfl)
        have hgF : RFoot rb (.slice (some ⟨g, 0, none⟩) nm2 cap) g := .inr rfl
        have h8 := hd5.rows (m := crashL cuts flip (R.names.take (k + 1)) 0 R.m) htg (fun q _ e => by rw [e]; exact ⟨H.out.2.1 g hgF, hgr⟩) hrow hd5.ne rfl (crashK_ok H.out.1.ok cuts flip _) (crashK_nd H.out.1.nd cuts flip _)
        refine ⟨h8, ht5.trans (htg.mono (fun q e => by rw [e]; exact hgF)), htg.row ho5 (fun q hq e => ?_)⟩
        have h1 := (ho5.lt q hq).1
        have h2 := H.out.1.lt g hgF
        omega
      clear hd5 ho5 ht5 hcut2 hsv e7 hH5 hlk5 hrow5
      go_wp2
      go_roundw
      case rel =>
        obtain ⟨f1', f2', f3'⟩ := HFIN.out _ (by push_cast; rfl)
        exact ⟨k + 1, by omega, by go_num, f1', f2', f3'⟩
      case measure => simp [intOf]; omega
    · obtain rfl : k = n := by omega
      have hall : R.names.take k = R.names := List.take_of_length_le (by rw [HN.out]; omega)
      rw [hall] at hd
      have HD := Lib.hid (And.intro hd ht)
      clear hall hd ht ho
      go_wp2
      go_end0
      exact ⟨rfl, HD.out.1, HD.out.2⟩
end Go.Proofs.YtceamkcaokdgaaaGreatDoor
/-
  The document's disk: Crash whatever there is, burn; what the acts make of it.
-/
namespace Go.Proofs.YtceamkcaokdgaaaGreatDoor
open Go.RowKit
variable {F G : Nat → Prop} {w w' w2 : World} {rb : Nat} {lv lv' : Value} {R R' : Dk}

theorem rcrash_any (h : RfAt F w rb lv R) (hF : ∀ q, RFoot rb lv q → F q) {v : Value} {cuts : List Int} (hr : RdC (RFoot rb lv) w v cuts) (hcl : cuts.length ≤ 1000000) (flip : Int) :
    Calls Tryz.prog 35 #[.pointer (some ⟨rb, 0, none⟩), v, .int .i64 flip] w fun e w' => e = .returned (.tuple #[]) ∧ RfAt F w' rb lv (R.crash cuts flip) ∧ Tn (RFoot rb lv) w w' := by
  cases hon : R.on with
  | true => exact rcrash_on h hF hon hr hcl flip
  | false =>
    have c1 := h.c1
    rw [hon] at c1
    have hcr : R.crash cuts flip = R := by unfold Dk.crash; rw [hon]; rfl
    rw [hcr]
    have H := Lib.hid h
    clear h hF hr hcr hon
    go_enter Tryz.func35, Tryz.ntmps35
    go_wp2
    (try simp only [Exit.inBlock, Exit.then]); exact bodyPost_ret (results_none rfl _ _ _) rfl ⟨rfl, H.out, Tn.refl _ _⟩

def Dk.burn (R : Dk) : Bool × Dk :=
  match R.fuse with
  | none => (false, { R with acts := R.acts + 1 })
  | some ⟨0, cuts, flip⟩ => (true, Dk.crash { R with fuse := none } cuts flip)
  | some ⟨n + 1, cuts, flip⟩ => (false, { R with fuse := some ⟨n, cuts, flip⟩, acts := R.acts + 1 })
theorem ract_burn (R : Dk) (f : Fm → Fm) : R.act f = if R.burn.1 = true then (20, R.burn.2) else (0, { R.burn.2 with m := f R.m }) := by
  unfold Dk.act Dk.burn
  cases R.fuse with
  | none => rfl
  | some z =>
    obtain ⟨n, cuts, flip⟩ := z
    cases n <;> rfl
theorem burn_m (h : R.burn.1 = false) : R.burn.2.m = R.m := by
  revert h
  unfold Dk.burn
  cases R.fuse with
  | none => intro _; rfl
  | some z =>
    obtain ⟨n, cuts, flip⟩ := z
    cases n with
    | zero => intro h; cases h
    | succ n => intro _; rfl
theorem RfAt.set6 (h : RfAt F w rb lv R) (hF : F rb) (n : Nat) (hn : n ≤ 1000000) : RfAt F (w.setCell ⟨rb, 6, none⟩ (.int .i64 (n : Int))) rb lv { R with acts := n } := by
  obtain ⟨x, h4, h4b⟩ := h.c4
  exact h.store (Tn.setCell _ _ _ rfl) (by rw [other_cell _ (by decide)]; exact h.c0) (by rw [other_cell _ (by decide)]; exact h.c1) (by rw [other_cell _ (by decide)]; exact h.c2) (by rw [other_cell _ (by decide)]; exact h.c3) ⟨x, by rw [other_cell _ (by decide)]; exact h4, h4b⟩ (h.c5' hF _ (by decide)) (World.cell?_setCell_same _ _ _ h.c6) (fun j => World.frozen?_setCell _ _ _ _) rfl ⟨h.ok.nam, h.ok.syn, h.ok.few, hn, h.ok.quota, h.ok.fuse⟩
theorem RfAt.set2 (h : RfAt F w rb lv R) (hF : F rb) (n : Int) (hn : -1 ≤ n ∧ n ≤ 9223372036854775807) : RfAt F (w.setCell ⟨rb, 2, none⟩ (.int .i64 n)) rb lv { R with quota := n } := by
  obtain ⟨x, h4, h4b⟩ := h.c4
  exact h.store (Tn.setCell _ _ _ rfl) (by rw [other_cell _ (by decide)]; exact h.c0) (by rw [other_cell _ (by decide)]; exact h.c1) (World.cell?_setCell_same _ _ _ h.c2) (by rw [other_cell _ (by decide)]; exact h.c3) ⟨x, by rw [other_cell _ (by decide)]; exact h4, h4b⟩ (h.c5' hF _ (by decide)) (by rw [other_cell _ (by decide)]; exact h.c6) (fun j => World.frozen?_setCell _ _ _ _) rfl ⟨h.ok.nam, h.ok.syn, h.ok.few, h.ok.acts, hn, h.ok.fuse⟩
theorem RfAt.set3 (h : RfAt F w rb lv R) (hF : F rb) (z' : Option Fz) (hz : ∀ z, z' = some z → ∃ y, R.fuse = some y ∧ y.cuts = z.cuts ∧ y.flip = z.flip ∧ z.n ≤ y.n) : RfAt F (w.setCell ⟨rb, 3, none⟩ (.int .i64 (fzN z'))) rb lv { R with fuse := z' } := by
  obtain ⟨x, h4, h4b⟩ := h.c4
  obtain ⟨a, n, c, h5, h5b⟩ := h.c5' hF (.int .i64 (fzN z')) (j := 3) (by decide)
  refine h.store (Tn.setCell _ _ _ rfl) (by rw [other_cell _ (by decide)]; exact h.c0) (by rw [other_cell _ (by decide)]; exact h.c1) (by rw [other_cell _ (by decide)]; exact h.c2) (World.cell?_setCell_same _ _ _ h.c3) ⟨x, by rw [other_cell _ (by decide)]; exact h4, fun z e => ?_⟩ ⟨a, n, c, h5, fun z e => ?_⟩ (by rw [other_cell _ (by decide)]; exact h.c6) (fun j => World.frozen?_setCell _ _ _ _) rfl ⟨h.ok.nam, h.ok.syn, h.ok.few, h.ok.acts, h.ok.quota, fun z e => ?_⟩
  · obtain ⟨y, e1, e2, e3, e4⟩ := hz z e
    rw [← e3]
    exact h4b y e1
  · obtain ⟨y, e1, e2, e3, e4⟩ := hz z e
    rw [← e2]
    exact h5b y e1
  · obtain ⟨y, e1, e2, e3, e4⟩ := hz z e
    have := h.ok.fuse y e1
    rw [← e2]
    exact ⟨by omega, this.2⟩
set_option maxRecDepth 100000 in
set_option maxHeartbeats 1000000 in
theorem rburn_any (h : RfAt F w rb lv R) (hF : ∀ q, RFoot rb lv q → F q) (hk : R.acts < 1000000) :
    Calls Tryz.prog 117 #[.pointer (some ⟨rb, 0, none⟩)] w fun e w' => e = .returned (.bool R.burn.1) ∧ RfAt F w' rb lv R.burn.2 ∧ Tn (RFoot rb lv) w w' := by
  have hFr := hF rb (.inl rfl)
  have c3 := h.c3
  have c6 := h.c6
  have f3 := h.fz 3
  have f6 := h.fz 6
  cases hz : R.fuse with
  | none =>
    have hb : R.burn = (false, { R with acts := R.acts + 1 }) := by unfold Dk.burn; rw [hz]
    rw [hb]
    rw [hz] at c3
    replace c3 : w.cell? ⟨rb, 3, none⟩ = some (.int .i64 (-1)) := c3
    have H := Lib.hid h
    have HFR := Lib.hid hFr
    clear h hF hb hz hFr
    go_enter Tryz.func117, Tryz.ntmps117
    go_wp2
    go_ret
    exact ⟨rfl, by have := H.out.set6 HFR.out (R.acts + 1) (by omega); push_cast at this; exact this, Tn.setCell _ _ _ (.inl rfl)⟩
  | some z =>
    obtain ⟨n, cuts, flip⟩ := z
    rw [hz] at c3
    replace c3 : w.cell? ⟨rb, 3, none⟩ = some (.int .i64 (n : Int)) := c3
    cases n with
    | zero =>
      have hb : R.burn = (true, Dk.crash { R with fuse := none } cuts flip) := by unfold Dk.burn; rw [hz]
      rw [hb]
      have h3 := h.set3 hFr none (fun z e => by cases e)
      have t3 : Tn (RFoot rb lv) w (w.setCell ⟨rb, 3, none⟩ (.int .i64 (-1))) := Tn.setCell _ _ _ (.inl rfl)
      have h3 : RfAt F (w.setCell ⟨rb, 3, none⟩ (.int .i64 (-1))) rb lv { R with fuse := none } := h3
      obtain ⟨w1, hw1⟩ : ∃ w1, w.setCell ⟨rb, 3, none⟩ (.int .i64 (-1)) = w1 := ⟨_, rfl⟩
      obtain ⟨x, h4, h4b⟩ := h.c4
      obtain ⟨a, m, c, h5, h5b⟩ := h.c5
      have hcl := (h.ok.fuse _ hz).2
      obtain rfl : flip = x := h4b _ hz
      have h5c := (h5b _ hz).tn (G := RFoot rb lv) t3 (fun q _ e => hF q e)
      have g4 : w1.cell? ⟨rb, 4, none⟩ = some (.int .i64 flip) := by rw [← hw1, other_cell _ (by decide)]; exact h4
      have g5 : w1.cell? ⟨rb, 5, none⟩ = some (.slice a m c) := by rw [← hw1, other_cell _ (by decide)]; exact h5
      rw [hw1] at h3 t3 h5c
      have hcr := fun (d : Nat) => rcrash_any (h3.below (below_drewN (Below.refl _ w1) d)) hF (RdC.tn (G := fun _ => False) (h5c.mono hF) (Tn.ofBelow (below_drewN (Below.refl _ w1) d)) (fun _ _ e => e.elim)) hcl flip
      have HCR := Lib.hid hcr
      have HT := Lib.hid t3
      clear h hF hb hz hFr h4 h4b h5 h5b hcl h5c hcr t3 h3
      go_enter Tryz.func117, Tryz.ntmps117
      go_wp2
      have g4' : (w1.drewN 1).cell? ⟨rb, 4, none⟩ = some (.int .i64 flip) := g4
      have g5' : (w1.drewN 1).cell? ⟨rb, 5, none⟩ = some (.slice a m c) := g5
      refine wp_region_K (fun w' => w' = w1.drewN 1 ∧ w'.cell? ⟨rb, 4, none⟩ = some (.int .i64 flip) ∧ w'.cell? ⟨rb, 5, none⟩ = some (.slice a m c)) 9 10 (by kernel_rfl) (by kernel_rfl) ⟨rfl, g4', g5'⟩ (fun hH => ?_)
      refine wpAnyK_take (i := 0) [9] (v := ?v12) rfl (by kernel_rfl) (by kernel_rfl) (by kernel_rfl) (by kernel_rfl) (fun _ _ _ h => h) (Or.inl ⟨by rfl, ?hy12⟩) hH ?rest12
      case hy12 => (intro w hSw; (try dsimp only at hSw); go_simp; with_reducible rfl)
      try simp only [Act.put, List.setIfInBounds_toArray, List.set_cons_zero, List.set_cons_succ]
      refine wpAnyK_take (i := 1) [2, 3, 4, 9] (v := ?v13) rfl (by kernel_rfl) (by kernel_rfl) (by kernel_rfl) (by kernel_rfl) (fun _ _ _ h => h) (Or.inl ⟨by rfl, ?hy13⟩) hH ?rest13
      case hy13 => (intro w hSw; (try dsimp only at hSw); go_simp; with_reducible rfl)
      try simp only [Act.put, List.setIfInBounds_toArray, List.set_cons_zero, List.set_cons_succ]
      refine wpAnyK_take (i := 2) [3, 4, 9] (v := ?v14) rfl (by kernel_rfl) (by kernel_rfl) (by kernel_rfl) (by kernel_rfl) (fun _ _ _ h => h) (Or.inl ⟨by rfl, ?hy14⟩) hH ?rest14
      case hy14 => (intro w hSw; (try dsimp only at hSw); go_simp; with_reducible rfl)
      try simp only [Act.put, List.setIfInBounds_toArray, List.set_cons_zero, List.set_cons_succ]
      refine wpAnyK_take (i := 3) [4, 9] (v := ?v15) rfl (by kernel_rfl) (by kernel_rfl) (by kernel_rfl) (by kernel_rfl) (fun _ _ _ h => h) (Or.inl ⟨by rfl, ?hy15⟩) hH ?rest15
      case hy15 => (intro w hSw; (try dsimp only at hSw); go_simp; with_reducible rfl)
      try simp only [Act.put, List.setIfInBounds_toArray, List.set_cons_zero, List.set_cons_succ]
      refine wpAnyK_take (i := 4) [9] (v := ?v16) rfl (by kernel_rfl) (by kernel_rfl) (by kernel_rfl) (by kernel_rfl) (fun _ _ _ h => h) (Or.inl ⟨by rfl, ?hy16⟩) hH ?rest16
      case hy16 => (intro w hSw; (try dsimp only at hSw); go_simp; with_reducible rfl)
      try simp only [Act.put, List.setIfInBounds_toArray, List.set_cons_zero, List.set_cons_succ]
      refine wpAnyK_take (i := 5) [6, 7, 8, 9] (v := ?v17) rfl (by kernel_rfl) (by kernel_rfl) (by kernel_rfl) (by kernel_rfl) (fun _ _ _ h => h) (Or.inl ⟨by rfl, ?hy17⟩) hH ?rest17
      case hy17 => (intro w hSw; (try dsimp only at hSw); go_simp; with_reducible rfl)
      try simp only [Act.put, List.setIfInBounds_toArray, List.set_cons_zero, List.set_cons_succ]
      refine wpAnyK_take (i := 6) [7, 8, 9] (v := ?v18) rfl (by kernel_rfl) (by kernel_rfl) (by kernel_rfl) (by kernel_rfl) (fun _ _ _ h => h) (Or.inl ⟨by rfl, ?hy18⟩) hH ?rest18
      case hy18 => (intro w hSw; (try dsimp only at hSw); go_simp; with_reducible rfl)
      try simp only [Act.put, List.setIfInBounds_toArray, List.set_cons_zero, List.set_cons_succ]
      refine wpAnyK_take (i := 7) [8, 9] (v := ?v19) rfl (by kernel_rfl) (by kernel_rfl) (by kernel_rfl) (by kernel_rfl) (fun _ _ _ h => h) (Or.inl ⟨by rfl, ?hy19⟩) hH ?rest19
      case hy19 => (intro w hSw; (try dsimp only at hSw); go_simp; with_reducible rfl)
      try simp only [Act.put, List.setIfInBounds_toArray, List.set_cons_zero, List.set_cons_succ]
      refine wpAnyK_take (i := 8) [9] (v := ?v20) rfl (by kernel_rfl) (by kernel_rfl) (by kernel_rfl) (by kernel_rfl) (fun _ _ _ h => h) (Or.inl ⟨by rfl, ?hy20⟩) hH ?rest20
      case hy20 => (intro w hSw; (try dsimp only at hSw); go_simp; with_reducible rfl)
      try simp only [Act.put, List.setIfInBounds_toArray, List.set_cons_zero, List.set_cons_succ]
      refine wpAnyK_last (by kernel_rfl) rfl (fun K hK => ?_) (by kernel_rfl)
      go_simp
      go_at_call 35
      with_reducible refine (HCR.out 1).mono ?_
      rintro e w5 ⟨rfl, hd5, ht5⟩
      have HD5 := Lib.hid (And.intro hd5 ((HT.out.trans (Tn.ofBelow (below_drewN (Below.refl _ w1) 1))).trans ht5))
      clear hd5 ht5
      refine hK.out _ _ (wpAnyK_done (by kernel_rfl) ?_ _)
      clear hK K hH
      go_wp2
      go_ret
      exact ⟨rfl, HD5.out.1, HD5.out.2⟩
    | succ n =>
      have hb : R.burn = (false, { R with fuse := some ⟨n, cuts, flip⟩, acts := R.acts + 1 }) := by unfold Dk.burn; rw [hz]
      rw [hb]
      have hnb := (h.ok.fuse _ hz).1
      have h3 := h.set3 hFr (some ⟨n, cuts, flip⟩) (fun z e => by injection e with e; subst e; exact ⟨_, hz, rfl, rfl, Nat.le_succ n⟩)
      have t3 : Tn (RFoot rb lv) w (w.setCell ⟨rb, 3, none⟩ (.int .i64 (n : Int))) := Tn.setCell _ _ _ (.inl rfl)
      have h3 : RfAt F (w.setCell ⟨rb, 3, none⟩ (.int .i64 (n : Int))) rb lv { R with fuse := some ⟨n, cuts, flip⟩ } := h3
      have h6 := h3.set6 hFr (R.acts + 1) (by omega)
      have t6 := t3.trans (Tn.setCell (F := RFoot rb lv) _ ⟨rb, 6, none⟩ (.int .i64 ((R.acts + 1 : Nat) : Int)) (.inl rfl))
      replace c3 : w.cell? ⟨rb, 3, none⟩ = some (.int .i64 ((n : Int) + 1)) := by rw [c3]; congr 2
      have H := Lib.hid (And.intro h6 t6)
      have hnb2 : n ≤ 9223372036854775806 := by have : n + 1 ≤ 9223372036854775807 := hnb; omega
      clear h hF hb hz hFr h3 t3 h6 t6 hnb
      go_enter Tryz.func117, Tryz.ntmps117
      go_wp2
      go_ret
      exact ⟨rfl, by have := H.out.1; push_cast at this; exact this, by have := H.out.2; push_cast at this; exact this⟩
end Go.Proofs.YtceamkcaokdgaaaGreatDoor
/-
  The document's disk: Create, Append, Sync, take, Remove.
-/
namespace Go.Proofs.YtceamkcaokdgaaaGreatDoor
open Go.RowKit
variable {F G : Nat → Prop} {w w' w2 : World} {rb : Nat} {lv lv' : Value} {R R' : Dk}

/-- What a call on the document's disk leaves. -/
def RStep (F : Nat → Prop) (w w' : World) (rb : Nat) (lv : Value) (R' : Dk) : Prop := ∃ lv', RfAt F w' rb lv' R' ∧ Tn (RFoot rb lv) w w' ∧ ∀ q, lv'.ownBlock = some q → lv.ownBlock = some q ∨ w.heap.size ≤ q
theorem RStep.same (h : RfAt F w rb lv R) : RStep F w w rb lv R := ⟨lv, h, Tn.refl _ _, fun _ e => .inl e⟩
theorem RStep.of (h : RfAt F w' rb lv R) (t : Tn (RFoot rb lv) w w') : RStep F w w' rb lv R := ⟨lv, h, t, fun _ e => .inl e⟩
theorem RfAt.file {g n cap : Nat} (h : RfAt F w rb (.slice (some ⟨g, 0, none⟩) n cap) R) (hF : ∀ q, RFoot rb (.slice (some ⟨g, 0, none⟩) n cap) q → F q) {i j : Nat} (hi : i < R.m.length) (hj : j < 3) {u : Value} {x' : ByteArray × Fl} {m' : Fm} (hx : (cFl R.m[i]).set j u = cFl x') (hm : R.m.set i x' = m') (hok : ({ R with m := m' } : Dk).Ok) (hnd : keysN m') :
    RfAt F (w.setCell ⟨g, i * 3 + j, none⟩ u) rb (.slice (some ⟨g, 0, none⟩) n cap) { R with m := m' } ∧ Tn (RFoot rb (.slice (some ⟨g, 0, none⟩) n cap)) w (w.setCell ⟨g, i * 3 + j, none⟩ u) := by
  obtain ⟨_, _, e, _, _⟩ := rf_form h
  injection e with e1 e2 e3
  have hn : R.m.length = n := e2.symm
  have h6 := fset (x' := x') (u := u) h.row hn hi hj hx
  rw [hm] at h6
  have htg : Tn (fun q => q = g) w (w.setCell ⟨g, i * 3 + j, none⟩ u) := Tn.setCell (F := fun q => q = g) w ⟨g, i * 3 + j, none⟩ u rfl
  have hgr : g ≠ rb := fun e => h.ne (by rw [e]; rfl)
  have hgF : RFoot rb (.slice (some ⟨g, 0, none⟩) n cap) g := .inr rfl
  exact ⟨h.rows htg (fun q _ e => by rw [e]; exact ⟨hF g hgF, hgr⟩) h6 h.ne rfl hok hnd, htg.mono (fun q e => by rw [e]; exact hgF)⟩
theorem RfAt.relist {m' : Fm} (h : RfAt F w rb lv R) (hF : F rb) (hb : Below w.heap.size w w2) (ho : Own eFl w2 0 lv' m') (hnew : ∀ q, lv'.ownBlock = some q → w.heap.size ≤ q) (hok : ({ R with m := m' } : Dk).Ok) (hnd : keysN m') :
    RfAt F (w2.setCell ⟨rb, 0, none⟩ lv') rb lv' { R with m := m' } ∧ Tn (RFoot rb lv) w (w2.setCell ⟨rb, 0, none⟩ lv') := by
  have h2 := h.below hb
  have hrb := h.ltb
  have hne : lv'.ownBlock ≠ some rb := fun e => by have := hnew rb e; omega
  obtain ⟨x, h4, h4b⟩ := h2.c4
  obtain ⟨a, n, c, h5, h5b⟩ := h2.c5' hF lv' (j := 0) (by decide)
  refine ⟨⟨World.cell?_setCell_same _ _ _ h2.c0, by rw [other_cell _ (by decide)]; exact h2.c1, by rw [other_cell _ (by decide)]; exact h2.c2, by rw [other_cell _ (by decide)]; exact h2.c3, ⟨x, by rw [other_cell _ (by decide)]; exact h4, h4b⟩, ⟨a, n, c, h5, h5b⟩, by rw [other_cell _ (by decide)]; exact h2.c6, fun j => (World.frozen?_setCell _ _ _ _).trans (h2.fz j), ?_, hne, hok, hnd⟩, (Tn.ofBelow hb).trans (Tn.setCell _ _ _ (.inl rfl))⟩
  exact (Tn.setCell (F := fun q => q = rb) w2 ⟨rb, 0, none⟩ lv' rfl).row ho (fun q hq e => hne (by rw [hq, e]))
theorem own_new {B : Nat} {v : Value} {m : Fm} (h : Own eFl w B v m) : ∀ q, v.ownBlock = some q → B ≤ q := fun q hq => (h.lt q hq).1
theorem at_yes {m : Fm} {s : ByteArray} (h : atN m s < m.length) : (getL m s).isSome = true ∧ atI m s = (atN m s : Int) := ⟨by rw [getL_at h]; rfl, by unfold atI; rw [if_pos h]⟩
theorem at_no {m : Fm} {s : ByteArray} (h : ¬ atN m s < m.length) : getL m s = none ∧ atI m s = -1 := ⟨getL_no h, by unfold atI; rw [if_neg h]⟩
theorem ok_with {m' : Fm} (hok : R'.Ok) (hm : R'.m = R.m) (h : R.Ok) (hn : ∀ p ∈ m', p.1.size ≤ 64) (hs : ∀ p ∈ m', p.2.syn ≤ p.2.data.size ∧ p.2.data.size ≤ 1048576) (hl : m'.length ≤ 20000) : ({ R' with m := m' } : Dk).Ok := ⟨hn, hs, hl, hok.acts, hok.quota, hok.fuse⟩
theorem asked_nm {s : ByteArray} (h : R.asked [s] = 0) : s.size ≤ 64 := by
  unfold Dk.asked at h
  split at h
  · cases h
  · split at h
    · rename_i h2
      have h3 : nmB s = true := by simpa using h2
      unfold nmB at h3
      simp only [Bool.and_eq_true, decide_eq_true_eq] at h3
      exact h3.1.2
    · cases h

set_option maxRecDepth 100000 in
set_option maxHeartbeats 2000000 in
theorem rcreate_any (h : RfAt F w rb lv R) (hF : ∀ q, RFoot rb lv q → F q) (hk : R.acts < 1000000) (s : ByteArray) (hs : s.size ≤ 140737488351232) :
    Calls Tryz.prog 22 #[.pointer (some ⟨rb, 0, none⟩), .string s] w fun e w' => e = .returned (.int .i64 (R.create s).1) ∧ RStep F w w' rb lv (R.create s).2 := by
  have HG := Lib.hid (rguard_any h s hs)
  have HAT := Lib.hid (rat_any h s)
  have HBU := Lib.hid (rburn_any h hF hk)
  have c0 := h.c0
  obtain ⟨a0, cap0, hlv, _, _⟩ := rf_form h
  obtain ⟨n, hn⟩ : ∃ n, R.m.length = n := ⟨_, rfl⟩
  rw [hn] at hlv
  have hnl : n ≤ 20000 := by rw [← hn]; exact h.ok.few
  have H := Lib.hid (And.intro h hF)
  have HN := Lib.hid hn
  have HLV := Lib.hid hlv
  rw [hlv] at c0
  clear h hF hn
  by_cases ha : R.asked [s] = 0
  · rw [ha] at HG
    by_cases hi : atN R.m s < R.m.length
    · have hy := at_yes hi
      rw [hy.2] at HAT
      obtain ⟨i, hie⟩ : ∃ i, atN R.m s = i := ⟨_, rfl⟩
      rw [hie] at HAT
      have hres : R.create s = (23, R) := by unfold Dk.create; rw [ha, if_neg (by decide), if_pos hy.1]
      rw [hres]
      clear hres hy hi ha hie
      go_enter Tryz.func22, Tryz.ntmps22
      go_wp2_with (first | (go_at_call 116; refine HAT.out.mono ?_; rintro e v2 ⟨rfl, rfl⟩) | (go_at_call 115; refine HG.out.mono ?_; rintro e v1 ⟨rfl, rfl⟩))
      go_ret
      exact ⟨rfl, RStep.same H.out.1⟩
    · have hy := at_no hi
      rw [hy.2] at HAT
      by_cases hl : 20000 ≤ n
      · have hres : R.create s = (24, R) := by unfold Dk.create; rw [ha, if_neg (by decide), hy.1, if_neg (by decide), HN.out, if_pos hl]
        rw [hres]
        have t0 : (20000 : Int) ≤ (n : Int) := by omega
        clear hres hy hi ha
        go_enter Tryz.func22, Tryz.ntmps22
        go_wp2_with (first | (go_at_call 116; refine HAT.out.mono ?_; rintro e v2 ⟨rfl, rfl⟩) | (go_at_call 115; refine HG.out.mono ?_; rintro e v1 ⟨rfl, rfl⟩))
        go_ret
        exact ⟨rfl, RStep.same H.out.1⟩
      · have t0 : ¬ (20000 : Int) ≤ (n : Int) := by omega
        have hres : R.create s = if R.burn.1 = true then (20, R.burn.2) else (0, { R.burn.2 with m := setL R.m s ⟨ByteArray.empty, 0⟩ }) := by
          unfold Dk.create
          rw [ha, if_neg (by decide), hy.1, if_neg (by decide), HN.out, if_neg hl, ract_burn]
        rw [hres]
        cases hbn : R.burn.1 with
        | true =>
          rw [hbn] at HBU
          rw [if_pos rfl]
          clear hres hy hi ha hbn
          go_enter Tryz.func22, Tryz.ntmps22
          go_wp2_with (first | (go_at_call 117; refine HBU.out.mono ?_; rintro e w1 ⟨rfl, hd1, ht1⟩; have HD1 := Lib.hid (And.intro hd1 ht1); clear hd1 ht1) | (go_at_call 116; refine HAT.out.mono ?_; rintro e v2 ⟨rfl, rfl⟩) | (go_at_call 115; refine HG.out.mono ?_; rintro e v1 ⟨rfl, rfl⟩))
          go_ret
          exact ⟨rfl, RStep.of HD1.out.1 HD1.out.2⟩
        | false =>
          rw [hbn] at HBU
          rw [if_neg (by decide)]
          have hbm := burn_m hbn
          have hsz := asked_nm ha
          have HX := Lib.hid (And.intro hbm (And.intro hsz hi))
          clear hres hy hi ha hbn hbm hsz
          have HLEN : Hid (([] : Fm).length + R.m.length = n) := by unfold Hid; rw [HN.out]; simp
          go_enter Tryz.func22, Tryz.ntmps22
          go_wp2_with (first
            | (at_builtin; refine wpl_app eFl rfl _ _ rfl rfl rfl (l := R.m) (l2 := [(s, (⟨ByteArray.empty, 0⟩ : Fl))]) (B := w1.heap.size) (row_below H3.out.1 ((Below.refl _ _).alloc (Nat.le_refl _) _)) (src_one w3 (s, (⟨ByteArray.empty, 0⟩ : Fl)) _ _ rfl 1) (by rw [HN.out]; simp; omega) (by have := H3.out.2.size; simp; omega) ?_; rw [HN.out]; intro a5 cap5 w5 ho5 hb5 _ _; have H5 := Lib.hid (And.intro ho5 ((H3.out.2.alloc H3.out.2.size (.cells #[.string s, .string ⟨#[]⟩, .int .i64 0] 121)).trans hb5)); have d5 := (H5.out.2.cell (p := ⟨rb, 0, none⟩) HD1.out.1.ltb).trans d1; have z5 : w5.frozen? ⟨rb, 0, none⟩ = false := (H5.out.2.frozen (p := ⟨rb, 0, none⟩) HD1.out.1.ltb).trans (HD1.out.1.fz 0); clear ho5 hb5)
            | (at_builtin; refine wpl_app eFl rfl _ _ rfl rfl rfl (v := .slice none 0 0) (l := []) (l2 := R.m) (B := w1.heap.size) (World.ownsRow_nil _ _ _ _) hsrc1 (by rw [HLEN.out]; omega) (Nat.le_refl _) ?_; rw [HLEN.out, List.nil_append]; intro a3 cap3 w3 ho3 hb3 _ _; have H3 := Lib.hid (And.intro ho3 hb3); clear ho3 hb3 hsrc1)
            | (go_at_call 117; refine HBU.out.mono ?_; rintro e w1 ⟨rfl, hd1, ht1⟩; have HD1 := Lib.hid (And.intro hd1 ht1); clear hd1 ht1; have h9 : Own eFl w1 0 (.slice a0 n cap0) R.m := (by have h8 := HD1.out.1.row; rw [HX.out.1, HLV.out] at h8; exact h8); have hsrc1 : Src eFl w1 (.slice a0 n cap0) R.m := Own.src h9; clear h9; have d1 := HD1.out.1.c0; rw [HLV.out] at d1) | (go_at_call 116; refine HAT.out.mono ?_; rintro e v2 ⟨rfl, rfl⟩) | (go_at_call 115; refine HG.out.mono ?_; rintro e v1 ⟨rfl, rfl⟩))
          go_ret
          have hset : setL R.m s ⟨ByteArray.empty, 0⟩ = R.m ++ [(s, (⟨ByteArray.empty, 0⟩ : Fl))] := setL_no HX.out.2.2 _
          rw [hset]
          have ho5 := row_mono H5.out.1 (Nat.zero_le _)
          have hfin := HD1.out.1.relist (m' := R.m ++ [(s, (⟨ByteArray.empty, 0⟩ : Fl))]) (H.out.2 rb (.inl rfl)) H5.out.2 ho5 (own_new H5.out.1) (ok_with HD1.out.1.ok HX.out.1 H.out.1.ok (fun p hp => ?_) (fun p hp => ?_) (by rw [List.length_append, HN.out]; simp; omega)) (by rw [← hset]; exact keysN_set H.out.1.nd _ _)
          · exact ⟨rfl, _, hfin.1, HD1.out.2.trans hfin.2, fun q hq => .inr (Nat.le_trans HD1.out.2.size (own_new H5.out.1 q hq))⟩
          · rcases List.mem_append.1 hp with hp | hp
            · exact H.out.1.ok.nam p hp
            · rw [List.mem_singleton] at hp; subst hp; exact HX.out.2.1
          · rcases List.mem_append.1 hp with hp | hp
            · exact H.out.1.ok.syn p hp
            · rw [List.mem_singleton] at hp; subst hp; exact ⟨Nat.le_refl _, Nat.zero_le _⟩
  · have hres : R.create s = (R.asked [s], R) := by unfold Dk.create; rw [if_pos ha]
    rw [hres]
    obtain ⟨av, hav⟩ : ∃ av, R.asked [s] = av := ⟨_, rfl⟩
    rw [hav] at HG ha ⊢
    have t0 : (av == 0) = false := by simpa using ha
    clear hres hav
    go_enter Tryz.func22, Tryz.ntmps22
    go_wp2_with (first | (go_at_call 115; refine HG.out.mono ?_; rintro e v1 ⟨rfl, rfl⟩))
    go_ret
    exact ⟨rfl, RStep.same H.out.1⟩

end Go.Proofs.YtceamkcaokdgaaaGreatDoor
