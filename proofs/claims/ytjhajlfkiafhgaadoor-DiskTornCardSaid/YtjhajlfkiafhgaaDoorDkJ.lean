/-
  Disk: Crash.
-/
import Derived.Test.YtjhajlfkiafhgaaDoorDkI
import Derived.Test.YtjhajlfkiafhgaaDoorDkF
import Derived.Laws.BitsAllLaws
import Derived.Test.YtjhajlfkiafhgaaDoorMpS
namespace Go.Proofs.YtjhajlfkiafhgaaDoor
open Go.RowKit
variable {F G : Nat → Prop} {w w' : World} {db mb : Nat} {D D' : Dk}

/-- A text of the stand. -/
theorem Own.getT {w : World} {B n cap : Nat} {a : Option Addr} {l : List ByteArray} (h : Own eStr w B (.slice a n cap) l) {i : Nat} (hi : i < l.length) : ∃ g, a = some ⟨g, 0, none⟩ ∧ B ≤ g ∧ g < w.heap.size ∧ w.cell? ⟨g, i, none⟩ = some (.string l[i]) := by
  have h0 := h
  obtain ⟨h1, h2⟩ := h
  rcases h2 with ⟨_, h3⟩ | ⟨g, cap', cur, hv, hg, hh, hn', hc, hcl, htk⟩
  · omega
  · injection hv with e1 e2 e3
    subst e1 e2
    refine ⟨g, rfl, hg, (Array.getElem?_eq_some_iff.1 hh).1, ?_⟩
    have := World.ownsRow.cellAt h0 i (by omega)
    rw [this]
    have h4 := eStr.get l i 0 hi (by omega)
    rw [Nat.mul_one, Nat.add_zero] at h4
    rw [h4]
    rfl

set_option maxRecDepth 100000 in
set_option maxHeartbeats 4000000 in
theorem crash_any (h : DkAt F w db mb D) (hon : D.on = true) {v : Value} {cuts : List Int} (hr : RdC F w v cuts) (hcl : cuts.length ≤ 1000000) (flip : Int) :
    Calls Tryd.prog 18 #[.pointer (some ⟨db, 0, none⟩), v, .int .i64 flip] w fun e w' => e = .returned (.tuple #[]) ∧ DkAt F w' db mb (D.crash cuts flip) ∧ Tn (two db mb) w w' := by
  obtain ⟨av, cv, rfl, hrr⟩ := hr
  obtain ⟨vl, hvl⟩ : ∃ vl, cuts.length = vl := ⟨_, rfl⟩
  rw [hvl] at hcl ⊢
  have c1 := h.c1
  rw [hon] at c1
  have hall : D.list ByteArray.empty = D.names := by
    unfold Dk.list
    rw [hon, if_pos rfl, List.filter_eq_self]
    intro s _
    rfl
  have hcr : D.crash cuts flip = { D with m := crashL cuts flip D.names 0 D.m, on := false } := by unfold Dk.crash; rw [hon, if_pos rfl]
  have hL := list_any h hon ByteArray.empty
  rw [hall] at hL
  have f1 := h.fz 1
  have H := Lib.hid (And.intro h (And.intro hcr (And.intro hvl hrr)))
  have hlt := h.ltd
  clear h hon hcr hvl hrr hall
  go_enter Tryd.func18, Tryd.ntmps18
  go_wp2_with (go_at_call 26; refine (on_any c1).mono ?_; rintro e w' ⟨rfl, rfl⟩)
  refine hL.mono ?_
  rintro e w1 ⟨⟨vn, rfl, hown⟩, hb1⟩
  obtain ⟨an, cn, rfl, -, -⟩ := row_form hown
  obtain ⟨n, hn⟩ : ∃ n, D.names.length = n := ⟨_, rfl⟩
  rw [hn] at hown ⊢
  have k1 := (hb1.cell (p := ⟨db, 1, none⟩) hlt).trans c1
  have kf := (hb1.frozen (p := ⟨db, 1, none⟩) hlt).trans f1
  have hnn : n ≤ 20000 := by
    rw [← hn]
    unfold Dk.names
    rw [(sortB_perm _).length_eq, List.length_map]
    exact H.out.1.ok.few
  have H1 := Lib.hid (And.intro hown (And.intro hb1 hn))
  clear hown hb1 hn hL c1 f1
  go_wp2
  have hd0 : DkAt F (w1.setCell ⟨db, 1, none⟩ (.bool false)) db mb { D with on := false } := (H.out.1.below H1.out.2.1).set1 false
  have ht0 : Tn (two db mb) w (w1.setCell ⟨db, 1, none⟩ (.bool false)) := (Tn.ofBelow H1.out.2.1).trans (Tn.setCell _ _ _ (.inl rfl))
  have ho0 : Own eStr (w1.setCell ⟨db, 1, none⟩ (.bool false)) w.heap.size (.slice an n cn) D.names := by
    have h5 := (Tn.setCell (F := fun q => q = db) w1 ⟨db, 1, none⟩ (.bool false) rfl).row H1.out.1 (fun q hq e => by have := (H1.out.1.lt q hq).1; omega)
    exact h5
  go_loopw [7, 8, 9, 10, 11, 12, 23] (fun _ _ _ _ _ _ iv wr => ∃ i : Nat, i ≤ n ∧ iv = .int .i64 (i : Int) ∧ DkAt F wr db mb { D with m := crashL cuts flip (D.names.take i) 0 D.m, on := false } ∧ Tn (two db mb) w wr ∧ Own eStr wr w.heap.size (.slice an n cn) D.names) (fun _ _ _ _ _ _ iv _ => n - (intOf iv).toNat)
  case atStart => exact ⟨0, by omega, rfl, hd0, ht0, ho0⟩
  case round =>
    clear hd0 ht0 ho0
    obtain ⟨i, hi, rfl, hd, ht, ho⟩ := hrel
    by_cases hlt2 : i < n
    · have hin : i < D.names.length := by have := H1.out.2.2; omega
      obtain ⟨g, rfl, hg1, hg2, hcell⟩ := ho.getT hin
      obtain ⟨nm, hnm⟩ : ∃ nm, D.names[i] = nm := ⟨_, rfl⟩
      rw [hnm] at hcell
      have hmem : nm ∈ (crashL cuts flip (D.names.take i) 0 D.m).map (·.1) := by
        rw [crashL_keys, ← hnm]
        exact (sortB_perm _).mem_iff.1 (List.getElem_mem hin)
      obtain ⟨f, hf⟩ := getL_some hmem
      have hfs := hd.ok.syn _ (getL_mem hf)
      simp only at hfs
      have hnms := hd.ok.nam _ (getL_mem hf)
      simp only at hnms
      have k0 := hd.c0
      obtain ⟨fd, fs⟩ := f
      simp only at hfs
      have hlk : (Instr.lookup 44 (.map (some mb)) (.string nm) false).run Tryd.prog wr = .ok (.agg #[.string fd, .int .i64 (fs : Int)]) wr := by
        have h5 := MapL.look hd.m keyN und_map (z := .agg #[.string ByteArray.empty, .int .i64 0]) (Tryd.zeroValue51 _) false nm
        rw [hf] at h5
        exact h5
      obtain ⟨cval, hcval, hcc⟩ : ∃ cval, cutAt cuts i = cval ∧ ((vl = 0 ∧ cval = 0) ∨ (0 < vl ∧ ∃ b off, av = some ⟨b, off, none⟩ ∧ wr.cell? ⟨b, off + i % vl, none⟩ = some (.int .i64 cval))) := by
        refine ⟨_, rfl, ?_⟩
        rcases Nat.eq_zero_or_pos vl with h0 | h0
        · exact .inl ⟨h0, by unfold cutAt; rw [H.out.2.2.1, if_pos h0]⟩
        · obtain ⟨b, off, e, hb, hbl, hcs⟩ := H.out.2.2.2.resolve_left (fun e => by have := H.out.2.2.1; rw [e] at this; simp at this; omega)
          have hm : i % vl < cuts.length := by rw [H.out.2.2.1]; exact Nat.mod_lt _ h0
          refine .inr ⟨h0, b, off, e, ht.cell ?_ (fun hq => hb (two_F H.out.1 _ hq))⟩
          have hcv : cutAt cuts i = cuts[i % vl] := by
            unfold cutAt
            rw [if_neg (by have := H.out.2.2.1; omega), List.getD_eq_getElem?_getD, H.out.2.2.1, List.getElem?_eq_getElem hm]
            rfl
          rw [hcv]
          exact hcs _ hm
      have HR := Lib.hid (And.intro hd (And.intro ht (And.intro ho (And.intro hf (And.intro hfs (And.intro hnms (And.intro hnm hcval)))))))
      have q1 : fs ≤ fd.size := hfs.1
      have q2 : fd.size ≤ 1048576 := hfs.2
      have hdb : db < wr.heap.size := hd.ltd
      clear hd ht ho hf hfs hnms hnm hcval hmem hg1 k1 kf
      have r1 : (i : Int) < (n : Int) := by omega
      have hkp : min (max cval 0) ((fd.size : Int) - (fs : Int)) = ((keep ⟨fd, fs⟩ cval : Nat) : Int) := by unfold keep; simp only; omega
      have hkl := keep_le ⟨fd, fs⟩ cval q1
      simp only at hkl
      obtain ⟨kp, hkpe⟩ : ∃ kp, keep ⟨fd, fs⟩ cval = kp := ⟨_, rfl⟩
      rw [hkpe] at hkp hkl
      have HKP := Lib.hid hkpe
      clear hkpe
      have hxs : (fd.extract 0 (fs + kp)).size = fs + kp := by rw [ByteArray.size_extract]; omega
      have hxl : (fd.extract 0 (fs + kp)).data.toList = fd.data.toList.take (fs + kp) := by
        rw [ByteArray.data_extract, Array.toList_extract]
        simp
      obtain ⟨ccap, w4, hb4, hz4, hB4, hconv⟩ := conv_b (fd.extract 0 (fs + kp)) (wr.alloc (.cells #[.string fd, .int .i64 (fs : Int)] 51))
      rw [hxs] at hconv
      rw [hxl] at hB4
      have hz40 : (wr.alloc (.cells #[.string fd, .int .i64 (fs : Int)] 51)).heap.size = wr.heap.size + 1 := by simp
      rw [hz40] at hB4 hz4 hconv
      have hb40 : Below wr.heap.size wr w4 := ((Below.refl _ _).alloc (Nat.le_refl _) _).trans (hb4.mono (by simp))
      have hlen4 : (fd.data.toList.take (fs + kp)).length = fs + kp := by rw [← hxl, ← Lib.size_eq, hxs]
      have k4 : w4.cell? ⟨db, 0, none⟩ = some (.map (some mb)) := (hb40.cell (p := ⟨db, 0, none⟩) hdb).trans k0
      have r6 : ((fs : Int) + (kp : Int)).toNat = fs + kp := by omega
      have HB4 := Lib.hid (And.intro hb40 (And.intro hB4 (And.intro hlen4 hz4)))
      have HXL := Lib.hid (And.intro hxl hxs)
      clear hb4 hz4 hB4 hz40 hb40 hlen4 hxl hxs
      have hwl := hkl
      rcases (by omega : kp = 0 ∨ (0 < kp ∧ flip < 1) ∨ (0 < kp ∧ 255 < flip) ∨ (0 < kp ∧ 1 ≤ flip ∧ flip ≤ 255)) with hw | hw | hw | hw
      · have t1 : ¬ (0 : Int) < (kp : Int) := by omega
        clear hw
        rcases hcc with ⟨rfl, rfl⟩ | ⟨hvp, cb, coff, rfl, hcellc⟩
        · have hkq : min 0 ((fd.size : Int) - (fs : Int)) = (kp : Int) := by simpa using hkp
          clear hkp
          go_wp2_with fail
          have kk := k4
          have hkeep : kept ⟨fd, fs⟩ 0 flip = fd.data.toList.take (fs + kp) := by
            unfold kept
            rw [HKP.out]
            exact if_neg (by omega)
          have hcvv : (Value.agg #[.string ⟨(fd.data.toList.take (fs + kp)).toArray⟩, .int .i64 ((fs + kp : Nat) : Int)]) = cvF (cutF ⟨fd, fs⟩ 0 flip) := by
            unfold cvF cutF
            simp only [hkeep]
            rw [HB4.out.2.2.1]
          have hlk4 := HB4.out.2.2.1
          have hcok : (cutF ⟨fd, fs⟩ 0 flip).syn ≤ (cutF ⟨fd, fs⟩ 0 flip).data.size ∧ (cutF ⟨fd, fs⟩ 0 flip).data.size ≤ 1048576 := by
            have e : (cutF ⟨fd, fs⟩ 0 flip).data.size = (cutF ⟨fd, fs⟩ 0 flip).syn := by unfold cutF; simp [Lib.size_mk]
            have e2 : (cutF ⟨fd, fs⟩ 0 flip).syn = fs + kp := by unfold cutF; simp only [hkeep]; rw [HB4.out.2.2.1]
            omega
          have hH5 : HasB w4.drew (wr.heap.size + 1) (fd.data.toList.take (fs + kp)) := HB4.out.2.1
          have hd5 := HR.out.1.below (HB4.out.1.drew)
          have ht5 : Tn (two db mb) w w4.drew := HR.out.2.1.trans (Tn.ofBelow HB4.out.1.drew)
          have ho5 : Own eStr w4.drew w.heap.size (.slice (some ⟨g, 0, none⟩) n cn) D.names := row_below HR.out.2.2.1 HB4.out.1.drew
          have kd1 : w4.drew.cell? ⟨db, 0, none⟩ = some (.map (some mb)) := kk
          have hstr : ∀ W : World, HasB W (wr.heap.size + 1) (fd.data.toList.take (fs + kp)) → (convert 55 9 (.slice (some ⟨wr.heap.size + 1, 0, none⟩) (fs + kp) ccap)).run Tryd.prog W = .ok (.string ⟨(fd.data.toList.take (fs + kp)).toArray⟩) W := fun W hW => hW.str _ _ hlk4.symm
          have hst0 := hstr w4.drew hH5
          refine wp_region_K (fun w' => w'.cell? ⟨db, 0, none⟩ = some (.map (some mb)) ∧ (convert 55 9 (.slice (some ⟨wr.heap.size + 1, 0, none⟩) (fs + kp) ccap)).run Tryd.prog w' = .ok (.string ⟨(fd.data.toList.take (fs + kp)).toArray⟩) w') 10 11 (by kernel_rfl) (by kernel_rfl) ⟨kd1, hst0⟩ (fun hH => ?_)
          refine wpAnyK_take (i := 0) [10] (v := ?v1) rfl (by kernel_rfl) (by kernel_rfl) (by kernel_rfl) (by kernel_rfl) (fun _ _ _ h => h) (Or.inl ⟨by rfl, ?hy1⟩) hH ?rest1
          case hy1 => (intro w hSw; (try dsimp only at hSw); go_simp; with_reducible rfl)
          try simp only [Act.put, List.setIfInBounds_toArray, List.set_cons_zero, List.set_cons_succ]
          refine wpAnyK_take (i := 1) [10] (v := ?v2) rfl (by kernel_rfl) (by kernel_rfl) (by kernel_rfl) (by kernel_rfl) (fun _ _ _ h => h) (Or.inl ⟨by rfl, ?hy2⟩) hH ?rest2
          case hy2 => (intro w hSw; (try dsimp only at hSw); go_simp; with_reducible rfl)
          try simp only [Act.put, List.setIfInBounds_toArray, List.set_cons_zero, List.set_cons_succ]
          refine wpAnyK_take (i := 2) [10] (v := ?v3) rfl (by kernel_rfl) (by kernel_rfl) (by kernel_rfl) (by kernel_rfl) (fun _ _ _ h => h) (Or.inl ⟨by rfl, ?hy3⟩) hH ?rest3
          case hy3 => (intro w hSw; (try dsimp only at hSw); go_simp; with_reducible rfl)
          try simp only [Act.put, List.setIfInBounds_toArray, List.set_cons_zero, List.set_cons_succ]
          refine wpAnyK_take (i := 3) [10] (v := ?v4) rfl (by kernel_rfl) (by kernel_rfl) (by kernel_rfl) (by kernel_rfl) (fun _ _ _ h => h) (Or.inl ⟨by rfl, ?hy4⟩) hH ?rest4
          case hy4 => (intro w hSw; (try dsimp only at hSw); go_simp; with_reducible rfl)
          try simp only [Act.put, List.setIfInBounds_toArray, List.set_cons_zero, List.set_cons_succ]
          refine wpAnyK_take (i := 4) [10] (v := ?v5) rfl (by kernel_rfl) (by kernel_rfl) (by kernel_rfl) (by kernel_rfl) (fun _ _ _ h => h) (Or.inl ⟨by rfl, ?hy5⟩) hH ?rest5
          case hy5 => (intro w hSw; (try dsimp only at hSw); go_simp; with_reducible rfl)
          try simp only [Act.put, List.setIfInBounds_toArray, List.set_cons_zero, List.set_cons_succ]
          refine wpAnyK_take (i := 5) [10] (v := ?v6) rfl (by kernel_rfl) (by kernel_rfl) (by kernel_rfl) (by kernel_rfl) (fun _ _ _ h => h) (Or.inl ⟨by rfl, ?hy6⟩) hH ?rest6
          case hy6 => (intro w hSw; (try dsimp only at hSw); go_simp; with_reducible rfl)
          try simp only [Act.put, List.setIfInBounds_toArray, List.set_cons_zero, List.set_cons_succ]
          refine wpAnyK_take (i := 6) [10] (v := ?v7) rfl (by kernel_rfl) (by kernel_rfl) (by kernel_rfl) (by kernel_rfl) (fun _ _ _ h => h) (Or.inl ⟨by rfl, ?hy7⟩) hH ?rest7
          case hy7 => (intro w hSw; (try dsimp only at hSw); go_simp; with_reducible rfl)
          try simp only [Act.put, List.setIfInBounds_toArray, List.set_cons_zero, List.set_cons_succ]
          refine wpAnyK_take (i := 7) [10] (v := ?v8) rfl (by kernel_rfl) (by kernel_rfl) (by kernel_rfl) (by kernel_rfl) (fun _ _ _ h => h) (Or.inl ⟨by rfl, ?hy8⟩) hH ?rest8
          case hy8 => (intro w hSw; (try dsimp only at hSw); go_simp; with_reducible rfl)
          try simp only [Act.put, List.setIfInBounds_toArray, List.set_cons_zero, List.set_cons_succ]
          refine wpAnyK_take (i := 8) [10] (v := ?v9) rfl (by kernel_rfl) (by kernel_rfl) (by kernel_rfl) (by kernel_rfl) (fun _ _ _ h => h) (Or.inl ⟨by rfl, ?hy9⟩) hH ?rest9
          case hy9 => (intro w hSw; (try dsimp only at hSw); go_simp; with_reducible rfl)
          try simp only [Act.put, List.setIfInBounds_toArray, List.set_cons_zero, List.set_cons_succ]
          refine wpAnyK_take (i := 9) [10] (v := ?v10) rfl (by kernel_rfl) (by kernel_rfl) (by kernel_rfl) (by kernel_rfl) (fun _ _ _ h => h) (Or.inl ⟨by rfl, ?hy10⟩) hH ?rest10
          case hy10 => (intro w hSw; (try dsimp only at hSw); go_simp; with_reducible rfl)
          try simp only [Act.put, List.setIfInBounds_toArray, List.set_cons_zero, List.set_cons_succ]
          refine wpAnyK_last (by kernel_rfl) rfl (fun K hK => ?_) (by kernel_rfl)
          refine step_put rfl _ _ _ rfl keyN und_map rfl hd5.m nm rfl (cutF ⟨fd, fs⟩ 0 flip) hcvv ?_
          intro w6 hm6 ht6 hz6
          refine hK.out _ _ (wpAnyK_done (by kernel_rfl) ?_ _)
          clear hK K hH
          have hfin := hd5.setM ht6 hm6 (hd5.ok.set HR.out.2.2.2.2.2.1 hcok (Nat.le_trans (Nat.le_of_eq (setL_length.2 (by rw [HR.out.2.2.2.1]; rfl))) hd5.ok.few))
          have hown6 : Own eStr w6 w.heap.size (.slice (some ⟨g, 0, none⟩) n cn) D.names := ht6.row ho5 (fun q hq e => by have := (H.out.1.m.lt); have h1 : g = q := Option.some.inj hq; subst h1; subst e; have := (ho5.lt g rfl).1; omega)
          have htt : Tn (two db mb) w w6 := ht5.trans (ht6.mono (fun q hq => .inr hq))
          have HF := Lib.hid (And.intro hfin (And.intro htt hown6))
          clear hfin htt hown6 hm6 ht6 hz6 ho5 ht5 hd5 hst0 hstr kd1 kk hH5
          go_wp2_with fail
          go_roundw
          case rel =>
            refine ⟨i + 1, by omega, by go_num, ?_, HF.out.2.1, HF.out.2.2⟩
            have e7 : crashL cuts flip (D.names.take (i + 1)) 0 D.m = setL (crashL cuts flip (D.names.take i) 0 D.m) nm (cutF ⟨fd, fs⟩ 0 flip) := by
              rw [List.take_succ_eq_append_getElem hin, crashL_app, HR.out.2.2.2.2.2.2.1, HR.out.2.2.2.1]
              simp only [Nat.zero_add]
              rw [List.length_take_of_le (Nat.le_of_lt hin), HR.out.2.2.2.2.2.2.2]
            rw [e7]
            exact HF.out.1
          case measure => simp [intOf]; omega
        · have r2 : (0 : Int) < (vl : Int) := by omega
          have hcb : cb < wr.heap.size := World.block_lt_of_cell? _ _ hcellc
          have r3 : ((i % vl : Nat) : Int) = (i : Int) % (vl : Int) := by omega
          have r4 : (i : Int) % (vl : Int) < (vl : Int) := Int.emod_lt_of_pos _ r2
          have r5 : 0 ≤ (i : Int) % (vl : Int) := Int.emod_nonneg _ (by omega)
          go_wp2_with fail
          have kk := k4
          have hkeep : kept ⟨fd, fs⟩ cval flip = fd.data.toList.take (fs + kp) := by
            unfold kept
            rw [HKP.out]
            exact if_neg (by omega)
          have hcvv : (Value.agg #[.string ⟨(fd.data.toList.take (fs + kp)).toArray⟩, .int .i64 ((fs + kp : Nat) : Int)]) = cvF (cutF ⟨fd, fs⟩ cval flip) := by
            unfold cvF cutF
            simp only [hkeep]
            rw [HB4.out.2.2.1]
          have hlk4 := HB4.out.2.2.1
          have hcok : (cutF ⟨fd, fs⟩ cval flip).syn ≤ (cutF ⟨fd, fs⟩ cval flip).data.size ∧ (cutF ⟨fd, fs⟩ cval flip).data.size ≤ 1048576 := by
            have e : (cutF ⟨fd, fs⟩ cval flip).data.size = (cutF ⟨fd, fs⟩ cval flip).syn := by unfold cutF; simp [Lib.size_mk]
            have e2 : (cutF ⟨fd, fs⟩ cval flip).syn = fs + kp := by unfold cutF; simp only [hkeep]; rw [HB4.out.2.2.1]
            omega
          have hH5 : HasB w4.drew (wr.heap.size + 1) (fd.data.toList.take (fs + kp)) := HB4.out.2.1
          have hd5 := HR.out.1.below (HB4.out.1.drew)
          have ht5 : Tn (two db mb) w w4.drew := HR.out.2.1.trans (Tn.ofBelow HB4.out.1.drew)
          have ho5 : Own eStr w4.drew w.heap.size (.slice (some ⟨g, 0, none⟩) n cn) D.names := row_below HR.out.2.2.1 HB4.out.1.drew
          have kd1 : w4.drew.cell? ⟨db, 0, none⟩ = some (.map (some mb)) := kk
          have hstr : ∀ W : World, HasB W (wr.heap.size + 1) (fd.data.toList.take (fs + kp)) → (convert 55 9 (.slice (some ⟨wr.heap.size + 1, 0, none⟩) (fs + kp) ccap)).run Tryd.prog W = .ok (.string ⟨(fd.data.toList.take (fs + kp)).toArray⟩) W := fun W hW => hW.str _ _ hlk4.symm
          have hst0 := hstr w4.drew hH5
          refine wp_region_K (fun w' => w'.cell? ⟨db, 0, none⟩ = some (.map (some mb)) ∧ (convert 55 9 (.slice (some ⟨wr.heap.size + 1, 0, none⟩) (fs + kp) ccap)).run Tryd.prog w' = .ok (.string ⟨(fd.data.toList.take (fs + kp)).toArray⟩) w') 10 11 (by kernel_rfl) (by kernel_rfl) ⟨kd1, hst0⟩ (fun hH => ?_)
          refine wpAnyK_take (i := 0) [10] (v := ?v11) rfl (by kernel_rfl) (by kernel_rfl) (by kernel_rfl) (by kernel_rfl) (fun _ _ _ h => h) (Or.inl ⟨by rfl, ?hy11⟩) hH ?rest11
          case hy11 => (intro w hSw; (try dsimp only at hSw); go_simp; with_reducible rfl)
          try simp only [Act.put, List.setIfInBounds_toArray, List.set_cons_zero, List.set_cons_succ]
          refine wpAnyK_take (i := 1) [10] (v := ?v12) rfl (by kernel_rfl) (by kernel_rfl) (by kernel_rfl) (by kernel_rfl) (fun _ _ _ h => h) (Or.inl ⟨by rfl, ?hy12⟩) hH ?rest12
          case hy12 => (intro w hSw; (try dsimp only at hSw); go_simp; with_reducible rfl)
          try simp only [Act.put, List.setIfInBounds_toArray, List.set_cons_zero, List.set_cons_succ]
          refine wpAnyK_take (i := 2) [10] (v := ?v13) rfl (by kernel_rfl) (by kernel_rfl) (by kernel_rfl) (by kernel_rfl) (fun _ _ _ h => h) (Or.inl ⟨by rfl, ?hy13⟩) hH ?rest13
          case hy13 => (intro w hSw; (try dsimp only at hSw); go_simp; with_reducible rfl)
          try simp only [Act.put, List.setIfInBounds_toArray, List.set_cons_zero, List.set_cons_succ]
          refine wpAnyK_take (i := 3) [10] (v := ?v14) rfl (by kernel_rfl) (by kernel_rfl) (by kernel_rfl) (by kernel_rfl) (fun _ _ _ h => h) (Or.inl ⟨by rfl, ?hy14⟩) hH ?rest14
          case hy14 => (intro w hSw; (try dsimp only at hSw); go_simp; with_reducible rfl)
          try simp only [Act.put, List.setIfInBounds_toArray, List.set_cons_zero, List.set_cons_succ]
          refine wpAnyK_take (i := 4) [10] (v := ?v15) rfl (by kernel_rfl) (by kernel_rfl) (by kernel_rfl) (by kernel_rfl) (fun _ _ _ h => h) (Or.inl ⟨by rfl, ?hy15⟩) hH ?rest15
          case hy15 => (intro w hSw; (try dsimp only at hSw); go_simp; with_reducible rfl)
          try simp only [Act.put, List.setIfInBounds_toArray, List.set_cons_zero, List.set_cons_succ]
          refine wpAnyK_take (i := 5) [10] (v := ?v16) rfl (by kernel_rfl) (by kernel_rfl) (by kernel_rfl) (by kernel_rfl) (fun _ _ _ h => h) (Or.inl ⟨by rfl, ?hy16⟩) hH ?rest16
          case hy16 => (intro w hSw; (try dsimp only at hSw); go_simp; with_reducible rfl)
          try simp only [Act.put, List.setIfInBounds_toArray, List.set_cons_zero, List.set_cons_succ]
          refine wpAnyK_take (i := 6) [10] (v := ?v17) rfl (by kernel_rfl) (by kernel_rfl) (by kernel_rfl) (by kernel_rfl) (fun _ _ _ h => h) (Or.inl ⟨by rfl, ?hy17⟩) hH ?rest17
          case hy17 => (intro w hSw; (try dsimp only at hSw); go_simp; with_reducible rfl)
          try simp only [Act.put, List.setIfInBounds_toArray, List.set_cons_zero, List.set_cons_succ]
          refine wpAnyK_take (i := 7) [10] (v := ?v18) rfl (by kernel_rfl) (by kernel_rfl) (by kernel_rfl) (by kernel_rfl) (fun _ _ _ h => h) (Or.inl ⟨by rfl, ?hy18⟩) hH ?rest18
          case hy18 => (intro w hSw; (try dsimp only at hSw); go_simp; with_reducible rfl)
          try simp only [Act.put, List.setIfInBounds_toArray, List.set_cons_zero, List.set_cons_succ]
          refine wpAnyK_take (i := 8) [10] (v := ?v19) rfl (by kernel_rfl) (by kernel_rfl) (by kernel_rfl) (by kernel_rfl) (fun _ _ _ h => h) (Or.inl ⟨by rfl, ?hy19⟩) hH ?rest19
          case hy19 => (intro w hSw; (try dsimp only at hSw); go_simp; with_reducible rfl)
          try simp only [Act.put, List.setIfInBounds_toArray, List.set_cons_zero, List.set_cons_succ]
          refine wpAnyK_take (i := 9) [10] (v := ?v20) rfl (by kernel_rfl) (by kernel_rfl) (by kernel_rfl) (by kernel_rfl) (fun _ _ _ h => h) (Or.inl ⟨by rfl, ?hy20⟩) hH ?rest20
          case hy20 => (intro w hSw; (try dsimp only at hSw); go_simp; with_reducible rfl)
          try simp only [Act.put, List.setIfInBounds_toArray, List.set_cons_zero, List.set_cons_succ]
          refine wpAnyK_last (by kernel_rfl) rfl (fun K hK => ?_) (by kernel_rfl)
          refine step_put rfl _ _ _ rfl keyN und_map rfl hd5.m nm rfl (cutF ⟨fd, fs⟩ cval flip) hcvv ?_
          intro w6 hm6 ht6 hz6
          refine hK.out _ _ (wpAnyK_done (by kernel_rfl) ?_ _)
          clear hK K hH
          have hfin := hd5.setM ht6 hm6 (hd5.ok.set HR.out.2.2.2.2.2.1 hcok (Nat.le_trans (Nat.le_of_eq (setL_length.2 (by rw [HR.out.2.2.2.1]; rfl))) hd5.ok.few))
          have hown6 : Own eStr w6 w.heap.size (.slice (some ⟨g, 0, none⟩) n cn) D.names := ht6.row ho5 (fun q hq e => by have := (H.out.1.m.lt); have h1 : g = q := Option.some.inj hq; subst h1; subst e; have := (ho5.lt g rfl).1; omega)
          have htt : Tn (two db mb) w w6 := ht5.trans (ht6.mono (fun q hq => .inr hq))
          have HF := Lib.hid (And.intro hfin (And.intro htt hown6))
          clear hfin htt hown6 hm6 ht6 hz6 ho5 ht5 hd5 hst0 hstr kd1 kk hH5
          go_wp2_with fail
          go_roundw
          case rel =>
            refine ⟨i + 1, by omega, by go_num, ?_, HF.out.2.1, HF.out.2.2⟩
            have e7 : crashL cuts flip (D.names.take (i + 1)) 0 D.m = setL (crashL cuts flip (D.names.take i) 0 D.m) nm (cutF ⟨fd, fs⟩ cval flip) := by
              rw [List.take_succ_eq_append_getElem hin, crashL_app, HR.out.2.2.2.2.2.2.1, HR.out.2.2.2.1]
              simp only [Nat.zero_add]
              rw [List.length_take_of_le (Nat.le_of_lt hin), HR.out.2.2.2.2.2.2.2]
            rw [e7]
            exact HF.out.1
          case measure => simp [intOf]; omega
      · have t1 : (0 : Int) < (kp : Int) := by omega
        have t2 : ¬ (1 : Int) ≤ flip := by omega
        clear hw
        rcases hcc with ⟨rfl, rfl⟩ | ⟨hvp, cb, coff, rfl, hcellc⟩
        · exfalso; omega
        · have r2 : (0 : Int) < (vl : Int) := by omega
          have hcb : cb < wr.heap.size := World.block_lt_of_cell? _ _ hcellc
          have r3 : ((i % vl : Nat) : Int) = (i : Int) % (vl : Int) := by omega
          have r4 : (i : Int) % (vl : Int) < (vl : Int) := Int.emod_lt_of_pos _ r2
          have r5 : 0 ≤ (i : Int) % (vl : Int) := Int.emod_nonneg _ (by omega)
          go_wp2_with fail
          have kk := k4
          have hkeep : kept ⟨fd, fs⟩ cval flip = fd.data.toList.take (fs + kp) := by
            unfold kept
            rw [HKP.out]
            exact if_neg (by omega)
          have hcvv : (Value.agg #[.string ⟨(fd.data.toList.take (fs + kp)).toArray⟩, .int .i64 ((fs + kp : Nat) : Int)]) = cvF (cutF ⟨fd, fs⟩ cval flip) := by
            unfold cvF cutF
            simp only [hkeep]
            rw [HB4.out.2.2.1]
          have hlk4 := HB4.out.2.2.1
          have hcok : (cutF ⟨fd, fs⟩ cval flip).syn ≤ (cutF ⟨fd, fs⟩ cval flip).data.size ∧ (cutF ⟨fd, fs⟩ cval flip).data.size ≤ 1048576 := by
            have e : (cutF ⟨fd, fs⟩ cval flip).data.size = (cutF ⟨fd, fs⟩ cval flip).syn := by unfold cutF; simp [Lib.size_mk]
            have e2 : (cutF ⟨fd, fs⟩ cval flip).syn = fs + kp := by unfold cutF; simp only [hkeep]; rw [HB4.out.2.2.1]
            omega
          have hH5 : HasB w4.drew (wr.heap.size + 1) (fd.data.toList.take (fs + kp)) := HB4.out.2.1
          have hd5 := HR.out.1.below (HB4.out.1.drew)
          have ht5 : Tn (two db mb) w w4.drew := HR.out.2.1.trans (Tn.ofBelow HB4.out.1.drew)
          have ho5 : Own eStr w4.drew w.heap.size (.slice (some ⟨g, 0, none⟩) n cn) D.names := row_below HR.out.2.2.1 HB4.out.1.drew
          have kd1 : w4.drew.cell? ⟨db, 0, none⟩ = some (.map (some mb)) := kk
          have hstr : ∀ W : World, HasB W (wr.heap.size + 1) (fd.data.toList.take (fs + kp)) → (convert 55 9 (.slice (some ⟨wr.heap.size + 1, 0, none⟩) (fs + kp) ccap)).run Tryd.prog W = .ok (.string ⟨(fd.data.toList.take (fs + kp)).toArray⟩) W := fun W hW => hW.str _ _ hlk4.symm
          have hst0 := hstr w4.drew hH5
          refine wp_region_K (fun w' => w'.cell? ⟨db, 0, none⟩ = some (.map (some mb)) ∧ (convert 55 9 (.slice (some ⟨wr.heap.size + 1, 0, none⟩) (fs + kp) ccap)).run Tryd.prog w' = .ok (.string ⟨(fd.data.toList.take (fs + kp)).toArray⟩) w') 10 11 (by kernel_rfl) (by kernel_rfl) ⟨kd1, hst0⟩ (fun hH => ?_)
          refine wpAnyK_take (i := 0) [10] (v := ?v21) rfl (by kernel_rfl) (by kernel_rfl) (by kernel_rfl) (by kernel_rfl) (fun _ _ _ h => h) (Or.inl ⟨by rfl, ?hy21⟩) hH ?rest21
          case hy21 => (intro w hSw; (try dsimp only at hSw); go_simp; with_reducible rfl)
          try simp only [Act.put, List.setIfInBounds_toArray, List.set_cons_zero, List.set_cons_succ]
          refine wpAnyK_take (i := 1) [10] (v := ?v22) rfl (by kernel_rfl) (by kernel_rfl) (by kernel_rfl) (by kernel_rfl) (fun _ _ _ h => h) (Or.inl ⟨by rfl, ?hy22⟩) hH ?rest22
          case hy22 => (intro w hSw; (try dsimp only at hSw); go_simp; with_reducible rfl)
          try simp only [Act.put, List.setIfInBounds_toArray, List.set_cons_zero, List.set_cons_succ]
          refine wpAnyK_take (i := 2) [10] (v := ?v23) rfl (by kernel_rfl) (by kernel_rfl) (by kernel_rfl) (by kernel_rfl) (fun _ _ _ h => h) (Or.inl ⟨by rfl, ?hy23⟩) hH ?rest23
          case hy23 => (intro w hSw; (try dsimp only at hSw); go_simp; with_reducible rfl)
          try simp only [Act.put, List.setIfInBounds_toArray, List.set_cons_zero, List.set_cons_succ]
          refine wpAnyK_take (i := 3) [10] (v := ?v24) rfl (by kernel_rfl) (by kernel_rfl) (by kernel_rfl) (by kernel_rfl) (fun _ _ _ h => h) (Or.inl ⟨by rfl, ?hy24⟩) hH ?rest24
          case hy24 => (intro w hSw; (try dsimp only at hSw); go_simp; with_reducible rfl)
          try simp only [Act.put, List.setIfInBounds_toArray, List.set_cons_zero, List.set_cons_succ]
          refine wpAnyK_take (i := 4) [10] (v := ?v25) rfl (by kernel_rfl) (by kernel_rfl) (by kernel_rfl) (by kernel_rfl) (fun _ _ _ h => h) (Or.inl ⟨by rfl, ?hy25⟩) hH ?rest25
          case hy25 => (intro w hSw; (try dsimp only at hSw); go_simp; with_reducible rfl)
          try simp only [Act.put, List.setIfInBounds_toArray, List.set_cons_zero, List.set_cons_succ]
          refine wpAnyK_take (i := 5) [10] (v := ?v26) rfl (by kernel_rfl) (by kernel_rfl) (by kernel_rfl) (by kernel_rfl) (fun _ _ _ h => h) (Or.inl ⟨by rfl, ?hy26⟩) hH ?rest26
          case hy26 => (intro w hSw; (try dsimp only at hSw); go_simp; with_reducible rfl)
          try simp only [Act.put, List.setIfInBounds_toArray, List.set_cons_zero, List.set_cons_succ]
          refine wpAnyK_take (i := 6) [10] (v := ?v27) rfl (by kernel_rfl) (by kernel_rfl) (by kernel_rfl) (by kernel_rfl) (fun _ _ _ h => h) (Or.inl ⟨by rfl, ?hy27⟩) hH ?rest27
          case hy27 => (intro w hSw; (try dsimp only at hSw); go_simp; with_reducible rfl)
          try simp only [Act.put, List.setIfInBounds_toArray, List.set_cons_zero, List.set_cons_succ]
          refine wpAnyK_take (i := 7) [10] (v := ?v28) rfl (by kernel_rfl) (by kernel_rfl) (by kernel_rfl) (by kernel_rfl) (fun _ _ _ h => h) (Or.inl ⟨by rfl, ?hy28⟩) hH ?rest28
          case hy28 => (intro w hSw; (try dsimp only at hSw); go_simp; with_reducible rfl)
          try simp only [Act.put, List.setIfInBounds_toArray, List.set_cons_zero, List.set_cons_succ]
          refine wpAnyK_take (i := 8) [10] (v := ?v29) rfl (by kernel_rfl) (by kernel_rfl) (by kernel_rfl) (by kernel_rfl) (fun _ _ _ h => h) (Or.inl ⟨by rfl, ?hy29⟩) hH ?rest29
          case hy29 => (intro w hSw; (try dsimp only at hSw); go_simp; with_reducible rfl)
          try simp only [Act.put, List.setIfInBounds_toArray, List.set_cons_zero, List.set_cons_succ]
          refine wpAnyK_take (i := 9) [10] (v := ?v30) rfl (by kernel_rfl) (by kernel_rfl) (by kernel_rfl) (by kernel_rfl) (fun _ _ _ h => h) (Or.inl ⟨by rfl, ?hy30⟩) hH ?rest30
          case hy30 => (intro w hSw; (try dsimp only at hSw); go_simp; with_reducible rfl)
          try simp only [Act.put, List.setIfInBounds_toArray, List.set_cons_zero, List.set_cons_succ]
          refine wpAnyK_last (by kernel_rfl) rfl (fun K hK => ?_) (by kernel_rfl)
          refine step_put rfl _ _ _ rfl keyN und_map rfl hd5.m nm rfl (cutF ⟨fd, fs⟩ cval flip) hcvv ?_
          intro w6 hm6 ht6 hz6
          refine hK.out _ _ (wpAnyK_done (by kernel_rfl) ?_ _)
          clear hK K hH
          have hfin := hd5.setM ht6 hm6 (hd5.ok.set HR.out.2.2.2.2.2.1 hcok (Nat.le_trans (Nat.le_of_eq (setL_length.2 (by rw [HR.out.2.2.2.1]; rfl))) hd5.ok.few))
          have hown6 : Own eStr w6 w.heap.size (.slice (some ⟨g, 0, none⟩) n cn) D.names := ht6.row ho5 (fun q hq e => by have := (H.out.1.m.lt); have h1 : g = q := Option.some.inj hq; subst h1; subst e; have := (ho5.lt g rfl).1; omega)
          have htt : Tn (two db mb) w w6 := ht5.trans (ht6.mono (fun q hq => .inr hq))
          have HF := Lib.hid (And.intro hfin (And.intro htt hown6))
          clear hfin htt hown6 hm6 ht6 hz6 ho5 ht5 hd5 hst0 hstr kd1 kk hH5
          go_wp2_with fail
          go_roundw
          case rel =>
            refine ⟨i + 1, by omega, by go_num, ?_, HF.out.2.1, HF.out.2.2⟩
            have e7 : crashL cuts flip (D.names.take (i + 1)) 0 D.m = setL (crashL cuts flip (D.names.take i) 0 D.m) nm (cutF ⟨fd, fs⟩ cval flip) := by
              rw [List.take_succ_eq_append_getElem hin, crashL_app, HR.out.2.2.2.2.2.2.1, HR.out.2.2.2.1]
              simp only [Nat.zero_add]
              rw [List.length_take_of_le (Nat.le_of_lt hin), HR.out.2.2.2.2.2.2.2]
            rw [e7]
            exact HF.out.1
          case measure => simp [intOf]; omega
      · have t1 : (0 : Int) < (kp : Int) := by omega
        have t2 : (1 : Int) ≤ flip := by omega
        have t3 : ¬ flip ≤ (255 : Int) := by omega
        clear hw
        rcases hcc with ⟨rfl, rfl⟩ | ⟨hvp, cb, coff, rfl, hcellc⟩
        · exfalso; omega
        · have r2 : (0 : Int) < (vl : Int) := by omega
          have hcb : cb < wr.heap.size := World.block_lt_of_cell? _ _ hcellc
          have r3 : ((i % vl : Nat) : Int) = (i : Int) % (vl : Int) := by omega
          have r4 : (i : Int) % (vl : Int) < (vl : Int) := Int.emod_lt_of_pos _ r2
          have r5 : 0 ≤ (i : Int) % (vl : Int) := Int.emod_nonneg _ (by omega)
          go_wp2_with fail
          have kk := k4
          have hkeep : kept ⟨fd, fs⟩ cval flip = fd.data.toList.take (fs + kp) := by
            unfold kept
            rw [HKP.out]
            exact if_neg (by omega)
          have hcvv : (Value.agg #[.string ⟨(fd.data.toList.take (fs + kp)).toArray⟩, .int .i64 ((fs + kp : Nat) : Int)]) = cvF (cutF ⟨fd, fs⟩ cval flip) := by
            unfold cvF cutF
            simp only [hkeep]
            rw [HB4.out.2.2.1]
          have hlk4 := HB4.out.2.2.1
          have hcok : (cutF ⟨fd, fs⟩ cval flip).syn ≤ (cutF ⟨fd, fs⟩ cval flip).data.size ∧ (cutF ⟨fd, fs⟩ cval flip).data.size ≤ 1048576 := by
            have e : (cutF ⟨fd, fs⟩ cval flip).data.size = (cutF ⟨fd, fs⟩ cval flip).syn := by unfold cutF; simp [Lib.size_mk]
            have e2 : (cutF ⟨fd, fs⟩ cval flip).syn = fs + kp := by unfold cutF; simp only [hkeep]; rw [HB4.out.2.2.1]
            omega
          have hH5 : HasB w4.drew (wr.heap.size + 1) (fd.data.toList.take (fs + kp)) := HB4.out.2.1
          have hd5 := HR.out.1.below (HB4.out.1.drew)
          have ht5 : Tn (two db mb) w w4.drew := HR.out.2.1.trans (Tn.ofBelow HB4.out.1.drew)
          have ho5 : Own eStr w4.drew w.heap.size (.slice (some ⟨g, 0, none⟩) n cn) D.names := row_below HR.out.2.2.1 HB4.out.1.drew
          have kd1 : w4.drew.cell? ⟨db, 0, none⟩ = some (.map (some mb)) := kk
          have hstr : ∀ W : World, HasB W (wr.heap.size + 1) (fd.data.toList.take (fs + kp)) → (convert 55 9 (.slice (some ⟨wr.heap.size + 1, 0, none⟩) (fs + kp) ccap)).run Tryd.prog W = .ok (.string ⟨(fd.data.toList.take (fs + kp)).toArray⟩) W := fun W hW => hW.str _ _ hlk4.symm
          have hst0 := hstr w4.drew hH5
          refine wp_region_K (fun w' => w'.cell? ⟨db, 0, none⟩ = some (.map (some mb)) ∧ (convert 55 9 (.slice (some ⟨wr.heap.size + 1, 0, none⟩) (fs + kp) ccap)).run Tryd.prog w' = .ok (.string ⟨(fd.data.toList.take (fs + kp)).toArray⟩) w') 10 11 (by kernel_rfl) (by kernel_rfl) ⟨kd1, hst0⟩ (fun hH => ?_)
          refine wpAnyK_take (i := 0) [10] (v := ?v31) rfl (by kernel_rfl) (by kernel_rfl) (by kernel_rfl) (by kernel_rfl) (fun _ _ _ h => h) (Or.inl ⟨by rfl, ?hy31⟩) hH ?rest31
          case hy31 => (intro w hSw; (try dsimp only at hSw); go_simp; with_reducible rfl)
          try simp only [Act.put, List.setIfInBounds_toArray, List.set_cons_zero, List.set_cons_succ]
          refine wpAnyK_take (i := 1) [10] (v := ?v32) rfl (by kernel_rfl) (by kernel_rfl) (by kernel_rfl) (by kernel_rfl) (fun _ _ _ h => h) (Or.inl ⟨by rfl, ?hy32⟩) hH ?rest32
          case hy32 => (intro w hSw; (try dsimp only at hSw); go_simp; with_reducible rfl)
          try simp only [Act.put, List.setIfInBounds_toArray, List.set_cons_zero, List.set_cons_succ]
          refine wpAnyK_take (i := 2) [10] (v := ?v33) rfl (by kernel_rfl) (by kernel_rfl) (by kernel_rfl) (by kernel_rfl) (fun _ _ _ h => h) (Or.inl ⟨by rfl, ?hy33⟩) hH ?rest33
          case hy33 => (intro w hSw; (try dsimp only at hSw); go_simp; with_reducible rfl)
          try simp only [Act.put, List.setIfInBounds_toArray, List.set_cons_zero, List.set_cons_succ]
          refine wpAnyK_take (i := 3) [10] (v := ?v34) rfl (by kernel_rfl) (by kernel_rfl) (by kernel_rfl) (by kernel_rfl) (fun _ _ _ h => h) (Or.inl ⟨by rfl, ?hy34⟩) hH ?rest34
          case hy34 => (intro w hSw; (try dsimp only at hSw); go_simp; with_reducible rfl)
          try simp only [Act.put, List.setIfInBounds_toArray, List.set_cons_zero, List.set_cons_succ]
          refine wpAnyK_take (i := 4) [10] (v := ?v35) rfl (by kernel_rfl) (by kernel_rfl) (by kernel_rfl) (by kernel_rfl) (fun _ _ _ h => h) (Or.inl ⟨by rfl, ?hy35⟩) hH ?rest35
          case hy35 => (intro w hSw; (try dsimp only at hSw); go_simp; with_reducible rfl)
          try simp only [Act.put, List.setIfInBounds_toArray, List.set_cons_zero, List.set_cons_succ]
          refine wpAnyK_take (i := 5) [10] (v := ?v36) rfl (by kernel_rfl) (by kernel_rfl) (by kernel_rfl) (by kernel_rfl) (fun _ _ _ h => h) (Or.inl ⟨by rfl, ?hy36⟩) hH ?rest36
          case hy36 => (intro w hSw; (try dsimp only at hSw); go_simp; with_reducible rfl)
          try simp only [Act.put, List.setIfInBounds_toArray, List.set_cons_zero, List.set_cons_succ]
          refine wpAnyK_take (i := 6) [10] (v := ?v37) rfl (by kernel_rfl) (by kernel_rfl) (by kernel_rfl) (by kernel_rfl) (fun _ _ _ h => h) (Or.inl ⟨by rfl, ?hy37⟩) hH ?rest37
          case hy37 => (intro w hSw; (try dsimp only at hSw); go_simp; with_reducible rfl)
          try simp only [Act.put, List.setIfInBounds_toArray, List.set_cons_zero, List.set_cons_succ]
          refine wpAnyK_take (i := 7) [10] (v := ?v38) rfl (by kernel_rfl) (by kernel_rfl) (by kernel_rfl) (by kernel_rfl) (fun _ _ _ h => h) (Or.inl ⟨by rfl, ?hy38⟩) hH ?rest38
          case hy38 => (intro w hSw; (try dsimp only at hSw); go_simp; with_reducible rfl)
          try simp only [Act.put, List.setIfInBounds_toArray, List.set_cons_zero, List.set_cons_succ]
          refine wpAnyK_take (i := 8) [10] (v := ?v39) rfl (by kernel_rfl) (by kernel_rfl) (by kernel_rfl) (by kernel_rfl) (fun _ _ _ h => h) (Or.inl ⟨by rfl, ?hy39⟩) hH ?rest39
          case hy39 => (intro w hSw; (try dsimp only at hSw); go_simp; with_reducible rfl)
          try simp only [Act.put, List.setIfInBounds_toArray, List.set_cons_zero, List.set_cons_succ]
          refine wpAnyK_take (i := 9) [10] (v := ?v40) rfl (by kernel_rfl) (by kernel_rfl) (by kernel_rfl) (by kernel_rfl) (fun _ _ _ h => h) (Or.inl ⟨by rfl, ?hy40⟩) hH ?rest40
          case hy40 => (intro w hSw; (try dsimp only at hSw); go_simp; with_reducible rfl)
          try simp only [Act.put, List.setIfInBounds_toArray, List.set_cons_zero, List.set_cons_succ]
          refine wpAnyK_last (by kernel_rfl) rfl (fun K hK => ?_) (by kernel_rfl)
          refine step_put rfl _ _ _ rfl keyN und_map rfl hd5.m nm rfl (cutF ⟨fd, fs⟩ cval flip) hcvv ?_
          intro w6 hm6 ht6 hz6
          refine hK.out _ _ (wpAnyK_done (by kernel_rfl) ?_ _)
          clear hK K hH
          have hfin := hd5.setM ht6 hm6 (hd5.ok.set HR.out.2.2.2.2.2.1 hcok (Nat.le_trans (Nat.le_of_eq (setL_length.2 (by rw [HR.out.2.2.2.1]; rfl))) hd5.ok.few))
          have hown6 : Own eStr w6 w.heap.size (.slice (some ⟨g, 0, none⟩) n cn) D.names := ht6.row ho5 (fun q hq e => by have := (H.out.1.m.lt); have h1 : g = q := Option.some.inj hq; subst h1; subst e; have := (ho5.lt g rfl).1; omega)
          have htt : Tn (two db mb) w w6 := ht5.trans (ht6.mono (fun q hq => .inr hq))
          have HF := Lib.hid (And.intro hfin (And.intro htt hown6))
          clear hfin htt hown6 hm6 ht6 hz6 ho5 ht5 hd5 hst0 hstr kd1 kk hH5
          go_wp2_with fail
          go_roundw
          case rel =>
            refine ⟨i + 1, by omega, by go_num, ?_, HF.out.2.1, HF.out.2.2⟩
            have e7 : crashL cuts flip (D.names.take (i + 1)) 0 D.m = setL (crashL cuts flip (D.names.take i) 0 D.m) nm (cutF ⟨fd, fs⟩ cval flip) := by
              rw [List.take_succ_eq_append_getElem hin, crashL_app, HR.out.2.2.2.2.2.2.1, HR.out.2.2.2.1]
              simp only [Nat.zero_add]
              rw [List.length_take_of_le (Nat.le_of_lt hin), HR.out.2.2.2.2.2.2.2]
            rw [e7]
            exact HF.out.1
          case measure => simp [intOf]; omega
      · have t1 : (0 : Int) < (kp : Int) := by omega
        have t2 : (1 : Int) ≤ flip := by omega
        have t3 : flip ≤ (255 : Int) := by omega
        clear hw
        have hj0 : fs + kp - 1 < (fd.data.toList.take (fs + kp)).length := by rw [HB4.out.2.2.1]; omega
        obtain ⟨lb, hlb⟩ : ∃ lb, (fd.data.toList.take (fs + kp))[fs + kp - 1]? = some lb := ⟨_, List.getElem?_eq_getElem hj0⟩
        have u1 := (HB4.out.2.1 (fs + kp - 1) hj0).1
        have u2 := (HB4.out.2.1 (fs + kp - 1) hj0).2
        have e0 := hlb
        rw [List.getElem?_eq_getElem hj0] at e0
        rw [Option.some.inj e0] at u1
        have HLB := Lib.hid hlb
        clear hlb e0 hj0
        rcases hcc with ⟨rfl, rfl⟩ | ⟨hvp, cb, coff, rfl, hcellc⟩
        · exfalso; omega
        · have r2 : (0 : Int) < (vl : Int) := by omega
          have hcb : cb < wr.heap.size := World.block_lt_of_cell? _ _ hcellc
          have r3 : ((i % vl : Nat) : Int) = (i : Int) % (vl : Int) := by omega
          have r4 : (i : Int) % (vl : Int) < (vl : Int) := Int.emod_lt_of_pos _ r2
          have r5 : 0 ≤ (i : Int) % (vl : Int) := Int.emod_nonneg _ (by omega)
          go_wp2_with fail
          have hxr : bits BinOp.xor IntKind.u8 (lb.toNat : Int) flip = ((lb ^^^ UInt8.ofNat flip.toNat).toNat : Int) := by
            rw [u8_xor _ _ (by omega) (by have := lb.toNat_lt; omega) (by omega) (by omega), UInt8.toNat_xor, UInt8.toNat_ofNat', Int.toNat_natCast, Nat.mod_eq_of_lt (show flip.toNat < 2 ^ 8 by omega)]
          rw [hxr]
          clear hxr
          obtain ⟨w5, hw5⟩ : ∃ w5, w4.setCell ⟨wr.heap.size + 1, fs + kp - 1, none⟩ (.int .u8 ((lb ^^^ UInt8.ofNat flip.toNat).toNat : Int)) = w5 := ⟨_, rfl⟩
          rw [hw5]
          have hspo : spoil (fd.data.toList.take (fs + kp)) flip = (fd.data.toList.take (fs + kp)).set (fs + kp - 1) (lb ^^^ UInt8.ofNat flip.toNat) := by
            unfold spoil
            rw [HB4.out.2.2.1, List.getD_eq_getElem?_getD, HLB.out]
            rfl
          have hH5 : HasB w5.drew (wr.heap.size + 1) (spoil (fd.data.toList.take (fs + kp)) flip) := by
            rw [hspo, ← hw5]
            exact HB4.out.2.1.set _ _
          have hb5 : Below wr.heap.size wr w5.drew := by rw [← hw5]; exact (HB4.out.1.setCell (by simp) _).drew
          have kk : w5.cell? ⟨db, 0, none⟩ = some (.map (some mb)) := (hb5.cell (p := ⟨db, 0, none⟩) hdb).trans k0
          have hlk4 : (spoil (fd.data.toList.take (fs + kp)) flip).length = fs + kp := by rw [spoil_len]; exact HB4.out.2.2.1
          have hkeep : kept ⟨fd, fs⟩ cval flip = spoil (fd.data.toList.take (fs + kp)) flip := by
            unfold kept
            rw [HKP.out]
            exact if_pos ⟨by omega, by omega, by omega⟩
          have hcvv : (Value.agg #[.string ⟨(spoil (fd.data.toList.take (fs + kp)) flip).toArray⟩, .int .i64 ((fs + kp : Nat) : Int)]) = cvF (cutF ⟨fd, fs⟩ cval flip) := by
            unfold cvF cutF
            simp only [hkeep]
            rw [hlk4]
          have hcok : (cutF ⟨fd, fs⟩ cval flip).syn ≤ (cutF ⟨fd, fs⟩ cval flip).data.size ∧ (cutF ⟨fd, fs⟩ cval flip).data.size ≤ 1048576 := by
            have e : (cutF ⟨fd, fs⟩ cval flip).data.size = (cutF ⟨fd, fs⟩ cval flip).syn := by unfold cutF; simp [Lib.size_mk]
            have e2 : (cutF ⟨fd, fs⟩ cval flip).syn = fs + kp := by unfold cutF; simp only [hkeep]; exact hlk4
            omega
          have hd5 := HR.out.1.below hb5
          have ht5 : Tn (two db mb) w w5.drew := HR.out.2.1.trans (Tn.ofBelow hb5)
          have ho5 : Own eStr w5.drew w.heap.size (.slice (some ⟨g, 0, none⟩) n cn) D.names := row_below HR.out.2.2.1 hb5
          clear hw5 hspo
          have kd1 : w5.drew.cell? ⟨db, 0, none⟩ = some (.map (some mb)) := kk
          have hstr : ∀ W : World, HasB W (wr.heap.size + 1) (spoil (fd.data.toList.take (fs + kp)) flip) → (convert 55 9 (.slice (some ⟨wr.heap.size + 1, 0, none⟩) (fs + kp) ccap)).run Tryd.prog W = .ok (.string ⟨(spoil (fd.data.toList.take (fs + kp)) flip).toArray⟩) W := fun W hW => hW.str _ _ hlk4.symm
          have hst0 := hstr w5.drew hH5
          refine wp_region_K (fun w' => w'.cell? ⟨db, 0, none⟩ = some (.map (some mb)) ∧ (convert 55 9 (.slice (some ⟨wr.heap.size + 1, 0, none⟩) (fs + kp) ccap)).run Tryd.prog w' = .ok (.string ⟨(spoil (fd.data.toList.take (fs + kp)) flip).toArray⟩) w') 10 11 (by kernel_rfl) (by kernel_rfl) ⟨kd1, hst0⟩ (fun hH => ?_)
          refine wpAnyK_take (i := 0) [10] (v := ?v41) rfl (by kernel_rfl) (by kernel_rfl) (by kernel_rfl) (by kernel_rfl) (fun _ _ _ h => h) (Or.inl ⟨by rfl, ?hy41⟩) hH ?rest41
          case hy41 => (intro w hSw; (try dsimp only at hSw); go_simp; with_reducible rfl)
          try simp only [Act.put, List.setIfInBounds_toArray, List.set_cons_zero, List.set_cons_succ]
          refine wpAnyK_take (i := 1) [10] (v := ?v42) rfl (by kernel_rfl) (by kernel_rfl) (by kernel_rfl) (by kernel_rfl) (fun _ _ _ h => h) (Or.inl ⟨by rfl, ?hy42⟩) hH ?rest42
          case hy42 => (intro w hSw; (try dsimp only at hSw); go_simp; with_reducible rfl)
          try simp only [Act.put, List.setIfInBounds_toArray, List.set_cons_zero, List.set_cons_succ]
          refine wpAnyK_take (i := 2) [10] (v := ?v43) rfl (by kernel_rfl) (by kernel_rfl) (by kernel_rfl) (by kernel_rfl) (fun _ _ _ h => h) (Or.inl ⟨by rfl, ?hy43⟩) hH ?rest43
          case hy43 => (intro w hSw; (try dsimp only at hSw); go_simp; with_reducible rfl)
          try simp only [Act.put, List.setIfInBounds_toArray, List.set_cons_zero, List.set_cons_succ]
          refine wpAnyK_take (i := 3) [10] (v := ?v44) rfl (by kernel_rfl) (by kernel_rfl) (by kernel_rfl) (by kernel_rfl) (fun _ _ _ h => h) (Or.inl ⟨by rfl, ?hy44⟩) hH ?rest44
          case hy44 => (intro w hSw; (try dsimp only at hSw); go_simp; with_reducible rfl)
          try simp only [Act.put, List.setIfInBounds_toArray, List.set_cons_zero, List.set_cons_succ]
          refine wpAnyK_take (i := 4) [10] (v := ?v45) rfl (by kernel_rfl) (by kernel_rfl) (by kernel_rfl) (by kernel_rfl) (fun _ _ _ h => h) (Or.inl ⟨by rfl, ?hy45⟩) hH ?rest45
          case hy45 => (intro w hSw; (try dsimp only at hSw); go_simp; with_reducible rfl)
          try simp only [Act.put, List.setIfInBounds_toArray, List.set_cons_zero, List.set_cons_succ]
          refine wpAnyK_take (i := 5) [10] (v := ?v46) rfl (by kernel_rfl) (by kernel_rfl) (by kernel_rfl) (by kernel_rfl) (fun _ _ _ h => h) (Or.inl ⟨by rfl, ?hy46⟩) hH ?rest46
          case hy46 => (intro w hSw; (try dsimp only at hSw); go_simp; with_reducible rfl)
          try simp only [Act.put, List.setIfInBounds_toArray, List.set_cons_zero, List.set_cons_succ]
          refine wpAnyK_take (i := 6) [10] (v := ?v47) rfl (by kernel_rfl) (by kernel_rfl) (by kernel_rfl) (by kernel_rfl) (fun _ _ _ h => h) (Or.inl ⟨by rfl, ?hy47⟩) hH ?rest47
          case hy47 => (intro w hSw; (try dsimp only at hSw); go_simp; with_reducible rfl)
          try simp only [Act.put, List.setIfInBounds_toArray, List.set_cons_zero, List.set_cons_succ]
          refine wpAnyK_take (i := 7) [10] (v := ?v48) rfl (by kernel_rfl) (by kernel_rfl) (by kernel_rfl) (by kernel_rfl) (fun _ _ _ h => h) (Or.inl ⟨by rfl, ?hy48⟩) hH ?rest48
          case hy48 => (intro w hSw; (try dsimp only at hSw); go_simp; with_reducible rfl)
          try simp only [Act.put, List.setIfInBounds_toArray, List.set_cons_zero, List.set_cons_succ]
          refine wpAnyK_take (i := 8) [10] (v := ?v49) rfl (by kernel_rfl) (by kernel_rfl) (by kernel_rfl) (by kernel_rfl) (fun _ _ _ h => h) (Or.inl ⟨by rfl, ?hy49⟩) hH ?rest49
          case hy49 => (intro w hSw; (try dsimp only at hSw); go_simp; with_reducible rfl)
          try simp only [Act.put, List.setIfInBounds_toArray, List.set_cons_zero, List.set_cons_succ]
          refine wpAnyK_take (i := 9) [10] (v := ?v50) rfl (by kernel_rfl) (by kernel_rfl) (by kernel_rfl) (by kernel_rfl) (fun _ _ _ h => h) (Or.inl ⟨by rfl, ?hy50⟩) hH ?rest50
          case hy50 => (intro w hSw; (try dsimp only at hSw); go_simp; with_reducible rfl)
          try simp only [Act.put, List.setIfInBounds_toArray, List.set_cons_zero, List.set_cons_succ]
          refine wpAnyK_last (by kernel_rfl) rfl (fun K hK => ?_) (by kernel_rfl)
          refine step_put rfl _ _ _ rfl keyN und_map rfl hd5.m nm rfl (cutF ⟨fd, fs⟩ cval flip) hcvv ?_
          intro w6 hm6 ht6 hz6
          refine hK.out _ _ (wpAnyK_done (by kernel_rfl) ?_ _)
          clear hK K hH
          have hfin := hd5.setM ht6 hm6 (hd5.ok.set HR.out.2.2.2.2.2.1 hcok (Nat.le_trans (Nat.le_of_eq (setL_length.2 (by rw [HR.out.2.2.2.1]; rfl))) hd5.ok.few))
          have hown6 : Own eStr w6 w.heap.size (.slice (some ⟨g, 0, none⟩) n cn) D.names := ht6.row ho5 (fun q hq e => by have := (H.out.1.m.lt); have h1 : g = q := Option.some.inj hq; subst h1; subst e; have := (ho5.lt g rfl).1; omega)
          have htt : Tn (two db mb) w w6 := ht5.trans (ht6.mono (fun q hq => .inr hq))
          have HF := Lib.hid (And.intro hfin (And.intro htt hown6))
          clear hfin htt hown6 hm6 ht6 hz6 ho5 ht5 hd5 hst0 hstr kd1 kk hH5
          go_wp2_with fail
          go_roundw
          case rel =>
            refine ⟨i + 1, by omega, by go_num, ?_, HF.out.2.1, HF.out.2.2⟩
            have e7 : crashL cuts flip (D.names.take (i + 1)) 0 D.m = setL (crashL cuts flip (D.names.take i) 0 D.m) nm (cutF ⟨fd, fs⟩ cval flip) := by
              rw [List.take_succ_eq_append_getElem hin, crashL_app, HR.out.2.2.2.2.2.2.1, HR.out.2.2.2.1]
              simp only [Nat.zero_add]
              rw [List.length_take_of_le (Nat.le_of_lt hin), HR.out.2.2.2.2.2.2.2]
            rw [e7]
            exact HF.out.1
          case measure => simp [intOf]; omega
    · obtain rfl : i = n := by omega
      have HE := Lib.hid (And.intro hd (And.intro ht ho))
      clear hd ht ho
      go_wp2
      go_end0
      refine ⟨rfl, ?_, HE.out.2.1⟩
      rw [H.out.2.1]
      have h8 := HE.out.1
      rw [List.take_of_length_le (by rw [H1.out.2.2]; omega)] at h8
      exact h8
end Go.Proofs.YtjhajlfkiafhgaaDoor
