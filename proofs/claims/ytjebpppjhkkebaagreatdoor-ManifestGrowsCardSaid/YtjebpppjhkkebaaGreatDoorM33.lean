import Derived.Test.YtjebpppjhkkebaaGreatDoorM32
import Derived.Test.YtjebpppjhkkebaaGreatDoorM5
import Derived.Test.YtjebpppjhkkebaaGreatDoorM9
import Derived.BigQuiet
/-
  Manifest: the laws' first call.
-/
set_option linter.unusedSimpArgs false
set_option linter.unusedVariables false
namespace Go.Proofs.YtjebpppjhkkebaaGreatDoor
open Go.RowKit
variable {w w' w0 : World} {F F' G G' H : Nat → Prop} {B db mb lb mp mm k n fb : Nat} {D D' : Dk} {L L' : Lg} {S : List (Nat × Fl)} {dir dr : ByteArray} {s t : PS} {e : PE} {seq : Int} {stuck : Bool} {v : Value}

theorem mstuck_c (c0 : w.cell? ⟨mm, 0, none⟩ = some (.pointer (some ⟨db, 0, none⟩))) (c9 : w.cell? ⟨mm, 9, none⟩ = some (.bool stuck)) : Calls Tryz.prog 11 #[.pointer (some ⟨mm, 0, none⟩)] w fun e w' => e = .returned (.bool stuck) ∧ w = w' := by
  have hn := mnone_at c0
  have HN := Lib.hid hn
  clear hn c0
  go_enter Tryz.func11, Tryz.ntmps11
  go_wp2_with (go_at_call 23; go_loud (refine HN.out.mono ?_); rintro e w2 ⟨rfl, rfl⟩)
  go_ret
  exact ⟨rfl, rfl⟩
theorem FiB.tnH {b : Nat} {u : Fi} (h : FiB w b u) (t : Tn H w w') (hH : ¬ H b) : FiB w' b u := ⟨t.cell h.c0 hH, t.cell h.c1 hH, t.cell h.c2 hH, t.cell h.c3 hH, t.cell h.c4 hH, t.cell h.c5 hH⟩
theorem edA (h : FiB w fb fA) : EdV w (.agg #[.slice (some ⟨fb, 0, none⟩) 1 1, .slice none 0 0, .int .i64 0, .slice none 0 0, .slice none 0 0]) eA := by
  refine ⟨_, _, _, _, rfl, ⟨some ⟨fb, 0, none⟩, 1, rfl, Nat.le_refl _, by omega, (fun e => by cases e), .inr ⟨fb, 0, rfl, h.lt, fun i hi j u hu => ?_⟩⟩, RdA.nil w, RdA.nil w, RdA.nil w⟩
  have hi0 : i = 0 := by simp [eA] at hi; omega
  subst hi0
  have hu : fA.cells[j]? = some u := hu
  have hj : j < 6 := (List.getElem?_eq_some_iff.1 hu).1
  rw [show 0 + 0 * 6 + j = j by omega]
  rcases (by omega : j = 0 ∨ j = 1 ∨ j = 2 ∨ j = 3 ∨ j = 4 ∨ j = 5) with rfl | rfl | rfl | rfl | rfl | rfl
  · exact h.c0.trans hu
  · exact h.c1.trans hu
  · exact h.c2.trans hu
  · exact h.c3.trans hu
  · exact h.c4.trans hu
  · exact h.c5.trans hu
theorem laidA : LaidOk eA := ⟨fun f hf => by simp [eA] at hf; subst hf; exact validA, by decide, fun n hn => by simp [eA] at hn, by decide, by decide, .inl rfl, fun p hp => by simp [eA] at hp, by decide⟩
abbrev dm : ByteArray := ⟨#[109]⟩
theorem laidA_len : (laidL eA).length ≤ 90000 := by
  have h1 := fiL_len validA
  unfold laidL eA flL
  simp only [List.flatMap_cons, List.flatMap_nil, List.length_append, List.length_nil, if_pos]
  have h2 := (numL_len (([fA].length : Nat) : Int)).2
  have h3 := (numL_len ((([] : List Int).length : Nat) : Int)).2
  have h4 := (numL_len 0).2
  simp only [List.length_nil, List.length_cons] at *
  omega
set_option maxRecDepth 100000 in
set_option maxHeartbeats 8000000 in
theorem malive_any (w : World) : Calls Tryz.prog 8 #[] w fun e w' => e = .returned (.bool true) ∧ Below w.heap.size w w' := by
  have hdm : nmB dm = true := by kernel_rfl
  have hdr : nmB (dm ++ tM) = true := dirN_nm hdm (by decide) (by decide) (by decide)
  have hls : ((dkF (dmap (dm ++ tM) [] none) (-1) none 0).list (dm ++ tM)).length = 0 := by
    unfold Dk.list
    rw [if_pos (show (dkF (dmap (dm ++ tM) [] none) (-1) none 0).on = true from rfl)]
    have : (dkF (dmap (dm ++ tM) [] none) (-1) none 0).names = [] := rfl
    rw [this]
    rfl
  have HD := Lib.hid (And.intro hdm (And.intro hdr hls))
  clear hdm hdr hls
  go_enter Tryz.func8, Tryz.ntmps8
  go_upto_region 3 with (first
    | (go_at_call 6; refine (mopen_new H1.out HD.out.1 (by decide)).mono ?_; rintro r w2 ⟨F2, G2, lb, mp, mm, rfl, h2⟩; obtain ⟨fb, hfb⟩ : ∃ m, w2.heap.size = m := ⟨_, rfl⟩; obtain ⟨w3, hw3⟩ : ∃ w3, w2.alloc (.cells #[.int .i64 0, .int .i64 1, .int .i64 1, .int .i64 5, .string ⟨#[97]⟩, .string ⟨#[98]⟩] 54) = w3 := ⟨_, rfl⟩; obtain ⟨eb, heb⟩ : ∃ m, w3.heap.size = m := ⟨_, rfl⟩; obtain ⟨w4, hw4⟩ : ∃ w4, w3.alloc (.cells #[.slice none 0 0, .slice none 0 0, .int .i64 0, .slice none 0 0, .slice none 0 0] 40) = w4 := ⟨_, rfl⟩; have hb3 : Below w2.heap.size w2 w3 := (by rw [← hw3]; exact (Below.refl _ _).alloc (Nat.le_refl _) _); have hb4 : Below w3.heap.size w3 w4 := (by rw [← hw4]; exact (Below.refl _ _).alloc (Nat.le_refl _) _); have hf3 : FiB w3 fb fA := (by rw [← hw3, ← hfb]; exact FiB.made w2 fA); have ho4 : ObS w4 eb (.slice none 0 0) (.slice none 0 0) (.int .i64 0) (.slice none 0 0) (.slice none 0 0) := (by rw [← hw4, ← heb]; refine ⟨?_, ?_, ?_, ?_, ?_, fun j => ?_⟩ <;> simp [go_sem]); have hsz : eb = fb + 1 := (by rw [← heb, ← hw3, ← hfb]; simp); have H4 := Lib.hid (And.intro ((h2.stay hb3).stay hb4) (And.intro (hf3.below hb4) (And.intro ho4 (And.intro hfb (And.intro hsz h2))))); have z0 := ho4.z0; have z1 := ho4.z1; have z2 := ho4.z2; have z3 := ho4.z3; have z4 := ho4.z4; have f0 := ho4.zf 0; have f1 := ho4.zf 1; have f2 := ho4.zf 2; have f3 := ho4.zf 3; have f4 := ho4.zf 4; clear h2 hb3 hb4 hf3 ho4 hsz)
    | (go_at_call 7; refine (c_newd (w0 := w) (Below.refl _ _)).mono ?_; rintro e w1 ⟨rfl, h1, _⟩; have H1 := Lib.hid h1; clear h1))
  obtain ⟨w5, hw5⟩ : ∃ w5, (((((w4.setCell ⟨eb, 0, none⟩ (.slice (some ⟨fb, 0, none⟩) 1 1)).setCell ⟨eb, 1, none⟩ (.slice none 0 0)).setCell ⟨eb, 2, none⟩ (.int .i64 0)).setCell ⟨eb, 3, none⟩ (.slice none 0 0)).setCell ⟨eb, 4, none⟩ (.slice none 0 0)) = w5 := ⟨_, rfl⟩
  rw [hw5]
  have t5 : Tn (fun q => q = eb) w4 w5 := by rw [← hw5]; exact tn5
  have hO5 : ObS w5 eb (.slice (some ⟨fb, 0, none⟩) 1 1) (.slice none 0 0) (.int .i64 0) (.slice none 0 0) (.slice none 0 0) := by rw [← hw5]; exact cells5 H4.out.2.2.1
  have hlF := H4.out.2.2.2.2.2.ws.d.d.lt
  have hlm := H4.out.2.2.2.2.2.lt
  have hBz := H4.out.2.2.2.2.2.ws.d.hz
  have hfb := H4.out.2.2.2.1
  have hes := H4.out.2.2.2.2.1
  have hM5 := H4.out.1.aside rfl t5 (fun q e => by subst e; exact ⟨fun e => by have := hlF _ e; omega, by omega, by omega⟩) ⟨rfl, rfl, rfl⟩
  have hF5 := H4.out.2.1.tnH t5 (by omega)
  have hnF : ∀ q, fb ≤ q → ¬ (F2 q ∨ q = mm) := fun q hq e => e.elim (fun e => by have := hlF _ e; omega) (fun e => by omega)
  have HN := Lib.hid (And.intro hnF hes)
  have hlm2 : mm < fb := by omega
  have hb5 := (Below.refl w5.heap.size w5).drew
  have HV0 := Lib.hid (And.intro (hM5.stay hb5) (And.intro (hF5.below hb5) (hO5.below hb5)))
  clear hb5 hM5 hF5 hO5 t5 hw5 z0 z1 z2 z3 z4 f0 f1 f2 f3 f4 hw3 hw4 hlF hlm hBz hfb hes hnF heb
  refine wp_region_K (fun w' => w'.cell? ⟨eb, 0, none⟩ = some (.slice (some ⟨fb, 0, none⟩) 1 1) ∧ w'.cell? ⟨eb, 1, none⟩ = some (.slice none 0 0) ∧ w'.cell? ⟨eb, 2, none⟩ = some (.int .i64 0) ∧ w'.cell? ⟨eb, 3, none⟩ = some (.slice none 0 0) ∧ w'.cell? ⟨eb, 4, none⟩ = some (.slice none 0 0)) 7 8 (by kernel_rfl) (by kernel_rfl) HV0.out.2.2.and (fun hH => ?_)
  refine tkK (i := 0) [7] rfl hH ?_
  try simp only [Act.put, tkA, tkB, tkC]
  refine tkK (i := 1) [7] rfl hH ?_
  try simp only [Act.put, tkA, tkB, tkC]
  refine tkK (i := 3) [7] rfl hH ?_
  try simp only [Act.put, tkA, tkB, tkC]
  refine tkK (i := 4) [7] rfl hH ?_
  try simp only [Act.put, tkA, tkB, tkC]
  refine wpAnyK_one (i := 2) (by kernel_rfl) rfl (fun K hK => ?_) (by kernel_rfl)
  go_simp
  go_at_call 9
  refine (commit_ok (dr := dm ++ tM) (S := []) (k := 0) (n := 0) (e := eA) (t := s02) HV0.out.1 rfl (by decide) HD.out.2.1 (run_opened Rise.nil (fun p hp => by simp at hp) (fun p hp => by simp at hp)) HD.out.2.2 (by decide) good01 ⟨by decide, by decide⟩ rfl rfl (edA HV0.out.2.1) laidA (by decide) aA1 laidA_len (by decide) (by decide) (by decide) (by show (0 : Int) ≤ _; decide)).mono ?_
  rintro r v1 ⟨rfl, F5, G5, S5, k5, L5, hm5, _, _, _, ht5, hn5⟩
  have HV1 := Lib.hid (And.intro hm5 (And.intro (HV0.out.2.1.tnH ht5 (HN.out.1 _ (Nat.le_refl _))) (HV0.out.2.2.tnH ht5 (HN.out.1 _ (by have := HN.out.2; omega)))))
  clear hm5 ht5 hn5
  refine hK.out _ _ HV1.out.2.2.and (fun hH => ?_)
  clear hK K
  try simp only [Act.put, tkA, tkB, tkC]
  refine wpAnyK_one (i := 5) (by kernel_rfl) rfl (fun K hK => ?_) (by kernel_rfl)
  go_simp
  go_at_call 9
  refine (commit_no (e := eA) HV1.out.1 good02 (edA HV1.out.2.1) (by decide) (by decide) (by decide) (by decide) aA2 (by decide)).mono ?_
  rintro r v2 ⟨rfl, hb2⟩
  have HV2 := Lib.hid (And.intro (HV1.out.1.stay hb2) (HV1.out.2.2.below hb2))
  clear hb2
  refine hK.out _ _ HV2.out.2.and (fun hH => ?_)
  clear hK K
  try simp only [Act.put, tkA, tkB, tkC]
  refine tkK (i := 6) [7] rfl hH ?_
  try simp only [Act.put, tkA, tkB, tkC]
  refine wpAnyK_last (by kernel_rfl) rfl (fun K hK => ?_) (by kernel_rfl)
  go_simp
  refine hK.out _ _ (wpAnyK_done (by kernel_rfl) ?_ _)
  clear hK K hH
  have hml := HV2.out.1.lt
  go_wp2_with (first
    | (go_at_call 11; refine (mstuck_c (db := w.heap.size + 1) (stuck := false) (tn5.cell HQ.out.1 (by show ¬ mm = tb; omega)) (tn5.cell HQ.out.2.1 (by show ¬ mm = tb; omega))).mono ?_; rintro r v5 ⟨rfl, rfl⟩)
    | (go_at_call 13; refine (mstate_at HV2.out.1 good02 (by decide)).mono ?_; rintro r v3 ⟨sv, rfl, ⟨fv, lv, nv, rfl, o1, o2, o3⟩, hb3⟩; obtain ⟨fa, fc, rfl, _, _⟩ := row_form o1; obtain ⟨la, lc, rfl, _, _⟩ := row_form o2; obtain ⟨na, nc, rfl, _, _⟩ := row_form o3; rw [show s02.fs.length = 1 from rfl, show s02.next = 2 from rfl, show s02.log = 0 from rfl, show s02.fl.length = 0 from rfl, show s02.ns.length = 0 from rfl]; obtain ⟨tb, htb⟩ : ∃ m, v3.heap.size = m := ⟨_, rfl⟩; obtain ⟨v4, hv4⟩ : ∃ w5, v3.alloc (.cells #[.slice none 0 0, .int .i64 0, .int .i64 0, .slice none 0 0, .slice none 0 0] 30) = w5 := ⟨_, rfl⟩; have hb4 : Below v3.heap.size v3 v4 := (by rw [← hv4]; exact (Below.refl _ _).alloc (Nat.le_refl _) _); have hz4 : ObZ v4 tb := (by rw [← hv4, ← htb]; exact ObZ.made v3); have hM4 := (HV2.out.1.stay hb3).stay hb4; have hmt : mm < tb := (by have := hb3.size; omega); have HQ := Lib.hid (And.intro hM4.c0 (And.intro hM4.c9 (And.intro hM4.ws.d (And.intro hmt hz4)))); have z0 := hz4.z0; have z1 := hz4.z1; have z2 := hz4.z2; have z3 := hz4.z3; have z4 := hz4.z4; have f0 := hz4.zf 0; have f1 := hz4.zf 1; have f2 := hz4.zf 2; have f3 := hz4.zf 3; have f4 := hz4.zf 4; clear o1 o2 o3 hb3 hb4 hz4 hM4))
  go_ret
  have hnew := HV2.out.1.new
  have hmt := HQ.out.2.2.2.1
  exact ⟨rfl, HQ.out.2.2.1.b.trans (tn5.below HQ.out.2.2.1.hz (fun q hq => by subst hq; omega))⟩
end Go.Proofs.YtjebpppjhkkebaaGreatDoor
/-
  Manifest: the document's Same, of two states that say the same.
-/
set_option linter.unusedSimpArgs false
set_option linter.unusedVariables false
namespace Go.Proofs.YtjebpppjhkkebaaGreatDoor
open Go.RowKit

set_option maxRecDepth 100000 in
theorem meqfi (lv nu ct sz : Int) (f l : ByteArray) (w : World) : (Op.equalIn 10000 54 (.agg #[.int .i64 lv, .int .i64 nu, .int .i64 ct, .int .i64 sz, .string f, .string l]) (.agg #[.int .i64 lv, .int .i64 nu, .int .i64 ct, .int .i64 sz, .string f, .string l])).run Tryz.prog w = .ok true w := by
  have hp : ∀ (xs : Array Value) (o : Nat) (v : Value) (w : World), xs[o]? = some v → (part 9 xs o).run Tryz.prog w = .ok v w := by
    intro xs o v w h
    simp [part, Tryz.isAgg9, h, Result.andThen]
  have hpi : ∀ (xs : Array Value) (o : Nat) (v : Value) (w : World), xs[o]? = some v → (part 3 xs o).run Tryz.prog w = .ok v w := by
    intro xs o v w h
    simp [part, Tryz.isAgg3, h, Result.andThen]
  have es : ∀ (d : Nat) (a : ByteArray) (w : World), (Op.equalIn (d + 1) 9 (.string a) (.string a)).run Tryz.prog w = .ok true w := fun d a w => by
    have hb : (a == a) = true := by
      cases a with | mk x =>
      show (x == x) = true
      simp
    simp [Op.equalIn, go_sem, hb]
  have ei : ∀ (d : Nat) (n : Int) (w : World), (Op.equalIn (d + 1) 3 (.int .i64 n) (.int .i64 n)).run Tryz.prog w = .ok true w := fun d n w => by simp [Op.equalIn, go_sem]
  have es9 := es 9998
  have ei9 := ei 9998
  rw [show (10000 : Nat) = 9999 + 1 from rfl, run_equalIn_struct w 9999 _ _ _ (by kernel_rfl) (by kernel_rfl)]
  have hf : (Tryz.prog.fieldsOf 54).toList = _ := congrArg Array.toList (by unfold Program.fieldsOf; rw [Tryz.underlying54])
  rw [hf]
  clear hf
  simp only [Op.eqFields, Sem.run_bind, Sem.run_ite, Sem.run_pure]
  simp [hp, hpi, es9, ei9, Result.andThen]
set_option maxRecDepth 100000 in
theorem meqnt (f l : ByteArray) (w : World) : (Op.equalIn 10000 47 (.agg #[.string f, .string l]) (.agg #[.string f, .string l])).run Tryz.prog w = .ok true w := by
  have hp : ∀ (xs : Array Value) (o : Nat) (v : Value) (w : World), xs[o]? = some v → (part 9 xs o).run Tryz.prog w = .ok v w := by
    intro xs o v w h
    simp [part, Tryz.isAgg9, h, Result.andThen]
  have hpi : ∀ (xs : Array Value) (o : Nat) (v : Value) (w : World), xs[o]? = some v → (part 3 xs o).run Tryz.prog w = .ok v w := by
    intro xs o v w h
    simp [part, Tryz.isAgg3, h, Result.andThen]
  have es : ∀ (d : Nat) (a : ByteArray) (w : World), (Op.equalIn (d + 1) 9 (.string a) (.string a)).run Tryz.prog w = .ok true w := fun d a w => by
    have hb : (a == a) = true := by
      cases a with | mk x =>
      show (x == x) = true
      simp
    simp [Op.equalIn, go_sem, hb]
  have ei : ∀ (d : Nat) (n : Int) (w : World), (Op.equalIn (d + 1) 3 (.int .i64 n) (.int .i64 n)).run Tryz.prog w = .ok true w := fun d n w => by simp [Op.equalIn, go_sem]
  have es9 := es 9998
  have ei9 := ei 9998
  rw [show (10000 : Nat) = 9999 + 1 from rfl, run_equalIn_struct w 9999 _ _ _ (by kernel_rfl) (by kernel_rfl)]
  have hf : (Tryz.prog.fieldsOf 47).toList = _ := congrArg Array.toList (by unfold Program.fieldsOf; rw [Tryz.underlying47])
  rw [hf]
  clear hf
  simp only [Op.eqFields, Sem.run_bind, Sem.run_ite, Sem.run_pure]
  simp [hp, hpi, es9, ei9, Result.andThen]
theorem rdI_drewN {w : World} {x : Value} {l : List Int} (h : RdI w x l) (k : Nat) : RdI (w.drewN k) x l := h
theorem mdrewN_below (w : World) (k : Nat) : Below w.heap.size w (w.drewN k) := ⟨rfl, rfl, rfl, Nat.le_refl _, fun _ _ => rfl⟩
theorem leqV_refl (a : List Int) : leqV a a := ⟨rfl, fun i _ _ => Int.le_refl _⟩
set_option maxHeartbeats 1000000 in
theorem rsame_any {w : World} {x y : Value} {a : List Int} (hx : RdI w x a) (hy : RdI w y a) (hl : a.length ≤ 1000000) :
    Calls Tryz.prog 37 #[x, y] w fun e w' => e = .returned (.bool true) ∧ Below w.heap.size w w' := by
  have h1 := leq_any hx hy (leqV_refl a) hl
  have h2 : ∀ k, Calls Tryz.prog 77 #[y, x] (w.drewN k) fun e w' => e = .returned (.bool true) ∧ ∃ k2, w' = (w.drewN k).drewN k2 := fun k => leq_any (rdI_drewN hy k) (rdI_drewN hx k) (leqV_refl a) hl
  obtain ⟨xa, xc, rfl, -⟩ := hx
  obtain ⟨ya, yc, rfl, -⟩ := hy
  obtain ⟨n, hn⟩ : ∃ n, a.length = n := ⟨_, rfl⟩
  rw [hn] at h1 h2 ⊢
  clear hn hl
  go_enter Tryz.func37, Tryz.ntmps37
  go_wp2_with (first
    | (go_at_call 77; with_reducible refine (h2 k).mono ?_; rintro e v2 ⟨rfl, k2, hk2⟩; have hbk : Below (w.drewN k).heap.size (w.drewN k) v2 := (by rw [hk2]; exact mdrewN_below _ _); have HK := Lib.hid hbk; clear hk2 hbk)
    | (go_at_call 77; go_loud (with_reducible refine h1.mono ?_); rintro e v1 ⟨rfl, k, rfl⟩; have HJ := Lib.hid (mdrewN_below w k)))
  go_ret
  exact ⟨rfl, HJ.out.trans (HK.out.mono HJ.out.size)⟩

/-- Two states in boxes. -/
structure Sm2 (w w' : World) (u0 u1 u2 u3 u4 v0 v1 v2 v3 v4 : Value) : Prop where
  a0 : w'.cell? ⟨w.heap.size, 0, none⟩ = some u0
  a1 : w'.cell? ⟨w.heap.size, 1, none⟩ = some u1
  a2 : w'.cell? ⟨w.heap.size, 2, none⟩ = some u2
  a3 : w'.cell? ⟨w.heap.size, 3, none⟩ = some u3
  a4 : w'.cell? ⟨w.heap.size, 4, none⟩ = some u4
  b0 : w'.cell? ⟨w.heap.size + 1, 0, none⟩ = some v0
  b1 : w'.cell? ⟨w.heap.size + 1, 1, none⟩ = some v1
  b2 : w'.cell? ⟨w.heap.size + 1, 2, none⟩ = some v2
  b3 : w'.cell? ⟨w.heap.size + 1, 3, none⟩ = some v3
  b4 : w'.cell? ⟨w.heap.size + 1, 4, none⟩ = some v4
  bel : Below w.heap.size w w'
  sz : w.heap.size + 2 ≤ w'.heap.size
theorem Sm2.below {w w' w'' : World} {u0 u1 u2 u3 u4 v0 v1 v2 v3 v4 : Value} (h : Sm2 w w' u0 u1 u2 u3 u4 v0 v1 v2 v3 v4) (hb : Below w'.heap.size w' w'') : Sm2 w w'' u0 u1 u2 u3 u4 v0 v1 v2 v3 v4 :=
  have l0 : w.heap.size < w'.heap.size := by have := h.sz; omega
  have l1 : w.heap.size + 1 < w'.heap.size := by have := h.sz; omega
  ⟨(hb.cell (p := ⟨w.heap.size, 0, none⟩) l0).trans h.a0, (hb.cell (p := ⟨w.heap.size, 1, none⟩) l0).trans h.a1, (hb.cell (p := ⟨w.heap.size, 2, none⟩) l0).trans h.a2, (hb.cell (p := ⟨w.heap.size, 3, none⟩) l0).trans h.a3, (hb.cell (p := ⟨w.heap.size, 4, none⟩) l0).trans h.a4,
   (hb.cell (p := ⟨w.heap.size + 1, 0, none⟩) l1).trans h.b0, (hb.cell (p := ⟨w.heap.size + 1, 1, none⟩) l1).trans h.b1, (hb.cell (p := ⟨w.heap.size + 1, 2, none⟩) l1).trans h.b2, (hb.cell (p := ⟨w.heap.size + 1, 3, none⟩) l1).trans h.b3, (hb.cell (p := ⟨w.heap.size + 1, 4, none⟩) l1).trans h.b4,
   h.bel.trans (hb.mono h.bel.size), Nat.le_trans h.sz hb.size⟩
theorem Sm2.drewN {w w' : World} {u0 u1 u2 u3 u4 v0 v1 v2 v3 v4 : Value} (h : Sm2 w w' u0 u1 u2 u3 u4 v0 v1 v2 v3 v4) (n : Nat) : Sm2 w (w'.drewN n) u0 u1 u2 u3 u4 v0 v1 v2 v3 v4 := h.below (mdrewN_below _ n)
set_option maxRecDepth 100000 in
set_option maxHeartbeats 4000000 in
theorem msame_any {w : World} {x y : Value} {s : PS} (hx : StV w x s) (hy : StV w y s) (l1 : s.fs.length ≤ 1000000) (l2 : s.fl.length ≤ 1000000) (l3 : s.ns.length ≤ 1000000) :
    Calls Tryz.prog 12 #[x, y] w fun e w' => e = .returned (.bool true) ∧ Below w.heap.size w w' := by
  obtain ⟨xf, xl, xn, rfl, x1, x2, x3⟩ := hx
  obtain ⟨yf, yl, yn, rfl, y1, y2, y3⟩ := hy
  obtain ⟨fa, fc, rfl, _, _⟩ := x1.form
  obtain ⟨ga, gc, rfl, _, _⟩ := y1.form
  obtain ⟨la, lc, rfl, _, _⟩ := x2.form
  obtain ⟨ka, kc', rfl, _, _⟩ := y2.form
  obtain ⟨na, nc, rfl, _, _⟩ := x3.form
  obtain ⟨ma, mc, rfl, _, _⟩ := y3.form
  have hSM : ∀ w', Below w.heap.size w w' → Calls Tryz.prog 37 #[.slice la s.fl.length lc, .slice ka s.fl.length kc'] w' fun e w'' => e = .returned (.bool true) ∧ Below w'.heap.size w' w'' := fun w' hb => rsame_any (rdz_rdi (x2.below hb)) (rdz_rdi (y2.below hb)) l2
  obtain ⟨fn, hfn⟩ : ∃ n, s.fs.length = n := ⟨_, rfl⟩
  obtain ⟨ln, hln⟩ : ∃ n, s.fl.length = n := ⟨_, rfl⟩
  obtain ⟨nn, hnn⟩ : ∃ n, s.ns.length = n := ⟨_, rfl⟩
  rw [hfn] at x1 y1 l1 ⊢
  rw [hln] at hSM ⊢
  rw [hnn] at x3 y3 l3 ⊢
  have HF := Lib.hid (And.intro x1 (And.intro y1 hfn))
  have HN := Lib.hid (And.intro x3 (And.intro y3 hnn))
  have HSM := Lib.hid hSM
  have heq := meqfi
  have hen := meqnt
  clear x1 x2 x3 y1 y2 y3 hSM hfn hln hnn l2
  have t0 : ((fn : Int) != (fn : Int)) = false := by simp
  have t1 : ((nn : Int) != (nn : Int)) = false := by simp
  have t2 : ((s.next : Int) != s.next) = false := by simp
  have t3 : ((s.log : Int) != s.log) = false := by simp
  obtain ⟨w1, hw1⟩ : ∃ w1, w.alloc (.cells #[.slice fa fn fc, .int .i64 s.next, .int .i64 s.log, .slice la ln lc, .slice na nn nc] 30) = w1 := ⟨_, rfl⟩
  obtain ⟨w2, hw2⟩ : ∃ w2, w1.alloc (.cells #[.slice ga fn gc, .int .i64 s.next, .int .i64 s.log, .slice ka ln kc', .slice ma nn mc] 30) = w2 := ⟨_, rfl⟩
  have h2 : Sm2 w w2 (.slice fa fn fc) (.int .i64 s.next) (.int .i64 s.log) (.slice la ln lc) (.slice na nn nc) (.slice ga fn gc) (.int .i64 s.next) (.int .i64 s.log) (.slice ka ln kc') (.slice ma nn mc) := by
    rw [← hw2, ← hw1]
    refine ⟨?_, ?_, ?_, ?_, ?_, ?_, ?_, ?_, ?_, ?_, ((Below.refl _ _).alloc (Nat.le_refl _) _).alloc (by simp) _, by simp⟩
    all_goals simp [go_sem]
  have H2 := Lib.hid h2
  have hz1 : w1.heap.size = w.heap.size + 1 := by rw [← hw1]; simp
  clear h2
  have a0 := H2.out.a0
  have a1 := H2.out.a1
  have a2 := H2.out.a2
  have a3 := H2.out.a3
  have a4 := H2.out.a4
  have b0 := H2.out.b0
  have b1 := H2.out.b1
  have b2 := H2.out.b2
  have b3 := H2.out.b3
  have b4 := H2.out.b4
  go_enter Tryz.func12, Tryz.ntmps12
  go_wp2_with (go_at_call 37; refine (HSM.out _ H2.out.bel).mono ?_; rintro e w3 ⟨rfl, hb3⟩; have H3 := Lib.hid (H2.out.below hb3); have p4 := H3.out.a4; have q4 := H3.out.b4; clear hb3)
  clear a0 a1 a2 a3 a4 b0 b1 b2 b3 b4 p4 q4
  go_loopw [5] (fun y wr => ∃ i : Nat, i ≤ fn ∧ y = .int .i64 (i : Int) ∧ Sm2 w wr (.slice fa fn fc) (.int .i64 s.next) (.int .i64 s.log) (.slice la ln lc) (.slice na nn nc) (.slice ga fn gc) (.int .i64 s.next) (.int .i64 s.log) (.slice ka ln kc') (.slice ma nn mc)) (fun y _ => fn - (intOf y).toNat)
  case atStart => exact ⟨0, by omega, rfl, H3.out⟩
  case round =>
    obtain ⟨i, hi, rfl, hsm⟩ := hrel
    have HS := Lib.hid hsm
    have a0 := hsm.a0
    have b0 := hsm.b0
    have a4 := hsm.a4
    have b4 := hsm.b4
    clear hsm
    by_cases hlt : i < fn
    · have hil : i < s.fs.length := by rw [HF.out.2.2]; exact hlt
      obtain ⟨b, off, rfl, hbl, c0, c1, c2, c3, c4, c5⟩ := rdf_cells (HF.out.1.below HS.out.bel) hil
      obtain ⟨d, doff, rfl, hdl, d0, d1, d2, d3, d4, d5⟩ := rdf_cells (HF.out.2.1.below HS.out.bel) hil
      obtain ⟨u, hu⟩ : ∃ u, s.fs[i] = u := ⟨_, rfl⟩
      rw [hu] at c0 c1 c2 c3 c4 c5 d0 d1 d2 d3 d4 d5
      have z0 : (i : Int) < (fn : Int) := by omega
      have z1 : (0 : Int) ≤ (i : Int) := by omega
      clear hu
      go_wp2
      go_quiet (fail)
      go_wp2
      go_roundw
      case rel => exact ⟨i + 1, by omega, by go_num, HS.out.drewN _⟩
      case measure => simp [intOf]; omega
    · have z0 : ¬ (i : Int) < (fn : Int) := by omega
      go_wp2
      clear a0 b0 a4 b4
      go_loopw [6] (fun y wr => ∃ j : Nat, j ≤ nn ∧ y = .int .i64 (j : Int) ∧ Sm2 w wr (.slice fa fn fc) (.int .i64 s.next) (.int .i64 s.log) (.slice la ln lc) (.slice na nn nc) (.slice ga fn gc) (.int .i64 s.next) (.int .i64 s.log) (.slice ka ln kc') (.slice ma nn mc)) (fun y _ => nn - (intOf y).toNat)
      case atStart => exact ⟨0, by omega, rfl, HS.out⟩
      case round =>
        obtain ⟨j, hj, rfl, hsm⟩ := hrel
        have HK := Lib.hid hsm
        have a4 := hsm.a4
        have b4 := hsm.b4
        clear hsm
        by_cases hlj : j < nn
        · have hjl : j < s.ns.length := by rw [HN.out.2.2]; exact hlj
          obtain ⟨b, off, rfl, hbl, c0, c1⟩ := rdn_cells (HN.out.1.below HK.out.bel) hjl
          obtain ⟨d, doff, rfl, hdl, d0, d1⟩ := rdn_cells (HN.out.2.1.below HK.out.bel) hjl
          obtain ⟨u, hu⟩ : ∃ u, s.ns[j] = u := ⟨_, rfl⟩
          rw [hu] at c0 c1 d0 d1
          have y0 : (j : Int) < (nn : Int) := by omega
          have y1 : (0 : Int) ≤ (j : Int) := by omega
          clear hu
          go_wp2
          go_quiet (fail)
          go_wp2
          go_roundw
          case rel => exact ⟨j + 1, by omega, by go_num, HK.out.drewN _⟩
          case measure => simp [intOf]; omega
        · have y0 : ¬ (j : Int) < (nn : Int) := by omega
          go_wp2
          go_ret
          exact ⟨rfl, HK.out.bel⟩
end Go.Proofs.YtjebpppjhkkebaaGreatDoor
/-
  Manifest: a law's states, each in a block of its own.
-/
set_option linter.unusedSimpArgs false
set_option linter.unusedVariables false
namespace Go.Proofs.YtjebpppjhkkebaaGreatDoor
open Go.RowKit
variable {w w' w0 : World} {H : Nat → Prop} {B B' sb ob : Nat} {s t : PS} {e : PE} {c : Int}

/-- A state in a block of its own, its lists apart from it. -/
def JSt (B : Nat) (w : World) (sb : Nat) (s : PS) : Prop := ∃ fa fc la lc na nc, ObS w sb (.slice fa s.fs.length fc) (.int .i64 s.next) (.int .i64 s.log) (.slice la s.fl.length lc) (.slice na s.ns.length nc) ∧
  Own eFi w B (.slice fa s.fs.length fc) s.fs ∧ Own eVec w B (.slice la s.fl.length lc) s.fl ∧ Own eNt w B (.slice na s.ns.length nc) s.ns ∧
  (∀ q, (Value.slice fa s.fs.length fc).ownBlock = some q → q ≠ sb) ∧ (∀ q, (Value.slice la s.fl.length lc).ownBlock = some q → q ≠ sb) ∧ (∀ q, (Value.slice na s.ns.length nc).ownBlock = some q → q ≠ sb)
theorem JSt.below (h : JSt B w sb s) (hb : Below w.heap.size w w') : JSt B w' sb s := by
  obtain ⟨fa, fc, la, lc, na, nc, h1, h2, h3, h4, h5⟩ := h
  exact ⟨fa, fc, la, lc, na, nc, h1.below hb, row_below h2 hb, row_below h3 hb, row_below h4 hb, h5⟩
theorem JSt.mono (h : JSt B w sb s) (hB : B' ≤ B) : JSt B' w sb s := by
  obtain ⟨fa, fc, la, lc, na, nc, h1, h2, h3, h4, h5⟩ := h
  exact ⟨fa, fc, la, lc, na, nc, h1, row_mono h2 hB, row_mono h3 hB, row_mono h4 hB, h5⟩
theorem jst_zero (B : Nat) (h : ObS w sb (.slice none 0 0) (.int .i64 0) (.int .i64 0) (.slice none 0 0) (.slice none 0 0)) : JSt B w sb s00 :=
  ⟨none, 0, none, 0, none, 0, h, (World.ownsRow_nil _ _ _ _ : Own eFi w B (.slice none 0 0) []), (World.ownsRow_nil _ _ _ _ : Own eVec w B (.slice none 0 0) []), (World.ownsRow_nil _ _ _ _ : Own eNt w B (.slice none 0 0) []), (fun q e => nomatch e), (fun q e => nomatch e), (fun q e => nomatch e)⟩
theorem jst_cm {y5 y6 : Value} (h : CmAns t c w y5 y6 w') : ∃ ob, y5 = .pointer (some ⟨ob, 0, none⟩) ∧ y6 = .int .i64 c ∧ w.heap.size ≤ ob ∧ JSt w.heap.size w' ob t ∧ Below w.heap.size w w' := by
  obtain ⟨hb, ob, fa, fc, la, lc, na, nc, h1, h2, h3, h4, h5⟩ := h
  exact ⟨ob, h1, h2, h3, ⟨fa, fc, la, lc, na, nc, h4, h5⟩, hb⟩
/-- A state is written into another one's block. -/
theorem jst_copy {x0 x1 x2 x3 x4 : Value} {fa la na : Option Addr} {fc lc nc : Nat} (hs : ObS w sb x0 x1 x2 x3 x4) (h2 : Own eFi w B (.slice fa t.fs.length fc) t.fs) (h3 : Own eVec w B (.slice la t.fl.length lc) t.fl) (h4 : Own eNt w B (.slice na t.ns.length nc) t.ns) (hsb : sb < B) :
    JSt B (((((w.setCell ⟨sb, 0, none⟩ (.slice fa t.fs.length fc)).setCell ⟨sb, 1, none⟩ (.int .i64 t.next)).setCell ⟨sb, 2, none⟩ (.int .i64 t.log)).setCell ⟨sb, 3, none⟩ (.slice la t.fl.length lc)).setCell ⟨sb, 4, none⟩ (.slice na t.ns.length nc)) sb t := by
  have n : ∀ {α : Type} {c : α → List Value} {k : Nat} {T E : TypeId} {y : Nat} {e : Elm Tryz.prog T E k y c} {x : Value} {l : List α}, Own e w B x l → ∀ q, x.ownBlock = some q → q ≠ sb := fun ho q hq => by have := (ho.lt q hq).1; omega
  exact ⟨fa, fc, la, lc, na, nc, cells5 hs, tn5.row h2 (n h2), tn5.row h3 (n h3), tn5.row h4 (n h4), n h2, n h3, n h4⟩
/-- A state kept in a new block. -/
theorem jst_keep {u U : World} (hU : u.alloc (.cells #[.slice none 0 0, .int .i64 0, .int .i64 0, .slice none 0 0, .slice none 0 0] 30) = U) {fa la na : Option Addr} {fc lc nc : Nat} (h2 : Own eFi u B (.slice fa t.fs.length fc) t.fs) (h3 : Own eVec u B (.slice la t.fl.length lc) t.fl) (h4 : Own eNt u B (.slice na t.ns.length nc) t.ns) :
    JSt B (((((U.setCell ⟨u.heap.size, 0, none⟩ (.slice fa t.fs.length fc)).setCell ⟨u.heap.size, 1, none⟩ (.int .i64 t.next)).setCell ⟨u.heap.size, 2, none⟩ (.int .i64 t.log)).setCell ⟨u.heap.size, 3, none⟩ (.slice la t.fl.length lc)).setCell ⟨u.heap.size, 4, none⟩ (.slice na t.ns.length nc)) u.heap.size t ∧
    Below u.heap.size u (((((U.setCell ⟨u.heap.size, 0, none⟩ (.slice fa t.fs.length fc)).setCell ⟨u.heap.size, 1, none⟩ (.int .i64 t.next)).setCell ⟨u.heap.size, 2, none⟩ (.int .i64 t.log)).setCell ⟨u.heap.size, 3, none⟩ (.slice la t.fl.length lc)).setCell ⟨u.heap.size, 4, none⟩ (.slice na t.ns.length nc)) := by
  have hb : Below u.heap.size u U := by rw [← hU]; exact (Below.refl _ _).alloc (Nat.le_refl _) _
  have hz : ObZ U u.heap.size := by rw [← hU]; exact ObZ.made u
  have n : ∀ {α : Type} {c : α → List Value} {k : Nat} {T E : TypeId} {y : Nat} {e : Elm Tryz.prog T E k y c} {x : Value} {l : List α}, Own e u B x l → ∀ q, x.ownBlock = some q → q ≠ u.heap.size := fun ho q hq => by have := (ho.lt q hq).2; omega
  exact ⟨⟨fa, fc, la, lc, na, nc, cells5 (obZS hz), tn5.row (row_below h2 hb) (n h2), tn5.row (row_below h3 hb) (n h3), tn5.row (row_below h4 hb) (n h4), n h2, n h3, n h4⟩, hb.trans (tn5.below hb.size (fun q hq => by omega))⟩
theorem JSt.st (h : JSt B w sb s) : ∃ v, (∃ fa fc la lc na nc, v = .agg #[.slice fa s.fs.length fc, .int .i64 s.next, .int .i64 s.log, .slice la s.fl.length lc, .slice na s.ns.length nc] ∧ ObS w sb (.slice fa s.fs.length fc) (.int .i64 s.next) (.int .i64 s.log) (.slice la s.fl.length lc) (.slice na s.ns.length nc)) ∧ StV w v s := by
  obtain ⟨fa, fc, la, lc, na, nc, h1, h2, h3, h4, _⟩ := h
  exact ⟨_, ⟨fa, fc, la, lc, na, nc, rfl, h1⟩, _, _, _, rfl, h2.rda, h3.rda, h4.rda⟩
/-- An edit that came in, at its place. -/
theorem ed_at {w : World} {a : Option Addr} {len cap i : Nat} {L : List EdR} (h : EdsIn w a len cap L) (hi : i < len) : ∃ (b off : Nat) (o : EdR) (e : PE), a = some ⟨b, off, none⟩ ∧ b < w.heap.size ∧ EdV w (.agg #[o.av, o.rv, .int .i64 o.lg, o.lv, o.nv]) e ∧ e.wf ∧
    w.cell? ⟨b, off + i * 5, none⟩ = some o.av ∧ w.cell? ⟨b, off + i * 5 + 1, none⟩ = some o.rv ∧ w.cell? ⟨b, off + i * 5 + 2, none⟩ = some (.int .i64 o.lg) ∧ w.cell? ⟨b, off + i * 5 + 3, none⟩ = some o.lv ∧ w.cell? ⟨b, off + i * 5 + 4, none⟩ = some o.nv := by
  obtain ⟨hl, hr, hok⟩ := h
  have hi' : i < L.length := by omega
  obtain ⟨b, off, ha, hb, _, _, _, hc⟩ := hr.at_ hi'
  obtain ⟨e, he, hw⟩ := hok _ (List.getElem_mem hi')
  exact ⟨b, off, L[i], e, ha, hb, he, hw, hc 0 _ rfl, hc 1 _ rfl, hc 2 _ rfl, hc 3 _ rfl, hc 4 _ rfl⟩
/-- The edits' cells. -/
structure EdC (w : World) (b off : Nat) (o : EdR) : Prop where
  c0 : w.cell? ⟨b, off, none⟩ = some o.av
  c1 : w.cell? ⟨b, off + 1, none⟩ = some o.rv
  c2 : w.cell? ⟨b, off + 2, none⟩ = some (.int .i64 o.lg)
  c3 : w.cell? ⟨b, off + 3, none⟩ = some o.lv
  c4 : w.cell? ⟨b, off + 4, none⟩ = some o.nv
theorem EdC.below {b off : Nat} {o : EdR} (h : EdC w b off o) (hb : Below w.heap.size w w') : EdC w' b off o :=
  have l := World.block_lt_of_cell? _ _ h.c0
  ⟨(hb.cell (p := ⟨b, off, none⟩) l).trans h.c0, (hb.cell (p := ⟨b, off + 1, none⟩) l).trans h.c1, (hb.cell (p := ⟨b, off + 2, none⟩) l).trans h.c2, (hb.cell (p := ⟨b, off + 3, none⟩) l).trans h.c3, (hb.cell (p := ⟨b, off + 4, none⟩) l).trans h.c4⟩
theorem EdC.and {b off : Nat} {o : EdR} (h : EdC w b off o) : w.cell? ⟨b, off, none⟩ = some o.av ∧ w.cell? ⟨b, off + 1, none⟩ = some o.rv ∧ w.cell? ⟨b, off + 2, none⟩ = some (.int .i64 o.lg) ∧ w.cell? ⟨b, off + 3, none⟩ = some o.lv ∧ w.cell? ⟨b, off + 4, none⟩ = some o.nv := ⟨h.c0, h.c1, h.c2, h.c3, h.c4⟩
theorem strYes (s : ByteArray) : (s.toList == s.toList) = true := beq_self_eq_true _
theorem strNo {u s : ByteArray} (h : u ≠ s) : (u.toList == s.toList) = false := by
  rw [beq_eq_false_iff_ne]
  intro e
  rw [ByteArray.toList_eq, ByteArray.toList_eq] at e
  refine h ?_
  cases u with | mk u => cases s with | mk s =>
  have : u = s := Array.toList_inj.1 e
  rw [this]
end Go.Proofs.YtjebpppjhkkebaaGreatDoor
