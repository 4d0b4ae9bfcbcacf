/-
  DiskPlays: looks.
-/
import Derived.Test.YtceamkcaokdgaaaGreatDoorDm13
set_option linter.unusedSimpArgs false
set_option linter.unusedVariables false
namespace Go.Proofs.YtceamkcaokdgaaaGreatDoor
open Go.RowKit
variable {F G H K K' : Nat → Prop} {w w' w0 : World} {bk : Nat} {x y : PV}

theorem Tn.and {K : Nat → Prop} {w w1 w' : World} (h : Tn (fun q => ¬ (K q ∨ (w.heap.size ≤ q ∧ q < w1.heap.size))) w1 w') : Tn (fun q => ¬ K q) w1 w' := h.mono (fun q hq hk => hq (.inl hk))
theorem Tn.gone {K K2 : Nat → Prop} {w w1 w' : World} (h0 : Below w.heap.size w w1) (h : Tn (fun q => ¬ K2 q) w1 w') (hk : ∀ q, K q → K2 q) : Tn (fun q => ¬ K q) w w' := (Tn.ofBelow h0).trans (h.mono (fun q hq hk2 => hq (hk q hk2)))

set_option maxRecDepth 100000 in
set_option maxHeartbeats 4000000 in
theorem looks_any (h : PSt K w0 w x y bk) (hs : Sim x.D x.R) : Calls Tryz.prog 12 #[.pointer (some ⟨x.db, 0, none⟩), .pointer (some ⟨x.rb, 0, none⟩), .pointer (some ⟨bk, 0, none⟩)] w fun e w' => e = .returned (.bool true) ∧ PGo K w0 w w' x y bk := by
  obtain ⟨db, rb, D, R⟩ := x
  simp only at hs ⊢
  obtain ⟨l, hl⟩ : ∃ l, D.list ⟨#[]⟩ = l := ⟨_, rfl⟩
  have hlr : R.list ⟨#[]⟩ = l := by rw [← hs.list]; exact hl
  have hl1 : l.length ≤ 20000 := by rw [← hl]; exact Nat.le_trans (list_le _ _) (pst_files h)
  have hl2 : ∀ s ∈ l, s.size ≤ 64 := fun s hm => by
    rw [← hl] at hm
    obtain ⟨f, hf⟩ := list_in hm
    exact pst_names h _ hf
  obtain ⟨n, hn⟩ : ∃ n, l.length = n := ⟨_, rfl⟩
  obtain ⟨on, hon⟩ : ∃ on, D.on = on := ⟨_, rfl⟩
  have honr : R.on = on := by rw [← hs.on]; exact hon
  obtain ⟨ac, hac⟩ : ∃ ac, D.acts = ac := ⟨_, rfl⟩
  have hacr : R.acts = ac := by rw [← hs.acts]; exact hac
  obtain ⟨us, hus⟩ : ∃ us, used D.m = us := ⟨_, rfl⟩
  have husr : used R.m = us := by rw [← hs.used]; exact hus
  have hrd : ∀ s, R.read s = D.read s := fun s => (hs.read s).symm
  rw [hn] at hl1
  have H := Lib.hid h
  have HL := Lib.hid (And.intro hl (And.intro hlr (And.intro hl2 hn)))
  have HV := Lib.hid (And.intro hon (And.intro honr (And.intro hac (And.intro hacr (And.intro hus husr)))))
  have HRD : Hid (∀ s, R.read s = D.read s) := hrd
  have t1 : (on == !on) = false := by cases on <;> rfl
  have t2 : ((ac : Int) != (ac : Int)) = false := by simp
  have t2n : (ac != ac) = false := by simp
  have t3 : ((us : Int) != (us : Int)) = false := by simp
  have t3n : (us != us) = false := by simp
  clear h hs hl hlr hl2 hn hon honr hac hacr hus husr hrd
  go_enter Tryz.func12, Tryz.ntmps12
  go_wp2_with fail
  refine (pst_list H.out ⟨#[]⟩).mono ?_
  rw [HL.out.1]
  rintro _ w1 ⟨⟨sa, sn, sc⟩, rfl, ho1, hb1⟩
  obtain ⟨a1, c1, e1, hle1, hle2⟩ := row_form ho1
  rw [HL.out.2.2.2] at e1 hle1
  injection e1 with e1 e2 e3
  subst e1 e2 e3
  have HO1 := Lib.hid ho1
  have HM1 := Lib.hid (PSt.more H.out hb1)
  have HB1 := Lib.hid hb1
  have hlt1 := fun q hq => ho1.lt q hq
  have HLT1 := Lib.hid hlt1
  clear ho1 hb1 hlt1
  simp only [Sl.val]
  go_wp2_with fail
  refine (pst_texts (s := ⟨sa, sn, sc⟩) HM1.out HO1.out (fun q hq => ⟨.inr (HLT1.out q hq), Nat.lt_of_lt_of_le H.out.bklt (HLT1.out q hq).1⟩) (by rw [HL.out.2.2.2]; exact hl1)).mono ?_
  rintro _ w2 ⟨rfl, hp2, ho2, ht2⟩
  have hp2' : PSt K w0 w2 ⟨db, rb, D, R⟩ y bk := hp2.weak (fun q hq => ⟨.inl hq, fun e => by have := (HLT1.out q e).1; have := H.out.klt q hq; omega⟩)
  have HP2 := Lib.hid hp2'
  have HO2 := Lib.hid ho2
  have HT2 := Lib.hid (Tn.gone HB1.out ht2 (fun q hq => .inl hq))
  obtain ⟨r1, r6, rf1, rlt⟩ := pst_rcells hp2'
  simp only at r1 r6 rf1 rlt
  rw [HV.out.2.1] at r1
  rw [HV.out.2.2.2.1] at r6
  clear hp2 hp2' ho2 ht2 rf1
  go_wp2_with fail
  have k1 : w2.drew.cell? ⟨rb, 1, none⟩ = some (.bool (!on)) := r1
  have k6 : w2.drew.cell? ⟨rb, 6, none⟩ = some (.int .i64 (ac : Int)) := r6
  refine wp_region_K (fun w' => w'.cell? ⟨rb, 1, none⟩ = some (.bool (!on)) ∧ w'.cell? ⟨rb, 6, none⟩ = some (.int .i64 (ac : Int))) 29 30 (by kernel_rfl) (by kernel_rfl) ⟨k1, k6⟩ (fun hH => ?_)
  refine wpAnyK_take (i := 0) [3, 5, 7, 14, 16, 23, 29] (v := ?v1) rfl (by kernel_rfl) (by kernel_rfl) (by kernel_rfl) (by kernel_rfl) (fun _ _ _ h => h) (Or.inl ⟨by rfl, ?hy1⟩) hH ?rest1
  case hy1 => (intro w hSw; (try dsimp only at hSw); go_simp; with_reducible rfl)
  try simp only [Act.put, List.setIfInBounds_toArray, List.set_cons_zero, List.set_cons_succ]
  refine wpAnyK_take (i := 1) [2, 3, 5, 7, 14, 16, 23, 29] (v := ?v2) rfl (by kernel_rfl) (by kernel_rfl) (by kernel_rfl) (by kernel_rfl) (fun _ _ _ h => h) (Or.inl ⟨by rfl, ?hy2⟩) hH ?rest2
  case hy2 => (intro w hSw; (try dsimp only at hSw); go_simp; with_reducible rfl)
  try simp only [Act.put, List.setIfInBounds_toArray, List.set_cons_zero, List.set_cons_succ]
  refine wpAnyK_one (i := 2) (by kernel_rfl) rfl (fun K hK => ?_) (by kernel_rfl)
  go_simp
  go_at_call 33
  refine (pst_rlist (HP2.out.below (Below.refl _ w2).drew) ⟨#[]⟩).mono ?_
  rw [HL.out.2.1, HL.out.2.2.2]
  rintro _ w3 ⟨a3, c3, rfl, ho3, hb3⟩
  have hb23 : Below w2.heap.size w2 w3 := ((Below.refl _ w2).drew).trans (hb3.mono (Nat.le_refl _))
  have HB23 := Lib.hid hb23
  have HO3 := Lib.hid ho3
  have k13 := (hb23.cell (p := ⟨rb, 1, none⟩) rlt).trans r1
  have k63 := (hb23.cell (p := ⟨rb, 6, none⟩) rlt).trans r6
  clear hb3 ho3 hb23
  refine hK.out _ _ ⟨k13, k63⟩ (fun hH => ?_)
  clear hK K
  try simp only [Act.put, List.setIfInBounds_toArray, List.set_cons_zero, List.set_cons_succ]
  refine wpAnyK_one (i := 3) (by kernel_rfl) rfl (fun K hK => ?_) (by kernel_rfl)
  go_simp
  go_at_call 32
  refine (same_Texts (rdTx_own (row_below HO2.out HB23.out)) (rdTx_own HO3.out) (by rw [HL.out.2.2.2]; omega)).mono ?_
  rintro _ w4 ⟨rfl, a4, hw4⟩
  have hb24 : Below w2.heap.size w2 w4 := by rw [hw4]; exact below_drewN HB23.out _
  have HB24 := Lib.hid hb24
  have k14 := (hb24.cell (p := ⟨rb, 1, none⟩) rlt).trans r1
  have k64 := (hb24.cell (p := ⟨rb, 6, none⟩) rlt).trans r6
  clear hb24 hw4 k13 k63
  refine hK.out _ _ ⟨k14, k64⟩ (fun hH => ?_)
  clear hK K
  try simp only [Act.put, List.setIfInBounds_toArray, List.set_cons_zero, List.set_cons_succ]
  refine wpAnyK_take (i := 4) [5, 7, 14, 16, 23, 29] (v := ?v3) rfl (by kernel_rfl) (by kernel_rfl) (by kernel_rfl) (by kernel_rfl) (fun _ _ _ h => h) (Or.inl ⟨by rfl, ?hy3⟩) hH ?rest3
  case hy3 => (intro w hSw; (try dsimp only at hSw); go_simp; with_reducible rfl)
  try simp only [Act.put, List.setIfInBounds_toArray, List.set_cons_zero, List.set_cons_succ]
  refine wpAnyK_take (i := 5) [7, 14, 16, 23, 29] (v := ?v4) rfl (by kernel_rfl) (by kernel_rfl) (by kernel_rfl) (by kernel_rfl) (fun _ _ _ h => h) (Or.inl ⟨by rfl, ?hy4⟩) hH ?rest4
  case hy4 => (intro w hSw; (try dsimp only at hSw); go_simp; with_reducible rfl)
  try simp only [Act.put, List.setIfInBounds_toArray, List.set_cons_zero, List.set_cons_succ]
  refine wpAnyK_take (i := 6) [7, 14, 16, 23, 29] (v := ?v5) rfl (by kernel_rfl) (by kernel_rfl) (by kernel_rfl) (by kernel_rfl) (fun _ _ _ h => h) (Or.inl ⟨by rfl, ?hy5⟩) hH ?rest5
  case hy5 => (intro w hSw; (try dsimp only at hSw); go_simp; with_reducible rfl)
  try simp only [Act.put, List.setIfInBounds_toArray, List.set_cons_zero, List.set_cons_succ]
  refine wpAnyK_take (i := 8) [9, 10, 11, 12, 13, 14, 16, 23, 29] (v := ?v6) rfl (by kernel_rfl) (by kernel_rfl) (by kernel_rfl) (by kernel_rfl) (fun _ _ _ h => h) (Or.inl ⟨by rfl, ?hy6⟩) hH ?rest6
  case hy6 => (intro w hSw; (try dsimp only at hSw); go_simp; with_reducible rfl)
  try simp only [Act.put, List.setIfInBounds_toArray, List.set_cons_zero, List.set_cons_succ]
  refine wpAnyK_take (i := 9) [10, 11, 12, 13, 14, 16, 23, 29] (v := ?v7) rfl (by kernel_rfl) (by kernel_rfl) (by kernel_rfl) (by kernel_rfl) (fun _ _ _ h => h) (Or.inl ⟨by rfl, ?hy7⟩) hH ?rest7
  case hy7 => (intro w hSw; (try dsimp only at hSw); go_simp; with_reducible rfl)
  try simp only [Act.put, List.setIfInBounds_toArray, List.set_cons_zero, List.set_cons_succ]
  refine wpAnyK_take (i := 10) [11, 12, 13, 14, 16, 23, 29] (v := ?v8) rfl (by kernel_rfl) (by kernel_rfl) (by kernel_rfl) (by kernel_rfl) (fun _ _ _ h => h) (Or.inl ⟨by rfl, ?hy8⟩) hH ?rest8
  case hy8 => (intro w hSw; (try dsimp only at hSw); go_simp; with_reducible rfl)
  try simp only [Act.put, List.setIfInBounds_toArray, List.set_cons_zero, List.set_cons_succ]
  refine wpAnyK_take (i := 11) [12, 13, 14, 16, 23, 29] (v := ?v9) rfl (by kernel_rfl) (by kernel_rfl) (by kernel_rfl) (by kernel_rfl) (fun _ _ _ h => h) (Or.inl ⟨by rfl, ?hy9⟩) hH ?rest9
  case hy9 => (intro w hSw; (try dsimp only at hSw); go_simp; with_reducible rfl)
  try simp only [Act.put, List.setIfInBounds_toArray, List.set_cons_zero, List.set_cons_succ]
  refine wpAnyK_one (i := 7) (by kernel_rfl) rfl (fun K hK => ?_) (by kernel_rfl)
  go_simp
  go_at_call 20
  refine (pst_on (HP2.out.below HB24.out)).mono ?_
  rintro _ w5 ⟨rfl, rfl⟩
  simp only []
  rw [HV.out.1]
  refine hK.out _ _ ⟨k14, k64⟩ (fun hH => ?_)
  clear hK K
  try simp only [Act.put, List.setIfInBounds_toArray, List.set_cons_zero, List.set_cons_succ]
  refine wpAnyK_take (i := 12) [13, 14, 16, 23, 29] (v := ?v10) rfl (by kernel_rfl) (by kernel_rfl) (by kernel_rfl) (by kernel_rfl) (fun _ _ _ h => h) (Or.inl ⟨by rfl, ?hy10⟩) hH ?rest10
  case hy10 => (intro w hSw; (try dsimp only at hSw); go_simp; with_reducible rfl)
  try simp only [Act.put, List.setIfInBounds_toArray, List.set_cons_zero, List.set_cons_succ]
  refine wpAnyK_take (i := 13) [14, 16, 23, 29] (v := ?v11) rfl (by kernel_rfl) (by kernel_rfl) (by kernel_rfl) (by kernel_rfl) (fun _ _ _ h => h) (Or.inl ⟨by rfl, ?hy11⟩) hH ?rest11
  case hy11 => (intro w hSw; (try dsimp only at hSw); go_simp; with_reducible rfl)
  try simp only [Act.put, List.setIfInBounds_toArray, List.set_cons_zero, List.set_cons_succ]
  refine wpAnyK_take (i := 14) [16, 23, 29] (v := ?v12) rfl (by kernel_rfl) (by kernel_rfl) (by kernel_rfl) (by kernel_rfl) (fun _ _ _ h => h) (Or.inl ⟨by rfl, ?hy12⟩) hH ?rest12
  case hy12 => (intro w hSw; (try dsimp only at hSw); go_simp; with_reducible rfl)
  try simp only [Act.put, List.setIfInBounds_toArray, List.set_cons_zero, List.set_cons_succ]
  refine wpAnyK_take (i := 15) [16, 23, 29] (v := ?v13) rfl (by kernel_rfl) (by kernel_rfl) (by kernel_rfl) (by kernel_rfl) (fun _ _ _ h => h) (Or.inl ⟨by rfl, ?hy13⟩) hH ?rest13
  case hy13 => (intro w hSw; (try dsimp only at hSw); go_simp; with_reducible rfl)
  try simp only [Act.put, List.setIfInBounds_toArray, List.set_cons_zero, List.set_cons_succ]
  refine wpAnyK_take (i := 17) [18, 19, 20, 21, 22, 23, 29] (v := ?v14) rfl (by kernel_rfl) (by kernel_rfl) (by kernel_rfl) (by kernel_rfl) (fun _ _ _ h => h) (Or.inl ⟨by rfl, ?hy14⟩) hH ?rest14
  case hy14 => (intro w hSw; (try dsimp only at hSw); go_simp; with_reducible rfl)
  try simp only [Act.put, List.setIfInBounds_toArray, List.set_cons_zero, List.set_cons_succ]
  refine wpAnyK_take (i := 18) [19, 20, 21, 22, 23, 29] (v := ?v15) rfl (by kernel_rfl) (by kernel_rfl) (by kernel_rfl) (by kernel_rfl) (fun _ _ _ h => h) (Or.inl ⟨by rfl, ?hy15⟩) hH ?rest15
  case hy15 => (intro w hSw; (try dsimp only at hSw); go_simp; with_reducible rfl)
  try simp only [Act.put, List.setIfInBounds_toArray, List.set_cons_zero, List.set_cons_succ]
  refine wpAnyK_take (i := 19) [20, 21, 22, 23, 29] (v := ?v16) rfl (by kernel_rfl) (by kernel_rfl) (by kernel_rfl) (by kernel_rfl) (fun _ _ _ h => h) (Or.inl ⟨by rfl, ?hy16⟩) hH ?rest16
  case hy16 => (intro w hSw; (try dsimp only at hSw); go_simp; with_reducible rfl)
  try simp only [Act.put, List.setIfInBounds_toArray, List.set_cons_zero, List.set_cons_succ]
  refine wpAnyK_take (i := 20) [21, 22, 23, 29] (v := ?v17) rfl (by kernel_rfl) (by kernel_rfl) (by kernel_rfl) (by kernel_rfl) (fun _ _ _ h => h) (Or.inl ⟨by rfl, ?hy17⟩) hH ?rest17
  case hy17 => (intro w hSw; (try dsimp only at hSw); go_simp; with_reducible rfl)
  try simp only [Act.put, List.setIfInBounds_toArray, List.set_cons_zero, List.set_cons_succ]
  refine wpAnyK_one (i := 16) (by kernel_rfl) rfl (fun K hK => ?_) (by kernel_rfl)
  go_simp
  go_at_call 18
  refine (pst_acts (HP2.out.below HB24.out)).mono ?_
  rintro _ w5 ⟨rfl, rfl⟩
  simp only []
  rw [HV.out.2.2.1]
  refine hK.out _ _ ⟨k14, k64⟩ (fun hH => ?_)
  clear hK K
  try simp only [Act.put, List.setIfInBounds_toArray, List.set_cons_zero, List.set_cons_succ]
  refine wpAnyK_take (i := 21) [22, 23, 29] (v := ?v18) rfl (by kernel_rfl) (by kernel_rfl) (by kernel_rfl) (by kernel_rfl) (fun _ _ _ h => h) (Or.inl ⟨by rfl, ?hy18⟩) hH ?rest18
  case hy18 => (intro w hSw; (try dsimp only at hSw); go_simp; with_reducible rfl)
  try simp only [Act.put, List.setIfInBounds_toArray, List.set_cons_zero, List.set_cons_succ]
  refine wpAnyK_take (i := 22) [23, 29] (v := ?v19) rfl (by kernel_rfl) (by kernel_rfl) (by kernel_rfl) (by kernel_rfl) (fun _ _ _ h => h) (Or.inl ⟨by rfl, ?hy19⟩) hH ?rest19
  case hy19 => (intro w hSw; (try dsimp only at hSw); go_simp; with_reducible rfl)
  try simp only [Act.put, List.setIfInBounds_toArray, List.set_cons_zero, List.set_cons_succ]
  refine wpAnyK_take (i := 23) [29] (v := ?v20) rfl (by kernel_rfl) (by kernel_rfl) (by kernel_rfl) (by kernel_rfl) (fun _ _ _ h => h) (Or.inl ⟨by rfl, ?hy20⟩) hH ?rest20
  case hy20 => (intro w hSw; (try dsimp only at hSw); go_simp; with_reducible rfl)
  try simp only [Act.put, List.setIfInBounds_toArray, List.set_cons_zero, List.set_cons_succ]
  refine wpAnyK_take (i := 24) [25, 28, 29] (v := ?v21) rfl (by kernel_rfl) (by kernel_rfl) (by kernel_rfl) (by kernel_rfl) (fun _ _ _ h => h) (Or.inl ⟨by rfl, ?hy21⟩) hH ?rest21
  case hy21 => (intro w hSw; (try dsimp only at hSw); go_simp; with_reducible rfl)
  try simp only [Act.put, List.setIfInBounds_toArray, List.set_cons_zero, List.set_cons_succ]
  refine wpAnyK_take (i := 26) [27, 28, 29] (v := ?v22) rfl (by kernel_rfl) (by kernel_rfl) (by kernel_rfl) (by kernel_rfl) (fun _ _ _ h => h) (Or.inl ⟨by rfl, ?hy22⟩) hH ?rest22
  case hy22 => (intro w hSw; (try dsimp only at hSw); go_simp; with_reducible rfl)
  try simp only [Act.put, List.setIfInBounds_toArray, List.set_cons_zero, List.set_cons_succ]
  refine wpAnyK_one (i := 25) (by kernel_rfl) rfl (fun K hK => ?_) (by kernel_rfl)
  go_simp
  go_at_call 19
  refine (pst_used (HP2.out.below HB24.out)).mono ?_
  rintro _ w5 ⟨rfl, hb5⟩
  simp only []
  rw [HV.out.2.2.2.2.1]
  have hb25 : Below w2.heap.size w2 w5 := HB24.out.trans (hb5.mono HB24.out.size)
  have HB25 := Lib.hid hb25
  have k15 := (hb25.cell (p := ⟨rb, 1, none⟩) rlt).trans r1
  have k65 := (hb25.cell (p := ⟨rb, 6, none⟩) rlt).trans r6
  clear hb5 hb25 k14 k64
  refine hK.out _ _ ⟨k15, k65⟩ (fun hH => ?_)
  clear hK K
  try simp only [Act.put, List.setIfInBounds_toArray, List.set_cons_zero, List.set_cons_succ]
  refine wpAnyK_one (i := 27) (by kernel_rfl) rfl (fun K hK => ?_) (by kernel_rfl)
  go_simp
  go_at_call 42
  refine (pst_rused (HP2.out.below HB25.out)).mono ?_
  rintro _ w6 ⟨rfl, rfl⟩
  simp only []
  rw [HV.out.2.2.2.2.2]
  refine hK.out _ _ ⟨k15, k65⟩ (fun hH => ?_)
  clear hK K
  try simp only [Act.put, List.setIfInBounds_toArray, List.set_cons_zero, List.set_cons_succ]
  refine wpAnyK_take (i := 28) [29] (v := ?v23) rfl (by kernel_rfl) (by kernel_rfl) (by kernel_rfl) (by kernel_rfl) (fun _ _ _ h => h) (Or.inl ⟨by rfl, ?hy23⟩) hH ?rest23
  case hy23 => (intro w hSw; (try dsimp only at hSw); go_simp; with_reducible rfl)
  try simp only [Act.put, List.setIfInBounds_toArray, List.set_cons_zero, List.set_cons_succ]
  refine wpAnyK_last (by kernel_rfl) rfl (fun K hK => ?_) (by kernel_rfl)
  go_simp
  refine hK.out _ _ (wpAnyK_done (by kernel_rfl) ?_ _)
  clear hK K hH k15 k65 k1 k6 r1 r6 rlt
  go_wp2_with fail
  go_loopw [8] (fun x wr => ∃ i : Nat, i ≤ sn ∧ x = .int .i64 (i : Int) ∧ Below w2.heap.size w2 wr) (fun x _ => sn - (intOf x).toNat)
  case atStart => exact ⟨0, by omega, rfl, HB25.out⟩
  case round =>
    obtain ⟨i, hi, rfl, hbr⟩ := hrel
    have HBR := Lib.hid hbr
    by_cases hlt : i < sn
    · have hil : i < l.length := by rw [HL.out.2.2.2]; exact hlt
      obtain ⟨g, rfl, hg1, hg2, hcell⟩ := Own.getX (row_below HO2.out hbr : Own kTexts wr (bk + 1) (.slice sa sn sc) l) hil
      obtain ⟨s, hs⟩ : ∃ s, l[i] = s := ⟨_, rfl⟩
      rw [hs] at hcell
      have hsz : s.size ≤ 64 := by rw [← hs]; exact HL.out.2.2.1 _ (List.getElem_mem hil)
      obtain ⟨gv, hgv⟩ : ∃ gv, (D.read s).1 = gv := ⟨_, rfl⟩
      obtain ⟨ge, hge⟩ : ∃ ge, (D.read s).2 = ge := ⟨_, rfl⟩
      have HG := Lib.hid (And.intro hgv (And.intro hge (HRD.out s)))
      have t5 := strEq gv
      have t6 : (ge != ge) = false := by simp
      have r1 : (i : Int) < (sn : Int) := by omega
      clear hbr hgv hge hs hg1
      go_wp2_with (first
        | (go_at_call 30; refine (pst_rread (HP2.out.below HB6.out) s (by omega)).mono ?_; rintro _ w7 ⟨rfl, rfl⟩; simp only []; rw [HG.out.2.2, HG.out.1, HG.out.2.1])
        | (go_at_call 16; refine (pst_read (HP2.out.below HBR.out) s (by omega)).mono ?_; rintro _ w6 ⟨rfl, hb6⟩; simp only []; rw [HG.out.1, HG.out.2.1]; have HB6 := Lib.hid (HBR.out.trans (hb6.mono HBR.out.size)); have hc6 := (hb6.cell (p := ⟨g, i, none⟩) hg2).trans hcell; clear hb6))
      go_roundw
      case rel => exact ⟨i + 1, by omega, by go_num, HB6.out⟩
      case measure => simp [intOf]; omega
    · obtain rfl : i = sn := by omega
      go_wp2
      go_ret
      exact ⟨rfl, HP2.out.below HBR.out, HT2.out.trans (Tn.ofBelow HBR.out)⟩
end Go.Proofs.YtceamkcaokdgaaaGreatDoor
