/-
  The document's net: Twice.
-/
import Derived.Test.YtanekdcmealoeaaRefF
namespace Go.Proofs.Ytanekdcmealoeaa
open Go.RowKit Go.Maps
section
variable {P : Program} {ops : Array Oper} {Q : Exit → Act → World → Prop} {md : Region.Mode} {S : World → Prop} {k : Nat}
/-- Two may come up, neither is k. -/
theorem wpAnyK_two {i j : Nat} {t t2 : Option Tmp} {op op2 : Op} {ty ty2 : TypeId} {pos pos2 : String} {aft aft2 : Array Edge} {gd gd2 : Option (Nat × Bool)} {fuel : Nat} {listed : Array Bool} {a : Act} {w : World} (hr : Region.ready md ops listed = [i, j])
    (hi : ops[i]? = some ⟨t, op, ty, pos, aft, gd⟩) (hj : ops[j]? = some ⟨t2, op2, ty2, pos2, aft2, gd2⟩)
    (h : ∀ K' : Act → World → Prop, Shut (∀ a w, S w → (S w → wpAnyK P md ops Q S k fuel (listed.setIfInBounds i true) a w) → K' a w) →
      if Region.wanted ⟨t, op, ty, pos, aft, gd⟩ (yielded ops a.tmps) = true then Oper.wp P ⟨t, op, ty, pos, aft, gd⟩ a w K' Q else K' (a.put t undef) w)
    (h2 : ∀ K' : Act → World → Prop, Shut (∀ a w, S w → (S w → wpAnyK P md ops Q S k fuel (listed.setIfInBounds j true) a w) → K' a w) →
      if Region.wanted ⟨t2, op2, ty2, pos2, aft2, gd2⟩ (yielded ops a.tmps) = true then Oper.wp P ⟨t2, op2, ty2, pos2, aft2, gd2⟩ a w K' Q else K' (a.put t2 undef) w) : wpAnyK P md ops Q S k (fuel + 1) listed a w :=
  wpAnyK_all hr (by simp) (fun q hq => by
    rcases List.mem_cons.1 hq with rfl | hq
    · exact wpOp_step hi (fun K' hK => h K' (fun a w hS hW => hK a w ⟨fun _ => hS, hW hS⟩))
    · obtain rfl := List.mem_singleton.1 hq
      exact wpOp_step hj (fun K' hK => h2 K' (fun a w hS hW => hK a w ⟨fun _ => hS, hW hS⟩)))

end

theorem src_tn {w w' : World} {x : Value} {l : List Msg} (h : SrcR w x l) (ht : Tn (fun _ => False) w w') : SrcR w' x l := by
  rcases h with h | ⟨ad, c, rfl, hc⟩
  · exact Or.inl h
  · exact Or.inr ⟨ad, c, rfl, fun j u hj => ht.cell (hc j u hj) (fun e => e)⟩

set_option maxRecDepth 100000 in
theorem rtwice_bad {w : World} {rb : Nat} {lr cr : Value} {cl : List (Int × Int)} {s : St} (h : RefAt w rb lr cr cl s) (i : Int) (hi : i < 0 ∨ s.l.length ≤ i) :
    Calls Try.prog 23 #[.pointer (some ⟨rb, 0, none⟩), .int .i64 i] w fun e w' => e = .returned (.int .i64 5) ∧ w = w' := by
  obtain ⟨a0, cap, hlr⟩ := h.form
  have h1 := h.c1
  have hlen := h.len
  rw [hlr] at h1
  obtain ⟨n, hn⟩ : ∃ n, n = s.l.length := ⟨_, rfl⟩
  rw [← hn] at h1 hi hlen
  clear h hlr hn
  by_cases h0 : i < 0
  · have t1 : decide (i < 0) = true := by simpa using h0
    clear hi
    go_enter Try.func23, Try.ntmps23
    go_wp2
    go_ret
    exact ⟨rfl, rfl⟩
  · have t1 : decide (i < 0) = false := by simpa using h0
    have t2 : decide ((n : Int) ≤ i) = true := by simp; omega
    have t2n : (n : Int) ≤ i := by omega
    clear hi
    go_enter Try.func23, Try.ntmps23
    go_wp2
    go_ret
    exact ⟨rfl, rfl⟩

set_option maxRecDepth 100000 in
theorem rtwice_full {w : World} {rb : Nat} {lr cr : Value} {cl : List (Int × Int)} {s : St} (h : RefAt w rb lr cr cl s) (i : Nat) (hi : i < s.l.length) (hr : 400 ≤ s.l.length) :
    Calls Try.prog 23 #[.pointer (some ⟨rb, 0, none⟩), .int .i64 (i : Int)] w fun e w' => e = .returned (.int .i64 24) ∧ w = w' := by
  obtain ⟨a0, cap, hlr⟩ := h.form
  have h1 := h.c1
  have hlen := h.len
  rw [hlr] at h1
  obtain ⟨n, hn⟩ : ∃ n, n = s.l.length := ⟨_, rfl⟩
  rw [← hn] at h1 hi hlen hr
  clear h hlr hn
  have t1 : decide ((i : Int) < 0) = false := by simp
  have t2 : decide ((n : Int) ≤ (i : Int)) = false := by simp; omega
  have t3 : decide ((400 : Int) ≤ (n : Int)) = true := by simp; omega
  go_enter Try.func23, Try.ntmps23
  go_wp2
  go_ret
  exact ⟨rfl, rfl⟩

set_option maxRecDepth 100000 in
set_option maxHeartbeats 400000 in
theorem rtwice_ok {w : World} {rb : Nat} {lr cr : Value} {cl : List (Int × Int)} {s : St} (h : RefAt w rb lr cr cl s) (i : Nat) (hi : i < s.l.length) (hr : s.l.length < 400) :
    Calls Try.prog 23 #[.pointer (some ⟨rb, 0, none⟩), .int .i64 (i : Int)] w fun e w' => e = .returned (.int .i64 0) ∧ ∃ lr', RefAt w' rb lr' cr cl (s.add s.l[i]) ∧ RStep rb lr cr w lr' cr w' := by
  obtain ⟨g, cap, hlr, hcap, hcm, c0, c1, c2⟩ := h.cells i hi
  obtain ⟨m, hm⟩ : ∃ m, m = s.l[i] := ⟨_, rfl⟩
  rw [← hm] at c0 c1 c2 ⊢
  have h1 := h.c1
  have hsrc : ∀ W, Tn (fun _ => False) w W → SrcR W lr s.l := fun W ht => src_tn (src_own h.row) ht
  rw [hlr] at h1 hsrc
  obtain ⟨n, hn⟩ : ∃ n, n = s.l.length := ⟨_, rfl⟩
  have hsl : s.l.length = n := hn.symm
  rw [hsl] at h1 hi hr hsrc hcap
  have HN := Lib.hid h
  have HSRC := Lib.hid hsrc
  have t1 : decide ((i : Int) < 0) = false := by simp
  have t2 : decide ((n : Int) ≤ (i : Int)) = false := by simp; omega
  have t3 : decide ((400 : Int) ≤ (n : Int)) = false := by simp; omega
  have q0 : (0 : Int) ≤ (i : Int) := by omega
  have q1 : (i : Int) < (n : Int) := by omega
  clear h hlr hn hm hsrc
  go_enter Try.func23, Try.ntmps23
  go_wp2_with fail
  obtain ⟨W1, hW1⟩ : ∃ W1, W1 = w.drew := ⟨_, rfl⟩
  have TW1 : Hid (Tn (fun _ => False) w W1) := by rw [hW1]; exact Tn.drew _
  have kd1 : w.drew.cell? ⟨rb, 1, none⟩ = some (.slice (some ⟨g, 0, none⟩) n cap) := h1
  refine wp_region_K (fun w' => w'.cell? ⟨rb, 1, none⟩ = some (.slice (some ⟨g, 0, none⟩) n cap) ∧ w'.cell? ⟨g, i * 3, none⟩ = some (.int .i64 m.f) ∧ w'.cell? ⟨g, i * 3 + 1, none⟩ = some (.int .i64 m.t) ∧ w'.cell? ⟨g, i * 3 + 2, none⟩ = some (.string m.d)) 17 18 (by kernel_rfl) (by kernel_rfl) ⟨kd1, c0, c1, c2⟩ (fun hH => ?_)
  rw [← hW1] at hH ⊢
  clear hW1 kd1
  refine wpAnyK_take (i := 0) (v := ?v1) rfl (by kernel_rfl) (by kernel_rfl) (by kernel_rfl) (by kernel_rfl) (fun _ _ _ h => h) (Or.inl ⟨by rfl, ?hy1⟩) hH ?rest1
  case hy1 => (intro w hSw; (try dsimp only at hSw); go_simp; with_reducible rfl)
  try simp only [Act.put, List.setIfInBounds_toArray, List.set_cons_zero, List.set_cons_succ]
  refine wpAnyK_take (i := 1) (v := ?v2) rfl (by kernel_rfl) (by kernel_rfl) (by kernel_rfl) (by kernel_rfl) (fun _ _ _ h => h) (Or.inl ⟨by rfl, ?hy2⟩) hH ?rest2
  case hy2 => (intro w hSw; (try dsimp only at hSw); go_simp; with_reducible rfl)
  try simp only [Act.put, List.setIfInBounds_toArray, List.set_cons_zero, List.set_cons_succ]
  refine wpAnyK_take (i := 2) (v := ?v3) rfl (by kernel_rfl) (by kernel_rfl) (by kernel_rfl) (by kernel_rfl) (fun _ _ _ h => h) (Or.inl ⟨by rfl, ?hy3⟩) hH ?rest3
  case hy3 => (intro w hSw; (try dsimp only at hSw); go_simp; with_reducible rfl)
  try simp only [Act.put, List.setIfInBounds_toArray, List.set_cons_zero, List.set_cons_succ]
  refine wpAnyK_take (i := 3) (v := ?v4) rfl (by kernel_rfl) (by kernel_rfl) (by kernel_rfl) (by kernel_rfl) (fun _ _ _ h => h) (Or.inl ⟨by rfl, ?hy4⟩) hH ?rest4
  case hy4 => (intro w hSw; (try dsimp only at hSw); go_simp; with_reducible rfl)
  try simp only [Act.put, List.setIfInBounds_toArray, List.set_cons_zero, List.set_cons_succ]
  refine wpAnyK_take (i := 4) (v := ?v5) rfl (by kernel_rfl) (by kernel_rfl) (by kernel_rfl) (by kernel_rfl) (fun _ _ _ h => h) (Or.inl ⟨by rfl, ?hy5⟩) hH ?rest5
  case hy5 => (intro w hSw; (try dsimp only at hSw); go_simp; with_reducible rfl)
  try simp only [Act.put, List.setIfInBounds_toArray, List.set_cons_zero, List.set_cons_succ]
  refine wpAnyK_take (i := 6) (v := ?v6) rfl (by kernel_rfl) (by kernel_rfl) (by kernel_rfl) (by kernel_rfl) (fun _ _ _ h => h) (Or.inl ⟨by rfl, ?hy6⟩) hH ?rest6
  case hy6 => (intro w hSw; (try dsimp only at hSw); go_simp; with_reducible rfl)
  try simp only [Act.put, List.setIfInBounds_toArray, List.set_cons_zero, List.set_cons_succ]
  refine wpAnyK_take (i := 7) (v := ?v7) rfl (by kernel_rfl) (by kernel_rfl) (by kernel_rfl) (by kernel_rfl) (fun _ _ _ h => h) (Or.inl ⟨by rfl, ?hy7⟩) hH ?rest7
  case hy7 => (intro w hSw; (try dsimp only at hSw); go_simp; with_reducible rfl)
  try simp only [Act.put, List.setIfInBounds_toArray, List.set_cons_zero, List.set_cons_succ]
  refine wpAnyK_take (i := 8) (v := ?v8) rfl (by kernel_rfl) (by kernel_rfl) (by kernel_rfl) (by kernel_rfl) (fun _ _ _ h => h) (Or.inl ⟨by rfl, ?hy8⟩) hH ?rest8
  case hy8 => (intro w hSw; (try dsimp only at hSw); go_simp; with_reducible rfl)
  try simp only [Act.put, List.setIfInBounds_toArray, List.set_cons_zero, List.set_cons_succ]
  refine wpAnyK_take (i := 9) (v := ?v9) rfl (by kernel_rfl) (by kernel_rfl) (by kernel_rfl) (by kernel_rfl) (fun _ _ _ h => h) (Or.inl ⟨by rfl, ?hy9⟩) hH ?rest9
  case hy9 => (intro w hSw; (try dsimp only at hSw); go_simp; with_reducible rfl)
  try simp only [Act.put, List.setIfInBounds_toArray, List.set_cons_zero, List.set_cons_succ]
  refine wpAnyK_take (i := 10) (v := ?v10) rfl (by kernel_rfl) (by kernel_rfl) (by kernel_rfl) (by kernel_rfl) (fun _ _ _ h => h) (Or.inl ⟨by rfl, ?hy10⟩) hH ?rest10
  case hy10 => (intro w hSw; (try dsimp only at hSw); go_simp; with_reducible rfl)
  try simp only [Act.put, List.setIfInBounds_toArray, List.set_cons_zero, List.set_cons_succ]
  refine wpAnyK_take (i := 11) (v := ?v11) rfl (by kernel_rfl) (by kernel_rfl) (by kernel_rfl) (by kernel_rfl) (fun _ _ _ h => h) (Or.inl ⟨by rfl, ?hy11⟩) hH ?rest11
  case hy11 => (intro w hSw; (try dsimp only at hSw); go_simp; with_reducible rfl)
  try simp only [Act.put, List.setIfInBounds_toArray, List.set_cons_zero, List.set_cons_succ]
  refine wpAnyK_take (i := 12) (v := ?v12) rfl (by kernel_rfl) (by kernel_rfl) (by kernel_rfl) (by kernel_rfl) (fun _ _ _ h => h) (Or.inl ⟨by rfl, ?hy12⟩) hH ?rest12
  case hy12 => (intro w hSw; (try dsimp only at hSw); go_simp; with_reducible rfl)
  try simp only [Act.put, List.setIfInBounds_toArray, List.set_cons_zero, List.set_cons_succ]
  refine wpAnyK_two (i := 5) (j := 13) (by kernel_rfl) rfl rfl (fun K hK => ?_) (fun K hK => ?_)
  · refine step_app rfl (.const (.slice none 0 0)) (.tmp 26) rfl (.slice none 0 0) [] rfl (own_nil _) (.slice (some ⟨g, 0, none⟩) n cap) s.l rfl (HSRC.out _ TW1.out) (by simp only [List.length_nil]; omega) ?_
    intro v1 wA ho1 hg1 hb1
    have ht1 : Tn (fun _ => False) W1 wA := Tn.ofGrown hg1 (fun k hk => by simp [Value.ownBlock] at hk)
    have hfr : ∀ q, v1.ownBlock = some q → w.heap.size ≤ q := by
      intro q hq
      rcases hb1 with h | h
      · rw [hq] at h; simp [Value.ownBlock] at h
      · rw [hq] at h; have := TW1.out.size; injection h with h; omega
    have TwA := Lib.hid ((TW1.out).trans ht1)
    have HO1 := Lib.hid ho1
    have HF1 := Lib.hid hfr
    obtain ⟨a1, n1, cap1, rfl⟩ := own_formR ho1
    clear ho1 hg1 hb1 ht1 hfr
    refine hK.out _ _ ⟨TwA.out.cell h1 (fun e => e), TwA.out.cell c0 (fun e => e), TwA.out.cell c1 (fun e => e), TwA.out.cell c2 (fun e => e)⟩ (fun hH => ?_)
    clear hK K
    try simp only [Act.put, List.setIfInBounds_toArray, List.set_cons_zero, List.set_cons_succ]
    refine wpAnyK_one (i := 13) (by kernel_rfl) rfl (fun K hK => ?_) (by kernel_rfl)
    go_simp
    obtain ⟨wB, hwwB⟩ : ∃ wB, wB = (wA.alloc (.cells #[.int .i64 m.f, .int .i64 m.t, .string m.d] 46)) := ⟨_, rfl⟩
    have hta : Tn (fun _ => False) wA wB := by rw [hwwB]; exact Tn.alloc _ _
    have HS2 := Lib.hid (src_one wA m wB hwwB)
    rw [← hwwB]
    have HTA := Lib.hid hta
    have TwB := Lib.hid ((TwA.out).trans hta)
    clear hta hwwB
    refine hK.out _ _ ⟨TwB.out.cell h1 (fun e => e), TwB.out.cell c0 (fun e => e), TwB.out.cell c1 (fun e => e), TwB.out.cell c2 (fun e => e)⟩ (fun hH => ?_)
    clear hK K
    try simp only [Act.put, List.setIfInBounds_toArray, List.set_cons_zero, List.set_cons_succ]
    refine wpAnyK_one (i := 14) (by kernel_rfl) rfl (fun K hK => ?_) (by kernel_rfl)
    refine step_app rfl (.tmp 27) (.tmp 35) rfl (.slice a1 n1 cap1) s.l rfl (HTA.out.row HO1.out (fun _ _ e => e)) (.slice (some ⟨wA.heap.size, 0, none⟩) 1 1) [m] rfl HS2.out (by simp only [List.length_cons, List.length_nil]; omega) ?_
    intro v3 w3 ho3 hg3 hb3
    have ht3 : Tn (fun k => (Value.slice a1 n1 cap1).ownBlock = some k) wB w3 := Tn.ofGrown hg3 (fun _ hk => hk)
    have htw : Tn (fun _ => False) w w3 := (TwB.out).andThen ht3 (fun k hk => Or.inr (HF1.out k hk))
    have kd3 := htw.cell h1 (fun e => e)
    have hf3 := (htw.frozen HN.out.lt (fun e => e)).trans (HN.out.fz 1)
    have hnew : ∀ k, v3.ownBlock = some k → w.heap.size ≤ k := by
      intro k hk
      rcases hb3 with h | h
      · rw [hk] at h; exact HF1.out k h.symm
      · rw [hk] at h; have := TwB.out.size; injection h with h; omega
    have hb3' : v3.ownBlock ≠ some rb := fun e => by have := hnew rb e; have := HN.out.lt; omega
    obtain ⟨a3, n3, cap3, rfl⟩ := own_formR ho3
    have HX := Lib.hid (And.intro (HN.out.relist (l' := s.l ++ [m]) htw ho3 (by rw [List.length_append]; simp only [List.length_cons, List.length_nil]; omega) hb3') (And.intro htw hnew))
    refine hK.out _ _ ⟨kd3, htw.cell c0 (fun e => e), htw.cell c1 (fun e => e), htw.cell c2 (fun e => e)⟩ (fun hH => ?_)
    clear hK K
    try simp only [Act.put, List.setIfInBounds_toArray, List.set_cons_zero, List.set_cons_succ]
    refine wpAnyK_one (i := 15) (by kernel_rfl) rfl (fun K hK => ?_) (by kernel_rfl)
    go_simp
    refine hK.out _ _ hH (fun _ => ?_)
    clear hK K
    try simp only [Act.put, List.setIfInBounds_toArray, List.set_cons_zero, List.set_cons_succ]
    refine wpAnyK_one (i := 16) (by kernel_rfl) rfl (fun K hK => ?_) (by kernel_rfl)
    go_simp
    refine hK.out _ _ hH (fun _ => ?_)
    clear hK K
    try simp only [Act.put, List.setIfInBounds_toArray, List.set_cons_zero, List.set_cons_succ]
    refine wpAnyK_last (by kernel_rfl) rfl (fun K hK => ?_) (by kernel_rfl)
    go_simp
    refine hK.out _ _ (wpAnyK_done (by kernel_rfl) ?_ _)
    clear hK K hH kd3 hf3 hb3' hb3 hg3 ho3 ht3 htw hnew
    go_wp2
    refine ⟨rfl, _, ?_, rfl, _, HX.out.1, HX.out.2.1.mono (fun _ e => e.elim) |>.trans (Tn.setCell _ _ _ rfl), ?_⟩
    · simp [results, Try.results23, go_sem]
    · rintro k (hk | hk | hk)
      · exact Or.inl (Or.inl hk)
      · exact Or.inr (HX.out.2.2 k hk)
      · exact Or.inl (Or.inr (Or.inr hk))
  · go_simp
    obtain ⟨wA, hwwA⟩ : ∃ wA, wA = (W1.alloc (.cells #[.int .i64 m.f, .int .i64 m.t, .string m.d] 46)) := ⟨_, rfl⟩
    have hta : Tn (fun _ => False) W1 wA := by rw [hwwA]; exact Tn.alloc _ _
    have HS2 := Lib.hid (src_one W1 m wA hwwA)
    rw [← hwwA]
    have HTA := Lib.hid hta
    have TwA := Lib.hid ((TW1.out).trans hta)
    clear hta hwwA
    refine hK.out _ _ ⟨TwA.out.cell h1 (fun e => e), TwA.out.cell c0 (fun e => e), TwA.out.cell c1 (fun e => e), TwA.out.cell c2 (fun e => e)⟩ (fun hH => ?_)
    clear hK K
    try simp only [Act.put, List.setIfInBounds_toArray, List.set_cons_zero, List.set_cons_succ]
    refine wpAnyK_one (i := 5) (by kernel_rfl) rfl (fun K hK => ?_) (by kernel_rfl)
    refine step_app rfl (.const (.slice none 0 0)) (.tmp 26) rfl (.slice none 0 0) [] rfl (own_nil _) (.slice (some ⟨g, 0, none⟩) n cap) s.l rfl (HSRC.out _ TwA.out) (by simp only [List.length_nil]; omega) ?_
    intro v1 wB ho1 hg1 hb1
    have ht1 : Tn (fun _ => False) wA wB := Tn.ofGrown hg1 (fun k hk => by simp [Value.ownBlock] at hk)
    have hfr : ∀ q, v1.ownBlock = some q → w.heap.size ≤ q := by
      intro q hq
      rcases hb1 with h | h
      · rw [hq] at h; simp [Value.ownBlock] at h
      · rw [hq] at h; have := TwA.out.size; injection h with h; omega
    have TwB := Lib.hid ((TwA.out).trans ht1)
    have HO1 := Lib.hid ho1
    have HF1 := Lib.hid hfr
    have HS3 : Hid (SrcR wB (.slice (some ⟨W1.heap.size, 0, none⟩) 1 1) [m]) := src_tn HS2.out ht1
    obtain ⟨a1, n1, cap1, rfl⟩ := own_formR ho1
    clear ho1 hg1 hb1 ht1 hfr
    refine hK.out _ _ ⟨TwB.out.cell h1 (fun e => e), TwB.out.cell c0 (fun e => e), TwB.out.cell c1 (fun e => e), TwB.out.cell c2 (fun e => e)⟩ (fun hH => ?_)
    clear hK K
    try simp only [Act.put, List.setIfInBounds_toArray, List.set_cons_zero, List.set_cons_succ]
    refine wpAnyK_one (i := 14) (by kernel_rfl) rfl (fun K hK => ?_) (by kernel_rfl)
    refine step_app rfl (.tmp 27) (.tmp 35) rfl (.slice a1 n1 cap1) s.l rfl HO1.out (.slice (some ⟨W1.heap.size, 0, none⟩) 1 1) [m] rfl HS3.out (by simp only [List.length_cons, List.length_nil]; omega) ?_
    intro v3 w3 ho3 hg3 hb3
    have ht3 : Tn (fun k => (Value.slice a1 n1 cap1).ownBlock = some k) wB w3 := Tn.ofGrown hg3 (fun _ hk => hk)
    have htw : Tn (fun _ => False) w w3 := (TwB.out).andThen ht3 (fun k hk => Or.inr (HF1.out k hk))
    have kd3 := htw.cell h1 (fun e => e)
    have hf3 := (htw.frozen HN.out.lt (fun e => e)).trans (HN.out.fz 1)
    have hnew : ∀ k, v3.ownBlock = some k → w.heap.size ≤ k := by
      intro k hk
      rcases hb3 with h | h
      · rw [hk] at h; exact HF1.out k h.symm
      · rw [hk] at h; have := TwB.out.size; injection h with h; omega
    have hb3' : v3.ownBlock ≠ some rb := fun e => by have := hnew rb e; have := HN.out.lt; omega
    obtain ⟨a3, n3, cap3, rfl⟩ := own_formR ho3
    have HX := Lib.hid (And.intro (HN.out.relist (l' := s.l ++ [m]) htw ho3 (by rw [List.length_append]; simp only [List.length_cons, List.length_nil]; omega) hb3') (And.intro htw hnew))
    refine hK.out _ _ ⟨kd3, htw.cell c0 (fun e => e), htw.cell c1 (fun e => e), htw.cell c2 (fun e => e)⟩ (fun hH => ?_)
    clear hK K
    try simp only [Act.put, List.setIfInBounds_toArray, List.set_cons_zero, List.set_cons_succ]
    refine wpAnyK_one (i := 15) (by kernel_rfl) rfl (fun K hK => ?_) (by kernel_rfl)
    go_simp
    refine hK.out _ _ hH (fun _ => ?_)
    clear hK K
    try simp only [Act.put, List.setIfInBounds_toArray, List.set_cons_zero, List.set_cons_succ]
    refine wpAnyK_one (i := 16) (by kernel_rfl) rfl (fun K hK => ?_) (by kernel_rfl)
    go_simp
    refine hK.out _ _ hH (fun _ => ?_)
    clear hK K
    try simp only [Act.put, List.setIfInBounds_toArray, List.set_cons_zero, List.set_cons_succ]
    refine wpAnyK_last (by kernel_rfl) rfl (fun K hK => ?_) (by kernel_rfl)
    go_simp
    refine hK.out _ _ (wpAnyK_done (by kernel_rfl) ?_ _)
    clear hK K hH kd3 hf3 hb3' hb3 hg3 ho3 ht3 htw hnew
    go_wp2
    refine ⟨rfl, _, ?_, rfl, _, HX.out.1, HX.out.2.1.mono (fun _ e => e.elim) |>.trans (Tn.setCell _ _ _ rfl), ?_⟩
    · simp [results, Try.results23, go_sem]
    · rintro k (hk | hk | hk)
      · exact Or.inl (Or.inl hk)
      · exact Or.inr (HX.out.2.2 k hk)
      · exact Or.inl (Or.inr (Or.inr hk))
end Go.Proofs.Ytanekdcmealoeaa
