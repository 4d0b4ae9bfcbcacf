/-
  The document's net: Deliver, Drop.
-/
import Derived.Test.YtanekdcmealoeaaRefD
namespace Go.Proofs.Ytanekdcmealoeaa
open Go.RowKit Go.Maps

theorem mCells_erase2 (l : List Msg) (i : Nat) : l.take i ++ l.drop (i + 1) = l.eraseIdx i := (List.eraseIdx_eq_take_drop_succ l i).symm

set_option maxRecDepth 100000 in
set_option maxHeartbeats 400000 in
theorem rdeliver_ok {w : World} {rb : Nat} {lr cr : Value} {cl : List (Int × Int)} {s : St} (h : RefAt w rb lr cr cl s) (i : Nat) (hi : i < s.l.length) :
    Calls Try.prog 21 #[.pointer (some ⟨rb, 0, none⟩), .int .i64 (i : Int)] w fun e w' =>
      e = .returned (.tuple #[.int .i64 s.l[i].f, .int .i64 s.l[i].t, .string s.l[i].d, .int .i64 0]) ∧ ∃ lr', RefAt w' rb lr' cr cl (s.take i) ∧ RStep rb lr cr w lr' cr w' := by
  obtain ⟨m, hm⟩ : ∃ m, m = s.l[i] := ⟨_, rfl⟩
  have HP := Lib.hid (rpeek_ok h i hi)
  rw [← hm] at HP ⊢
  rcases own_reads h.row with ⟨_, h0⟩ | ⟨g, cap, hlr, hcap, hcm, hg, hcell⟩
  · omega
  unfold maxLen at hcm
  have h1 := h.c1
  have hlen := h.len
  obtain ⟨n, hn⟩ : ∃ n, n = s.l.length := ⟨_, rfl⟩
  rw [hlr, ← hn] at h1
  rw [← hn] at hi hcap hlen hcell
  have hA : ∃ A : Addr, (if cap = i + 1 then some (⟨g, 0, none⟩ : Addr) else some ⟨g, (i + 1) * 3, none⟩) = some A ∧ ∀ W : World, Below w.heap.size w W → SrcR W (.slice (some A) (n - (i + 1)) (cap - (i + 1))) (s.l.drop (i + 1)) := by
    by_cases hc : cap = i + 1
    · refine ⟨⟨g, 0, none⟩, by simp [hc], fun W _ => Or.inr ⟨_, _, by rw [List.length_drop, ← hn], fun j u hu => ?_⟩⟩
      have hd : s.l.drop (i + 1) = [] := List.drop_of_length_le (by omega)
      rw [hd] at hu
      simp [mCells] at hu
    · refine ⟨⟨g, (i + 1) * 3, none⟩, by simp [hc], fun W hb => Or.inr ⟨_, _, by rw [List.length_drop, ← hn], fun j u hu => ?_⟩⟩
      have hj : j < (n - (i + 1)) * 3 := by
        have := (List.getElem?_eq_some_iff.1 hu).1
        rw [mCells_len, List.length_drop, ← hn] at this
        exact this
      rw [mCells_drop, List.getElem?_drop] at hu
      rw [Addr.add_lit, hb.cell (p := ⟨g, (i + 1) * 3 + j, none⟩) hg]
      exact (hcell ((i + 1) * 3 + j) (by omega)).trans (by rw [← hu]; congr 1; omega)
  obtain ⟨A, hA, hsrc2⟩ := hA
  have hsrc1 : ∀ W : World, Below w.heap.size w W → SrcR W (.slice (some ⟨g, 0, none⟩) i cap) (s.l.take i) := by
    intro W hb
    refine Or.inr ⟨_, cap, by rw [List.length_take, Nat.min_eq_left (by omega)], fun j u hu => ?_⟩
    have hj : j < i * 3 := by
      have := (List.getElem?_eq_some_iff.1 hu).1
      rw [mCells_len, List.length_take] at this
      omega
    rw [mCells_take, List.getElem?_take, if_pos (by omega)] at hu
    rw [Addr.add_lit, Nat.zero_add, hb.cell (p := ⟨g, j, none⟩) hg]
    exact (hcell j (by omega)).trans hu
  have HS1 := Lib.hid hsrc1
  have HS2 := Lib.hid hsrc2
  have HN := Lib.hid h
  have HL := Lib.hid hn
  clear h hm hlr hn hcell hsrc1 hsrc2
  go_enter Try.func21, Try.ntmps21
  go_wp2_with (go_at_call 20; refine HP.out.mono ?_; rintro _ W1 ⟨rfl, hb0⟩; simp only [])
  have hbd : Below w.heap.size w W1.drew := hb0.drew
  have HB := Lib.hid hbd
  have kd1 : W1.drew.cell? ⟨rb, 1, none⟩ = some (.slice (some ⟨g, 0, none⟩) n cap) := (hbd.cell HN.out.lt).trans h1
  clear hb0 hbd
  have q0 : (0 : Int) ≤ (i : Int) := by omega
  have q1 : (i : Int) + 1 ≤ (n : Int) := by omega
  have q2 : (0 : Int) ≤ (i : Int) + 1 := by omega
  have q3 : (i : Int) ≤ (n : Int) := by omega
  have q4 : (i : Int) ≤ (cap : Int) := by omega
  have hwr : IntKind.i64.wrap ((i : Int) + 1) = (i : Int) + 1 := by rw [IntKind.wrap_i64]; omega
  refine wp_region_K (fun w' => w'.cell? ⟨rb, 1, none⟩ = some (.slice (some ⟨g, 0, none⟩) n cap)) 18 19 (by kernel_rfl) (by kernel_rfl) kd1 (fun hH => ?_)
  refine wpAnyK_take (i := 0) (v := ?v1) rfl (by kernel_rfl) (by kernel_rfl) (by kernel_rfl) (by kernel_rfl) (fun _ _ _ h => h) (Or.inl ⟨by rfl, ?hy1⟩) hH ?rest1
  case hy1 => (intro w hSw; (try dsimp only at hSw); go_simp; with_reducible rfl)
  try simp only [Act.put, List.setIfInBounds_toArray, List.set_cons_zero, List.set_cons_succ]
  refine wpAnyK_take (i := 1) (v := ?v2) rfl (by kernel_rfl) (by kernel_rfl) (by kernel_rfl) (by kernel_rfl) (fun _ _ _ h => h) (Or.inl ⟨by rfl, ?hy2⟩) hH ?rest2
  case hy2 => (intro w hSw; (try dsimp only at hSw); go_simp; with_reducible rfl)
  try simp only [Act.put, List.setIfInBounds_toArray, List.set_cons_zero, List.set_cons_succ]
  refine wpAnyK_take (i := 2) (v := ?v3) rfl (by kernel_rfl) (by kernel_rfl) (by kernel_rfl) (by kernel_rfl) (fun _ _ _ h => h) (Or.inl ⟨by rfl, ?hy3⟩) hH ?rest3
  case hy3 => (intro w hSw; (try dsimp only at hSw); go_simp; with_reducible rfl)
  try simp only [Act.put, List.setIfInBounds_toArray, List.set_cons_zero, List.set_cons_succ]
  refine wpAnyK_take (i := 3) (v := ?v4) rfl (by kernel_rfl) (by kernel_rfl) (by kernel_rfl) (by kernel_rfl) (fun _ _ _ h => h) (Or.inl ⟨by rfl, ?hy4⟩) hH ?rest4
  case hy4 => (intro w hSw; (try dsimp only at hSw); go_simp; with_reducible rfl)
  try simp only [Act.put, List.setIfInBounds_toArray, List.set_cons_zero, List.set_cons_succ]
  refine wpAnyK_take (i := 4) (v := ?v5) rfl (by kernel_rfl) (by kernel_rfl) (by kernel_rfl) (by kernel_rfl) (fun _ _ _ h => h) (Or.inl ⟨by rfl, ?hy5⟩) hH ?rest5
  case hy5 => (intro w hSw; (try dsimp only at hSw); go_simp; with_reducible rfl)
  try simp only [Act.put, List.setIfInBounds_toArray, List.set_cons_zero, List.set_cons_succ]
  refine wpAnyK_take (i := 5) (v := ?v6) rfl (by kernel_rfl) (by kernel_rfl) (by kernel_rfl) (by kernel_rfl) (fun _ _ _ h => h) (Or.inl ⟨by rfl, ?hy6⟩) hH ?rest6
  case hy6 => (intro w hSw; (try dsimp only at hSw); go_simp; with_reducible rfl)
  try simp only [Act.put, List.setIfInBounds_toArray, List.set_cons_zero, List.set_cons_succ]
  refine wpAnyK_take (i := 6) (v := ?v7) rfl (by kernel_rfl) (by kernel_rfl) (by kernel_rfl) (by kernel_rfl) (fun _ _ _ h => h) (Or.inl ⟨by rfl, ?hy7⟩) hH ?rest7
  case hy7 => (intro w hSw; (try dsimp only at hSw); go_simp; with_reducible rfl)
  try simp only [Act.put, List.setIfInBounds_toArray, List.set_cons_zero, List.set_cons_succ]
  refine wpAnyK_take (i := 8) (v := ?v8) rfl (by kernel_rfl) (by kernel_rfl) (by kernel_rfl) (by kernel_rfl) (fun _ _ _ h => h) (Or.inl ⟨by rfl, ?hy8⟩) hH ?rest8
  case hy8 => (intro w hSw; (try dsimp only at hSw); go_simp; with_reducible rfl)
  try simp only [Act.put, List.setIfInBounds_toArray, List.set_cons_zero, List.set_cons_succ]
  refine wpAnyK_take (i := 9) (v := ?v9) rfl (by kernel_rfl) (by kernel_rfl) (by kernel_rfl) (by kernel_rfl) (fun _ _ _ h => h) (Or.inl ⟨by rfl, ?hy9⟩) hH ?rest9
  case hy9 => (intro w hSw; (try dsimp only at hSw); go_simp; with_reducible rfl)
  try simp only [Act.put, List.setIfInBounds_toArray, List.set_cons_zero, List.set_cons_succ]
  refine wpAnyK_take (i := 10) (v := ?v10) rfl (by kernel_rfl) (by kernel_rfl) (by kernel_rfl) (by kernel_rfl) (fun _ _ _ h => h) (Or.inl ⟨by rfl, ?hy10⟩) hH ?rest10
  case hy10 => (intro w hSw; (try dsimp only at hSw); go_simp; with_reducible rfl)
  try simp only [Act.put, List.setIfInBounds_toArray, List.set_cons_zero, List.set_cons_succ]
  refine wpAnyK_take (i := 11) (v := ?v11) rfl (by kernel_rfl) (by kernel_rfl) (by kernel_rfl) (by kernel_rfl) (fun _ _ _ h => h) (Or.inl ⟨by rfl, ?hy11⟩) hH ?rest11
  case hy11 => (intro w hSw; (try dsimp only at hSw); go_simp; with_reducible rfl)
  try simp only [Act.put, List.setIfInBounds_toArray, List.set_cons_zero, List.set_cons_succ]
  refine wpAnyK_take (i := 12) (v := ?v12) rfl (by kernel_rfl) (by kernel_rfl) (by kernel_rfl) (by kernel_rfl) (fun _ _ _ h => h) (Or.inl ⟨by rfl, ?hy12⟩) hH ?rest12
  case hy12 => (intro w hSw; (try dsimp only at hSw); go_simp; with_reducible rfl)
  try simp only [Act.put, List.setIfInBounds_toArray, List.set_cons_zero, List.set_cons_succ]
  refine wpAnyK_take (i := 13) (v := ?v13) rfl (by kernel_rfl) (by kernel_rfl) (by kernel_rfl) (by kernel_rfl) (fun _ _ _ h => h) (Or.inl ⟨by rfl, ?hy13⟩) hH ?rest13
  case hy13 => (intro w hSw; (try dsimp only at hSw); go_simp; with_reducible rfl)
  try simp only [Act.put, List.setIfInBounds_toArray, List.set_cons_zero, List.set_cons_succ]
  refine wpAnyK_take (i := 14) (v := ?v14) rfl (by kernel_rfl) (by kernel_rfl) (by kernel_rfl) (by kernel_rfl) (fun _ _ _ h => h) (Or.inl ⟨by rfl, ?hy14⟩) hH ?rest14
  case hy14 => (intro w hSw; (try dsimp only at hSw); go_simp; with_reducible rfl)
  try simp only [Act.put, List.setIfInBounds_toArray, List.set_cons_zero, List.set_cons_succ]
  refine wpAnyK_one (i := 7) (by kernel_rfl) rfl (fun K hK => ?_) (by kernel_rfl)
  refine step_app rfl (.const (.slice none 0 0)) (.tmp 28) rfl (.slice none 0 0) [] rfl (own_nil _) (.slice (some ⟨g, 0, none⟩) i cap) (s.l.take i) rfl (HS1.out _ HB.out) (by rw [List.length_take]; simp only [List.length_nil]; omega) ?_
  intro v1 w1 ho1 hg1 hb1
  have ht1 : Tn (fun _ => False) W1.drew w1 := Tn.ofGrown hg1 (fun k hk => by simp [Value.ownBlock] at hk)
  have hb1' : v1.ownBlock ≠ some rb := by
    intro e
    rcases hb1 with h | h
    · rw [e] at h; simp [Value.ownBlock] at h
    · rw [e] at h; have := HN.out.lt; have := HB.out.size; injection h with h; omega
  have kd2 := ht1.cell kd1 (fun e => e)
  have HB2 := Lib.hid (HB.out.trans (ht1.below HB.out.size (fun _ e => e.elim)))
  refine hK.out _ _ kd2 (fun hH => ?_)
  clear hK K
  try simp only [Act.put, List.setIfInBounds_toArray, List.set_cons_zero, List.set_cons_succ]
  refine wpAnyK_one (i := 15) (by kernel_rfl) rfl (fun K hK => ?_) (by kernel_rfl)
  refine step_app rfl (.tmp 29) (.tmp 36) rfl v1 (s.l.take i) rfl ho1 (.slice (some A) (n - (i + 1)) (cap - (i + 1))) (s.l.drop (i + 1)) rfl (HS2.out _ HB2.out) (by rw [List.length_take, List.length_drop]; have := HL.out; omega) ?_
  intro v3 w3 ho3 hg3 hb3
  have ht3 : Tn (fun k => v1.ownBlock = some k) w1 w3 := Tn.ofGrown hg3 (fun _ hk => hk)
  have htw : Tn (fun _ => False) w w3 := by
    refine (Tn.ofBelow HB2.out).andThen ht3 (fun k hk => Or.inr ?_)
    rcases hb1 with h | h
    · rw [hk] at h; simp [Value.ownBlock] at h
    · rw [hk] at h; have := HB.out.size; injection h with h; omega
  have kd3 := htw.cell h1 (fun e => e)
  have hf3 := (htw.frozen HN.out.lt (fun e => e)).trans (HN.out.fz 1)
  have hlt2 : rb < w1.heap.size := by have := HN.out.lt; have := HB2.out.size; omega
  have hb3' : v3.ownBlock ≠ some rb := by
    intro e
    rcases hb3 with h | h
    · rw [e] at h; exact hb1' h.symm
    · rw [e] at h; injection h with h; omega
  have hnew : ∀ k, v3.ownBlock = some k → w.heap.size ≤ k := by
    intro k hk
    have z1 := HB.out.size
    have z2 := HB2.out.size
    rcases hb3 with h | h
    · rw [hk] at h
      rcases hb1 with h2 | h2
      · rw [← h] at h2; simp [Value.ownBlock] at h2
      · rw [← h] at h2; injection h2 with h2; omega
    · rw [hk] at h; injection h with h; omega
  obtain ⟨a3, n3, cap3, rfl⟩ := own_formR ho3
  rw [mCells_erase2] at ho3
  have hel : (s.l.eraseIdx i).length ≤ 400 := by have := s.l.length_eraseIdx_le i; have := HL.out; omega
  have HX := Lib.hid (And.intro (HN.out.relist (l' := s.l.eraseIdx i) htw ho3 hel hb3') (And.intro htw hnew))
  refine hK.out _ _ kd3 (fun hH => ?_)
  clear hK K
  try simp only [Act.put, List.setIfInBounds_toArray, List.set_cons_zero, List.set_cons_succ]
  refine wpAnyK_one (i := 16) (by kernel_rfl) rfl (fun K hK => ?_) (by kernel_rfl)
  go_simp
  refine hK.out _ _ hH (fun _ => ?_)
  clear hK K
  try simp only [Act.put, List.setIfInBounds_toArray, List.set_cons_zero, List.set_cons_succ]
  refine wpAnyK_one (i := 17) (by kernel_rfl) rfl (fun K hK => ?_) (by kernel_rfl)
  go_simp
  refine hK.out _ _ hH (fun _ => ?_)
  clear hK K
  try simp only [Act.put, List.setIfInBounds_toArray, List.set_cons_zero, List.set_cons_succ]
  refine wpAnyK_last (by kernel_rfl) rfl (fun K hK => ?_) (by kernel_rfl)
  go_simp
  refine hK.out _ _ (wpAnyK_done (by kernel_rfl) ?_ _)
  clear hK K hH kd1 kd2 kd3 hf3 hb3' hb3 hb1 hb1' hg1 hg3 ho1 ho3 ht1 ht3 htw hnew hel hlt2 hA hwr q0 q1 q2 q3 q4
  go_wp2
  refine ⟨rfl, _, ?_, rfl, _, HX.out.1, HX.out.2.1.mono (fun _ e => e.elim) |>.trans (Tn.setCell _ _ _ rfl), ?_⟩
  · simp [results, Try.results21, go_sem]
  · rintro k (hk | hk | hk)
    · exact Or.inl (Or.inl hk)
    · exact Or.inr (HX.out.2.2 k hk)
    · exact Or.inl (Or.inr (Or.inr hk))
end Go.Proofs.Ytanekdcmealoeaa
