/-
  The walk of slices.Delete at messages: one message goes.
-/
import Derived.Test.YtanekdcmealoeaaNetA
import Derived.ArgAppend
import Derived.Lib.SliceRun
namespace Go.Proofs.Ytanekdcmealoeaa
open Go.RowKit Go.Maps

theorem setCell_block {w : World} {b : Nat} {cur : Array Value} {T : TypeId} {m : Nat × Nat} (h : w.heap[b]? = some (.cells cur T m)) (o : Nat) (v : Value) : (w.setCell ⟨b, o, none⟩ v).heap[b]? = some (.cells (cur.setIfInBounds o v) T m) := by
  show (w.heap.modify b _)[b]? = _
  rw [Array.getElem?_modify, if_pos rfl, h]
  rfl
theorem setCells_block {b : Nat} {T : TypeId} {m : Nat × Nat} : ∀ (vs : List Value) (o : Nat) {w : World} {cur : Array Value}, w.heap[b]? = some (.cells cur T m) → ∃ cur', (w.setCells b o vs).heap[b]? = some (.cells cur' T m) ∧ cur'.size = cur.size
  | [], _, _, cur, h => ⟨cur, h, rfl⟩
  | v :: r, o, w, cur, h => by
    obtain ⟨c, h1, h2⟩ := setCells_block r (o + 1) (setCell_block h o v)
    exact ⟨c, h1, by rw [h2]; simp⟩
theorem Tn.setCells {F : Nat → Prop} {b : Nat} (hb : F b) : ∀ (vs : List Value) (o : Nat) (w : World), Tn F w (w.setCells b o vs)
  | [], _, w => Tn.refl _ w
  | v :: r, o, w => (Tn.setCell w ⟨b, o, none⟩ v hb).trans (Tn.setCells hb r (o + 1) _)

theorem zero55 (w : World) : (zeroValue 55).run Try.prog w = .ok (.agg #[.int .i64 0, .int .i64 0, .string ⟨#[]⟩]) w := by kernel_rfl
theorem info55 : (Try.prog.info? 55).map (fun i => (i.zero, i.size, i.bytes)) = some (some (.agg #[.int .i64 0, .int .i64 0, .string ⟨#[]⟩]), 3, 32) := by kernel_rfl

theorem run_clear_m (w : World) (ty : TypeId) (b o c : Nat) (hc : ∀ j, j < 3 → (w.cell? ⟨b, o + j, none⟩).isSome = true) (hf : ∀ j, j < 3 → w.frozen? ⟨b, o + j, none⟩ = false) :
    (Builtin.clear_ #[48] ty #[.slice (some ⟨b, o, none⟩) 1 c]).run Try.prog w = .ok (.tuple #[]) (w.setCells b o [.int .i64 0, .int .i64 0, .string ⟨#[]⟩]) := by
  have hzc : (Builtin.zeroCells #[.int .i64 0, .int .i64 0, .string ⟨#[]⟩] 1).toList = [.int .i64 0, .int .i64 0, .string ⟨#[]⟩] := by kernel_rfl
  have hst := run_storeCells_cells (P := Try.prog) b o [.int .i64 0, .int .i64 0, .string ⟨#[]⟩] 0 w (by simpa using hc) (by simpa using hf) (by intro v hv; simp at hv; rcases hv with rfl | rfl | rfl <;> rfl)
  simp only [Nat.add_zero] at hst
  have hz := zero55
  simp [Builtin.clear_, run_underlying Try.underlying48, hz, Value.cells, hzc, hst]

theorem mCells_take (l : List Msg) (i : Nat) : mCells (l.take i) = (mCells l).take (3 * i) := by
  induction l generalizing i with
  | nil => simp [mCells]
  | cons m l ih =>
    cases i with
    | zero => rfl
    | succ i =>
      rw [List.take_succ_cons, mCells_cons, mCells_cons, ih, show 3 * (i + 1) = (mCell m).length + 3 * i from by simp [mCell]; omega, List.take_length_add_append]
theorem mCells_drop (l : List Msg) (i : Nat) : mCells (l.drop i) = (mCells l).drop (3 * i) := by
  induction l generalizing i with
  | nil => simp [mCells]
  | cons m l ih =>
    cases i with
    | zero => rfl
    | succ i =>
      rw [List.drop_succ_cons, mCells_cons, ih, show 3 * (i + 1) = (mCell m).length + 3 * i from by simp [mCell]; omega, List.drop_length_add_append]
theorem mCells_erase (l : List Msg) (i : Nat) : mCells (l.eraseIdx i) = (mCells l).take (3 * i) ++ (mCells l).drop (3 * (i + 1)) := by
  rw [List.eraseIdx_eq_take_drop_succ, mCells_append, mCells_take, mCells_drop]

set_option maxHeartbeats 4000000 in
set_option maxRecDepth 1000000 in
theorem delete_any (w : World) (lv : Value) (l : List Msg) (hrow : OwnM w lv l) (i : Nat) (hi : i < l.length) :
    Calls Try.prog 31 #[lv, .int .i64 (i : Int), .int .i64 ((i : Int) + 1)] w fun e w' =>
      ∃ lv', e = .returned lv' ∧ OwnM w' lv' (l.eraseIdx i) ∧ Tn (fun k => lv.ownBlock = some k) w w' ∧ lv'.ownBlock = lv.ownBlock := by
  obtain ⟨hlen, h2⟩ := hrow
  rcases h2 with ⟨_, h0⟩ | ⟨g, cap, cur, rfl, hg, hh, hn, hcap, hsz, htake⟩
  · omega
  obtain ⟨i0, hi0, hz0, hz1, hz2⟩ := info_parts info55
  obtain ⟨n, hnl⟩ : ∃ n, n = l.length := ⟨_, rfl⟩
  rw [← hnl] at hi hn htake ⊢
  have hcell : ∀ k, k < n * 3 → w.cell? ⟨g, k, none⟩ = (mCells l)[k]? := by
    intro k hk
    rw [← htake, List.getElem?_take, if_pos hk]
    simp [World.cell?, hh]
  have hml : (mCells l).length = n * 3 := by rw [mCells_len, hnl]
  have hfz : ∀ k, w.frozen? ⟨g, k, none⟩ = false := by intro k; simp [World.frozen?, hh]
  have hsome : ∀ k, k < n * 3 → (w.cell? ⟨g, k, none⟩).isSome = true := by intro k hk; rw [hcell k hk, List.getElem?_eq_getElem (by omega)]; rfl
  obtain ⟨news, hnews⟩ : ∃ news, news = (mCells l).drop (3 * (i + 1)) := ⟨_, rfl⟩
  have hnl2 : news.length = (n - (i + 1)) * 3 := by rw [hnews, List.length_drop, hml]; omega
  obtain ⟨A, hA, hsrc⟩ : ∃ A : Addr, (if cap = i + 1 then some (⟨g, 0, none⟩ : Addr) else some ⟨g, (i + 1) * 3, none⟩) = some A ∧ Hid (∀ t u, news[t]? = some u → w.drew.cell? (A.add t) = some u) := by
    by_cases h : cap = i + 1
    · refine ⟨⟨g, 0, none⟩, by simp [h], fun t u hu => ?_⟩
      have h0 : news.length = 0 := by rw [hnl2]; omega
      rw [List.length_eq_zero_iff.1 h0] at hu
      simp at hu
    · refine ⟨⟨g, (i + 1) * 3, none⟩, by simp [h], fun t u hu => ?_⟩
      have ht : t < (n - (i + 1)) * 3 := by
        have := (List.getElem?_eq_some_iff.1 hu).1
        rwa [hnl2] at this
      rw [hnews, List.getElem?_drop] at hu
      rw [Addr.add_lit]
      exact (hcell ((i + 1) * 3 + t) (by omega)).trans (by rw [← hu]; congr 1; omega)
  have s1 : Hid (news.length = (n - (i + 1)) * 3) := hnl2
  have s2 : Hid (∀ u ∈ news, u.oneCell' = true) := by
    intro u hu
    rw [hnews] at hu
    exact mCells_one l u (List.mem_of_mem_drop hu)
  have s3 : Hid (∀ t, t < news.length → (w.drew.cell? ⟨g, 0 + i * 3 + t, none⟩).isSome = true ∧ w.drew.frozen? ⟨g, 0 + i * 3 + t, none⟩ = false) := by
    intro t ht
    rw [hnl2] at ht
    exact ⟨hsome _ (by omega), hfz _⟩
  obtain ⟨W1, hW1⟩ : ∃ W1, W1 = w.drew.setCells g (0 + i * 3) news := ⟨_, rfl⟩
  have hW1c : ∀ k, (W1.cell? ⟨g, k, none⟩) = if i * 3 ≤ k ∧ k < i * 3 + news.length then news[k - i * 3]? else w.cell? ⟨g, k, none⟩ := by
    intro k
    rw [hW1, Nat.zero_add]
    split
    · rename_i hk
      have := World.cell?_setCells_in g news (i * 3) w.drew (fun j hj => hsome _ (by omega)) (k - i * 3) (by omega)
      rw [show i * 3 + (k - i * 3) = k from by omega] at this
      rw [this, List.getElem?_eq_getElem]
    · rename_i hk
      exact World.cell?_setCells_out g news (i * 3) w.drew ⟨g, k, none⟩ (fun _ _ => by show k < _ ∨ _ ≤ k; omega)
  have hW1f : ∀ k, W1.frozen? ⟨g, k, none⟩ = false := by intro k; rw [hW1, World.frozen?_setCells]; exact hfz k
  have hW1s : ∀ k, k < n * 3 → (W1.cell? ⟨g, k, none⟩).isSome = true := by
    intro k hk
    rw [hW1c]
    split
    · rw [List.getElem?_eq_getElem (by omega)]; rfl
    · exact hsome k hk
  obtain ⟨cur1, hcur1, hsz1⟩ := setCells_block news (0 + i * 3) (w := w.drew) hh
  rw [← hW1] at hcur1
  have hcl : ∀ ty, (Builtin.clear_ #[48] ty #[.slice (some ⟨g, (i + (n - (i + 1))) * 3, none⟩) (n - (i + (n - (i + 1)))) (cap - (i + (n - (i + 1))))]).run Try.prog W1 = .ok (.tuple #[]) (W1.setCells g ((n - 1) * 3) [.int .i64 0, .int .i64 0, .string ⟨#[]⟩]) := by
    intro ty
    rw [show i + (n - (i + 1)) = n - 1 from by omega, show n - (n - 1) = 1 from by omega]
    exact run_clear_m W1 ty g ((n - 1) * 3) _ (fun j hj => hW1s _ (by omega)) (fun j hj => hW1f _)
  have hend : OwnM (W1.setCells g ((n - 1) * 3) [.int .i64 0, .int .i64 0, .string ⟨#[]⟩]) (.slice (some ⟨g, 0, none⟩) (n - 1) cap) (l.eraseIdx i) := by
    obtain ⟨cur2, hcur2, hsz2⟩ := setCells_block [.int .i64 0, .int .i64 0, .string ⟨#[]⟩] ((n - 1) * 3) hcur1
    have hel : (l.eraseIdx i).length = n - 1 := by rw [List.length_eraseIdx]; simp [← hnl, hi]
    refine ⟨mCells_len _, Or.inr ⟨g, cap, cur2, by rw [hel], Nat.zero_le _, hcur2, by omega, hcap, by rw [hsz2, hsz1, hsz], ?_⟩⟩
    rw [hel, mCells_erase, ← hnews]
    apply List.ext_getElem?
    intro k
    rw [List.getElem?_take]
    split
    · rename_i hk
      have hc2 : (W1.setCells g ((n - 1) * 3) [.int .i64 0, .int .i64 0, .string ⟨#[]⟩]).cell? ⟨g, k, none⟩ = cur2.toList[k]? := by simp [World.cell?, hcur2]
      rw [← hc2, World.cell?_setCells_out g _ _ W1 ⟨g, k, none⟩ (fun _ _ => by show k < _ ∨ _ ≤ k; omega), hW1c]
      split
      · rename_i h3
        rw [List.getElem?_append_right (by simp; omega)]
        congr 1
        simp [hml]; omega
      · rename_i h3
        rw [List.getElem?_append_left (by simp [hml]; omega), List.getElem?_take, if_pos (by omega)]
        exact hcell k (by omega)
    · rename_i hk
      rw [List.getElem?_eq_none]
      simp [hml, hnl2]; omega
  have htn : Tn (fun k => some g = some k) w (W1.setCells g ((n - 1) * 3) [.int .i64 0, .int .i64 0, .string ⟨#[]⟩]) := by
    have a1 : Tn (fun k => some g = some k) w W1 := by rw [hW1]; exact (Tn.drew w).trans (Tn.setCells (F := fun k => some g = some k) rfl _ _ _)
    exact a1.trans (Tn.setCells (F := fun k => some g = some k) rfl _ _ _)
  have hic : i ≤ cap := by omega
  have hic1 : i + 1 ≤ cap := by omega
  have hnc : n ≤ cap := hn
  have hcm : cap ≤ 9223372036854775807 := by unfold maxLen at hcap; omega
  have HEND := Lib.hid hend
  have HTN := Lib.hid htn
  have HW : Hid (W1 = w.drew.setCells g (0 + i * 3) news) := hW1
  clear hend htn hW1 hcur1 hW1c hW1f hW1s hnews hnl2 hcell hsome hfz hml hh htake hsz hlen hg hcap hsz1 hz0 hz2 hnl
  go_enter Try.func31, Try.ntmps31
  go_wp2_with fail
  have q0 : (0 : Int) ≤ (i : Int) + 1 := by omega
  have q1 : (i : Int) + 1 ≤ (n : Int) := by omega
  go_region_law (refine step_append_room rfl (.tmp 22) (.tmp 25) 48 rfl 55 i0 3 Try.underlying48 hi0 hz1 g 0 i cap (by simp [Act.eval, Act.put]) A (n - (i + 1)) (cap - (i + 1)) news (by simp [Act.eval, Act.put]) s1.out hsrc.out s2.out (by omega) s3.out ?_; rw [← HW.out])
  go_wp2
  go_ret
  exact ⟨_, by rw [show i + (n - (i + 1)) = n - 1 from by omega]; rfl, HEND.out, HTN.out, rfl⟩
end Go.Proofs.Ytanekdcmealoeaa
