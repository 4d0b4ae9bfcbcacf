
/-
  Wal, plain: numbers in a row; what Drop leaves; what is told from a number on.
-/
import Derived.Test.YtohigcpcbonaeaaGreatDoorWlKK
set_option linter.unusedSimpArgs false
set_option linter.unusedVariables false
namespace Go.Proofs.YtohigcpcbonaeaaGreatDoor
open Go.RowKit Go.Lib
variable {k n : Nat} {L L' : Lg} {S S' K T : List (Nat × Fl)} {f : Fl} {dir r : ByteArray} {size q c op long below : Int}

/-- The numbers go up from 1. -/
def Cons (S : List (Nat × Fl)) : Prop := S.map (·.1) = List.range' 1 S.length
theorem Cons.nil : Cons [] := rfl
theorem Cons.last (h : Cons S) : lastN S = S.length := by
  unfold lastN
  rw [h]
  cases S.length with
  | zero => rfl
  | succ m => rw [List.range'_concat, List.getLastD_concat]; omega
theorem Cons.at_ (h : Cons S) {j : Nat} (hj : j < S.length) : S[j].1 = j + 1 := by
  have h1 : (S.map (·.1))[j]? = (List.range' 1 S.length)[j]? := by rw [h]
  rw [List.getElem?_map, List.getElem?_eq_getElem hj, List.getElem?_range' hj] at h1
  simp at h1
  omega
theorem Cons.snoc (h : Cons S) (f : Fl) : Cons (S ++ [(S.length + 1, f)]) := by
  unfold Cons at h ⊢
  rw [List.map_append, h, List.length_append, List.length_singleton, List.range'_concat]
  simp
  omega
theorem Cons.swap {f g : Fl} (h : Cons (S ++ [(n, f)])) : Cons (S ++ [(n, g)]) := by
  unfold Cons at h ⊢
  simpa using h
theorem Cons.step (h : Cons S) (ha : AppS size L S S' r) : Cons S' := by
  have hl := h.last
  rcases ha with ⟨A, n, f, rfl, _, _, rfl⟩ | ⟨A, n, f, rfl, _, _, _, rfl⟩ | ⟨_, rfl⟩
  · exact h.swap
  · rw [lastN_snoc] at hl
    have h1 := (h.swap (g := ⟨f.data, f.data.size⟩)).snoc ⟨framed r, 0⟩
    have h2 : (A ++ [(n, (⟨f.data, f.data.size⟩ : Fl))]).length + 1 = n + 1 := by rw [hl]; simp
    rw [h2] at h1
    exact h1
  · rw [hl]
    exact h.snoc _
/-- Each segment is small, or has one record. -/
def SzOk (size : Int) (S : List (Nat × Fl)) : Prop := ∀ p ∈ S, (p.2.data.size : Int) ≤ size ∨ (recsOf p.2.data).length = 1
theorem SzOk.step (h : SzOk size S) (hr : Run dir size L S) (ha : AppS size L S S' r) (hrs : r.size ≤ 131072) : SzOk size S' := by
  have h1 := (Good.one hrs).2
  rcases ha with ⟨A, n, f, rfl, _, hn, rfl⟩ | ⟨A, n, f, rfl, _, _, _, rfl⟩ | ⟨_, rfl⟩
  · intro p hp
    rcases List.mem_append.1 hp with hp | hp
    · exact h p (by simp [hp])
    · rw [List.mem_singleton] at hp
      subst hp
      show ((f.data ++ framed r).size : Int) ≤ size ∨ (recsOf (f.data ++ framed r)).length = 1
      by_cases h0 : f.data.size = 0
      · right
        have e : f.data = ByteArray.empty := ba_ext (List.eq_nil_of_length_eq_zero (by rw [← ba_size]; exact h0))
        rw [e, ByteArray.empty_append, h1]
        rfl
      · left
        rw [ByteArray.size_append]
        omega
  · intro p hp
    rcases List.mem_append.1 hp with hp | hp
    · rcases List.mem_append.1 hp with hp | hp
      · exact h p (by simp [hp])
      · rw [List.mem_singleton] at hp
        subst hp
        exact h (n, f) (by simp)
    · rw [List.mem_singleton] at hp
      subst hp
      right
      show (recsOf (framed r)).length = 1
      rw [h1]
      rfl
  · intro p hp
    rcases List.mem_append.1 hp with hp | hp
    · exact h p hp
    · rw [List.mem_singleton] at hp
      subst hp
      right
      show (recsOf (framed r)).length = 1
      rw [h1]
      rfl
theorem filter_mOf (t : Int) : (mOf S).filter (fun p => decide (t ≤ p.1)) = mOf (S.filter (fun p => decide (t ≤ (p.1 : Int)))) := by
  unfold mOf
  rw [List.filter_map]
  rfl
theorem records_of (hm : L.m = mOf S) (t : Int) : L.records t = allR (S.filter (fun p => decide (t ≤ (p.1 : Int)))) := by
  unfold Lg.records
  rw [hm, filter_mOf]
  unfold mOf allR
  rw [List.flatMap_map]
theorem records_drop (h : Cons S) (hm : L.m = mOf S) (i : Nat) : L.records ((i : Int) + 1) = allR (S.drop i) := by
  rw [records_of hm]
  congr 1
  conv => lhs; rw [← List.take_append_drop i S]
  rw [List.filter_append]
  have h1 : (S.take i).filter (fun p => decide ((i : Int) + 1 ≤ (p.1 : Int))) = [] := by
    refine List.filter_eq_nil_iff.2 (fun p hp => ?_)
    obtain ⟨j, hj, rfl⟩ := List.mem_iff_getElem.1 hp
    rw [List.length_take] at hj
    rw [List.getElem_take, h.at_ (by omega)]
    simp
    omega
  have h2 : (S.drop i).filter (fun p => decide ((i : Int) + 1 ≤ (p.1 : Int))) = S.drop i := by
    refine List.filter_eq_self.2 (fun p hp => ?_)
    obtain ⟨j, hj, rfl⟩ := List.mem_iff_getElem.1 hp
    rw [List.length_drop] at hj
    rw [List.getElem_drop, h.at_ (by omega)]
    simp
    omega
  rw [h1, h2, List.nil_append]
theorem allR_drop {i : Nat} (hi : i < S.length) : allR (S.drop i) = recsOf S[i].2.data ++ allR (S.drop (i + 1)) := by
  rw [List.drop_eq_getElem_cons hi]
  rfl
/-- What Drop keeps. -/
def keepS (below op : Int) (S : List (Nat × Fl)) : List (Nat × Fl) := S.filter (fun p => decide (below ≤ (p.1 : Int) ∨ (p.1 : Int) = op))
theorem Rise.filter (h : Rise S) (p : Nat × Fl → Bool) : Rise (S.filter p) :=
  ⟨List.Pairwise.sublist (List.filter_sublist.map _) h.lt, fun x hx => h.rng x (List.mem_filter.1 hx).1⟩
theorem dropK_run (hd : nmB dir = true) (hd40 : dir.size ≤ 40) (below op long : Int) : ∀ (T K : List (Nat × Fl)) (k : Nat), Rise (K ++ T) →
    ∃ k', k' ≤ k + T.length ∧ Lg.dropK below (T.map (fun p => (p.1 : Int))) ⟨dir, size, mOf (K ++ T), op, long, false, ByteArray.empty⟩ (dkF (dmap dir (K ++ T) none) (-1) none k) =
      (0, dkF (dmap dir (K ++ keepS below op T) none) (-1) none k', ⟨dir, size, mOf (K ++ keepS below op T), op, long, false, ByteArray.empty⟩) := by
  intro T
  induction T with
  | nil => intro K k _; exact ⟨k, Nat.le_refl _, rfl⟩
  | cons p T ih =>
    obtain ⟨n, f⟩ := p
    intro K k hr
    have e1 : K ++ (n, f) :: T = (K ++ [(n, f)]) ++ T := by simp
    rw [List.map_cons, Lg.dropK]
    by_cases hk : below ≤ (n : Int) ∨ (n : Int) = op
    · rw [if_pos hk]
      have h1 : keepS below op ((n, f) :: T) = (n, f) :: keepS below op T := by
        unfold keepS
        rw [List.filter_cons_of_pos (by simpa using hk)]
      rw [h1]
      have e2 : K ++ (n, f) :: keepS below op T = (K ++ [(n, f)]) ++ keepS below op T := by simp
      rw [e1, e2]
      obtain ⟨k', h2, h3⟩ := ih (K ++ [(n, f)]) k (by rw [← e1]; exact hr)
      exact ⟨k', by simp; omega, h3⟩
    · rw [if_neg hk]
      have h1 : keepS below op ((n, f) :: T) = keepS below op T := by
        unfold keepS
        rw [List.filter_cons_of_neg (by simpa using hk)]
      rw [h1]
      have hz : segZ dir ((n : Nat) : Int) = segN dir n := rfl
      simp only [hz]
      rw [dk_remove (segN_nm hd hd40 n) (dmap_get hr)]
      have ha : (dkF (dmap dir (K ++ (n, f) :: T) none) (-1) none k).act (fun m => delL m (segN dir n)) = (0, dkF (delL (dmap dir (K ++ (n, f) :: T) none) (segN dir n)) (-1) none (k + 1)) := rfl
      rw [ha, dmap_del hr]
      simp only
      rw [if_neg (by decide)]
      have hmid := hr.mid
      have hde : delL (mOf (K ++ (n, f) :: T)) (n : Int) = mOf (K ++ T) := by
        have e3 : mOf (K ++ (n, f) :: T) = mOf K ++ ((n : Int), recsOf f.data) :: mOf T := by unfold mOf; simp
        rw [e3, delL_mid (mOf_ne hmid.1) (fun p hp e => by
          obtain ⟨x, hx, rfl⟩ := List.mem_map.1 hp
          have := hmid.2.1 x hx
          simp at e
          omega)]
        unfold mOf
        simp
      rw [hde]
      have hif : (if (mOf (K ++ T)).length = 0 then (⟨dir, size, mOf (K ++ T), op, long, false, ByteArray.empty⟩ : Lg) else ⟨dir, size, mOf (K ++ T), op, long, false, ByteArray.empty⟩) = ⟨dir, size, mOf (K ++ T), op, long, false, ByteArray.empty⟩ := by split <;> rfl
      rw [hif]
      have hr2 : Rise (K ++ T) := ⟨List.Pairwise.sublist ((List.Sublist.append_left (List.sublist_cons_self _ _) K).map _) hr.lt, fun x hx => hr.rng x (by
        rcases List.mem_append.1 hx with hx | hx
        · exact List.mem_append_left _ hx
        · exact List.mem_append_right _ (List.mem_cons_of_mem _ hx))⟩
      obtain ⟨k', h2, h3⟩ := ih K (k + 1) hr2
      exact ⟨k', by simp; omega, h3⟩
theorem drop_run (hd : nmB dir = true) (hd40 : dir.size ≤ 40) (h : Run dir size L S) (below : Int) : ∃ k', k' ≤ k + S.length ∧ L.drop (dkF (dmap dir S none) (-1) none k) below =
    (0, dkF (dmap dir (keepS below L.op S) none) (-1) none k', ⟨dir, size, mOf (keepS below L.op S), L.op, L.long, false, ByteArray.empty⟩) := by
  obtain ⟨k', h1, h2⟩ := dropK_run (size := size) hd hd40 below L.op L.long S [] k h.rise
  refine ⟨k', h1, ?_⟩
  have hL : L = ⟨dir, size, mOf ([] ++ S), L.op, L.long, false, ByteArray.empty⟩ := by
    have := h.dir; have := h.size; have := h.torn; have := h.left; have := h.m
    cases L
    simp_all
  have hk : L.m.map (·.1) = S.map (fun p => (p.1 : Int)) := by rw [h.m, mOf_keys]
  unfold Lg.drop
  rw [hk]
  conv => lhs; rw [hL]
  exact h2
theorem keep_eq (hS : ∀ p ∈ S, p.1 ≤ lastN S) : keepS below (lastN S : Int) S = S.filter (fun p => decide (min below (lastN S : Int) ≤ (p.1 : Int))) := by
  unfold keepS
  refine List.filter_congr (fun p hp => ?_)
  have := hS p hp
  rw [decide_eq_decide]
  omega
theorem range_head (t : Int) : ∀ (m s : Nat), 1 ≤ m → t ≤ (s : Int) + m - 1 → ((List.range' s m).filter (fun n : Nat => decide (t ≤ (n : Int)))).head? = some (max t (s : Int)).toNat := by
  intro m
  induction m with
  | zero => intro s h; omega
  | succ m ih =>
    intro s _ ht
    rw [List.range'_succ]
    by_cases h : t ≤ (s : Int)
    · rw [List.filter_cons_of_pos (by simpa using h)]
      simp only [List.head?_cons, Option.some.injEq]
      omega
    · rw [List.filter_cons_of_neg (by simpa using h), ih (s + 1) (by omega) (by omega)]
      simp only [Option.some.injEq]
      omega
theorem first_keep (h : Cons S) (h0 : S ≠ []) {t : Int} (ht : t ≤ (S.length : Int)) (hm : L.m = mOf (S.filter (fun p => decide (t ≤ (p.1 : Int))))) : L.first = max t 1 := by
  have hl : 1 ≤ S.length := by
    cases S with
    | nil => exact absurd rfl h0
    | cons a l => simp
  have h1 := range_head t S.length 1 hl (by omega)
  rw [← h] at h1
  unfold Lg.first
  rw [hm, mOf_keys]
  have h2 : (S.filter (fun p => decide (t ≤ (p.1 : Int)))).map (fun p => (p.1 : Int)) = ((S.map (·.1)).filter (fun n : Nat => decide (t ≤ (n : Int)))).map (fun n : Nat => (n : Int)) := by
    rw [List.filter_map, List.map_map]
    rfl
  rw [h2, List.headD_eq_head?_getD, List.head?_map, h1]
  simp
  omega
theorem last_keep {t : Int} (h0 : S ≠ []) (ht : t ≤ (lastN S : Int)) : lastN (S.filter (fun p => decide (t ≤ (p.1 : Int)))) = lastN S := by
  rcases List.eq_nil_or_concat S with rfl | ⟨A, p, rfl⟩
  · exact absurd rfl h0
  · obtain ⟨n, f⟩ := p
    rw [List.concat_eq_append] at ht ⊢
    rw [lastN_snoc] at ht ⊢
    rw [List.filter_append, List.filter_cons_of_pos (by simpa using ht)]
    exact lastN_snoc
/-- All names that begin so. -/
theorem list_dir (h : Rise S) : (dkF (dmap dir S none) q none k).list (dir ++ ⟨#[47]⟩) = S.map (fun p => segN dir p.1) := by
  unfold Dk.list
  rw [if_pos (show (dkF (dmap dir S none) q none k).on = true from rfl)]
  have hn : (dkF (dmap dir S none) q none k).names = sortB ((dmap dir S none).map (·.1)) := rfl
  rw [hn]
  refine sorted_unique ?_ ?_ ?_
  · refine ((sortB_perm _).filter _).trans ?_
    rw [dmap_keys, List.filter_append]
    have h1 : (S.map (fun p => segN dir p.1)).filter (fun s => (dir ++ ⟨#[47]⟩).data.toList.isPrefixOf s.data.toList) = S.map (fun p => segN dir p.1) := by
      refine List.filter_eq_self.2 (fun s hs => ?_)
      obtain ⟨p, _, rfl⟩ := List.mem_map.1 hs
      rw [segN_list, List.isPrefixOf_iff_prefix]
      exact ⟨119 :: hexF 8 p.1, by simp [ByteArray.data_append]⟩
    rw [h1]
    simp
  · exact List.Pairwise.filter _ (sortB_sorted _)
  · have h1 := h.lt
    rw [List.pairwise_map] at h1 ⊢
    exact List.Pairwise.imp_of_mem (fun ha hb hab => leq_segN (h.rng _ hb).2 hab) h1
end Go.Proofs.YtohigcpcbonaeaaGreatDoor
