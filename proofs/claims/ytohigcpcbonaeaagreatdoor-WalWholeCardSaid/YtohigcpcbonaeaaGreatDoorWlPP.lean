/-
  Wal, plain: what is sure of a log; what a crash leaves of it, in the mending too.
-/
import Derived.Test.YtohigcpcbonaeaaGreatDoorWlNN
set_option linter.unusedSimpArgs false
set_option linter.unusedVariables false
namespace Go.Proofs.YtohigcpcbonaeaaGreatDoor
open Go.RowKit Go.Lib
variable {F F' G G' H : Nat → Prop} {B : Nat} {w w' w0 : World} {lb mp db mb k n s : Nat} {L L' L1 : Lg} {D D' D1 : Dk} {S S' S1 : List (Nat × Fl)} {M : Option Fl} {z : Option Fz} {f : Fl} {dir r : ByteArray} {size q c : Int} {v : Value} {l : List ByteArray}

/-- The first s records are synced. -/
def Sr (L : Lg) (S : List (Nat × Fl)) (s : Nat) : Prop :=
  (L.op = 0 ∧ s ≤ (allR S).length) ∨ ∃ (A : List (Nat × Fl)) (n : Nat) (f : Fl) (a : Nat), S = A ++ [(n, f)] ∧ L.op = (n : Int) ∧ Bd f a ∧ s ≤ (allR A).length + a
theorem Bd.few {a : Nat} (h : Bd f a) : a ≤ (recsOf f.data).length := by
  obtain ⟨au, bs, h1, h2, h3, h4⟩ := h
  rw [(Good.scan h1 h2).1, List.length_map, List.length_append]
  omega
theorem Sr.le (h : Sr L S s) : s ≤ (allR S).length := by
  rcases h with ⟨_, h⟩ | ⟨A, n, f, a, rfl, _, hb, h⟩
  · exact h
  · have := hb.few
    rw [allR_app, allR_one, List.length_append]
    omega
theorem Bd.app {a : Nat} (h : Bd f a) (hr : r.size ≤ 131072) : Bd ⟨f.data ++ framed r, f.syn⟩ a := by
  obtain ⟨au, bs, h1, h2, h3, h4⟩ := h
  refine ⟨au, bs ++ [r.data.toList], ?_, ?_, h3, h4⟩
  · show (f.data ++ framed r).data.toList = _
    have e := frames_app (au ++ bs) [r.data.toList]
    rw [frames_one] at e
    rw [ba_app, h1, framed_list, ← List.append_assoc, e]
  · intro x hx
    rw [← List.append_assoc] at hx
    rcases List.mem_append.1 hx with hx | hx
    · exact h2 x hx
    · simp at hx; subst hx; rw [ba_size] at hr; exact hr
theorem Bd.new (hr : r.size ≤ 131072) : Bd ⟨framed r, 0⟩ 0 := by
  refine ⟨[], [r.data.toList], ?_, ?_, rfl, rfl⟩
  · show (framed r).data.toList = _
    rw [framed_list, List.nil_append, frames_one]
  · intro x hx
    simp at hx; subst hx; rw [ba_size] at hr; exact hr
theorem Bd.all (h : Good f.data) (hs : Synd f) : Bd f (recsOf f.data).length := by
  obtain ⟨rs, h1, h2⟩ := h
  refine ⟨rs, [], by rw [List.append_nil]; exact h1, by rw [List.append_nil]; exact h2, ?_, ?_⟩
  · rw [← h1, ← ba_size]; exact hs
  · rw [(Good.scan h1 h2).1, List.length_map]
theorem run_op (h : Run dir size L (S ++ [(n, f)])) (h0 : L.op ≠ 0) : L.op = (n : Int) := by
  rcases h.op with ⟨e, _⟩ | ⟨A, m, g, e, ho, _⟩
  · exact absurd e h0
  · obtain ⟨_, e2⟩ := List.append_inj' e rfl
    simp at e2
    rw [ho, e2.1]
theorem Sr.app (h : Sr L S s) (hR : Run dir size L S) (ha : AppS size L S S' r) (hR' : Run dir size L' S') (h0 : L'.op ≠ 0) (hr : r.size ≤ 131072) : Sr L' S' s := by
  have hle := h.le
  rcases ha with ⟨A, n, f, rfl, ho, _, rfl⟩ | ⟨A, n, f, rfl, ho, _, _, rfl⟩ | ⟨ho, rfl⟩
  · have hn := (hR.rise.mid (B := [])).2.2.1
    rcases h with ⟨e, _⟩ | ⟨A', n', f', a, e, _, hb, hs⟩
    · omega
    · obtain ⟨rfl, e2⟩ := List.append_inj' e rfl
      simp at e2
      obtain ⟨rfl, rfl⟩ := e2
      exact .inr ⟨A, n, _, a, rfl, run_op hR' h0, hb.app hr, hs⟩
  · refine .inr ⟨_, n + 1, _, 0, rfl, run_op hR' h0, Bd.new hr, ?_⟩
    rw [allR_app, allR_one] at hle ⊢
    exact hle
  · exact .inr ⟨S, _, _, 0, rfl, run_op hR' h0, Bd.new hr, hle⟩
theorem Sr.all (hR : Run dir size L S) (hs : ∀ p ∈ S, Synd p.2) : Sr L S (allR S).length := by
  rcases hR.op with ⟨h0, _⟩ | ⟨A, n, f, rfl, ho, _⟩
  · exact .inl ⟨h0, Nat.le_refl _⟩
  · refine .inr ⟨A, n, f, _, rfl, ho, Bd.all (hR.good (n, f) (by simp)) (hs (n, f) (by simp)), ?_⟩
    rw [allR_app, allR_one, List.length_append]
    exact Nat.le_refl _
/-- What is read behind a crash. -/
theorem Sr.crash (h : Sr L S s) (hR : Run dir size L S) (g : Nat → Int) (flip : Int) : ∃ j, s ≤ j ∧ j ≤ (allR S).length ∧ allR (S.map (fun p => (p.1, cutF p.2 (g p.1) flip))) = (allR S).take j := by
  rcases crash_run hR g flip with ⟨h1, _⟩ | ⟨A, n, f, c, rfl, ho, h1, _⟩
  · rw [h1]
    exact ⟨_, h.le, Nat.le_refl _, (List.take_length).symm⟩
  · rw [h1]
    have hn := (hR.rise.mid (B := [])).2.2.1
    rcases h with ⟨e, _⟩ | ⟨A', n', f', a, e, _, hb, hs⟩
    · omega
    · obtain ⟨rfl, e2⟩ := List.append_inj' e rfl
      simp at e2
      obtain ⟨rfl, rfl⟩ := e2
      obtain ⟨j, h2, h3, h4⟩ := kept_scan hb c flip
      refine ⟨(allR A).length + j, by omega, ?_, ?_⟩
      · rw [allR_app, allR_one, List.length_append]; omega
      · have e2 : (allR A ++ recsOf f.data).take ((allR A).length + j) = allR A ++ (recsOf f.data).take j := by
          rw [List.take_append, List.take_of_length_le (l := allR A) (Nat.le_add_right _ _), Nat.add_sub_cancel_left]
        rw [allR_app, allR_one, allR_app, allR_one, h4, e2]
theorem cut_id {g : Nat → Int} {flip : Int} (h : ∀ p ∈ S, Synd p.2) : S.map (fun p => (p.1, cutF p.2 (g p.1) flip)) = S := by
  conv => rhs; rw [← List.map_id S]
  refine List.map_congr_left (fun p hp => ?_)
  rw [cutF_synd (h p hp)]
  rfl
/-- Files between two lives: behind a crash; a file of the mending is there only where the last segment is torn. -/
structure Btw (S : List (Nat × Fl)) (M : Option Fl) : Prop where
  aft : Aft S
  mend : M = none ∨ ¬ (∀ p ∈ S, Good p.2.data)
/-- What an opening with a fuse leaves of a disk. -/
def Fused (dir : ByteArray) (S : List (Nat × Fl)) (k : Nat) (D : Dk) : Prop :=
  (∃ S' z' k', D = dkF (dmap dir S' none) (-1) z' k' ∧ Btw S' none ∧ allR S' = allR S ∧ S'.length = S.length ∧ lastN S' = lastN S ∧ k' ≤ k + 6) ∨
  (∃ M' cuts flip k', D = blown (dmap dir S M') (-1) cuts flip k' ∧ ¬ (∀ p ∈ S, Good p.2.data) ∧ k' ≤ k + 6)
theorem aft_run (h : Run dir size L S) (h0 : L.op = 0) : Aft S ∧ ∀ p ∈ S, Good p.2.data := by
  rcases h.op with ⟨_, _, hs⟩ | ⟨A, n, f, rfl, ho, _⟩
  · exact ⟨⟨h.rise, hs, .inl h.good⟩, h.good⟩
  · have hn := (h.rise.mid (B := [])).2.2.1
    omega
/-- Behind it: the power fails, comes back, the fuse is taken away. -/
theorem Fused.back (h : Fused dir S k D) (ha : Aft S) (cuts : List Int) (flip : Int) : ∃ S' M' k', ((D.crash cuts flip).restore.setFuse (-1) [] 0) = dkF (dmap dir S' M') (-1) none k' ∧ Btw S' M' ∧ allR S' = allR S ∧ S'.length = S.length ∧ lastN S' = lastN S ∧ k' ≤ k + 6 := by
  rcases h with ⟨S', z', k', rfl, hb, h1, h2, h3, h4⟩ | ⟨M', c2, f2, k', rfl, hng, h4⟩
  · obtain ⟨g, M1, e, hM⟩ := crash_restore (dir := dir) (M := none) (q := -1) (z := z') (k := k') hb.aft.rise cuts flip
    rw [cut_id hb.aft.syn, hM rfl] at e
    refine ⟨S', none, k', ?_, hb, h1, h2, h3, h4⟩
    rw [e]
    rfl
  · obtain ⟨g, c, e⟩ := crash_dmap (dir := dir) (M := M') ha.rise c2 f2
    rw [cut_id ha.syn] at e
    refine ⟨S, M'.map (fun f => cutF f c f2), k', ?_, ⟨ha, .inr hng⟩, rfl, rfl, rfl, h4⟩
    unfold blown
    rw [e]
    rfl
theorem c_open_fuse (h : DS B w0 w F db mb (dkF (dmap dir S none) (-1) z k)) (hd : nmB dir = true) (hd40 : dir.size ≤ 40) (ha : Aft S) (hl : S.length + 3 ≤ 20000) (hs1 : 1 ≤ size) (hs2 : size ≤ 524288) (hk : k + 20 ≤ 1000000) :
    Calls Tryz.prog 6 #[.pointer (some ⟨db, 0, none⟩), .string dir, .int .i64 size] w fun e w' => ∃ F' D' o c, e = .returned (.tuple #[.pointer o, .int .i64 c]) ∧ (c = 0 ∨ c = 20) ∧ DS B w0 w' F' db mb D' ∧ Step F F' w w' ∧ Fused dir S k D' := by
  rcases ha.good with hg | ⟨A, n, f, rfl, hg, hng⟩
  · refine (c_open_good h hd hd40 ha.rise hg (by omega) hs1 hs2 hk).mono ?_
    rintro e w' ⟨F', lb, mp, G, he, hw, s, _⟩
    exact ⟨F', _, _, _, he, .inl rfl, hw.d, s, .inl ⟨S, z, k, rfl, ⟨ha, .inl rfl⟩, rfl, rfl, rfl, by omega⟩⟩
  · have hll : A.length + 3 ≤ 20000 := by rw [List.length_append] at hl; simp at hl; omega
    refine (c_open_torn h hd hd40 ha.rise hg hng hll hs1 hs2 hk).mono ?_
    rintro e w' ⟨F', c, D', L', s, hme, hc⟩
    have ht := aft_torn (dir := dir) (size := size) ha hg
    have hnn : ¬ ∀ p ∈ A ++ [(n, f)], Good p.2.data := fun h => hng (h (n, f) (by simp))
    have hD : Fused dir (A ++ [(n, f)]) k D' := by
      rcases hme with ⟨_, ⟨z', k', h1, h2, h3⟩, h4⟩ | ⟨_, hq, _⟩ | ⟨_, _, ⟨M', cuts, flip, k', h1, h2⟩, _⟩
      · simp only at h1
        have hr := aft_run ht.run ht.op.1
        exact .inl ⟨_, z', k', h1, ⟨hr.1, .inl rfl⟩, ht.recs, by simp, by rw [lastN_snoc, lastN_snoc], h2⟩
      · omega
      · exact .inr ⟨M', cuts, flip, k', h1, hnn, h2⟩
    rcases hc with ⟨rfl, he, hw⟩ | ⟨hc, lb, mp, G, he, hw⟩
    · exact ⟨F', D', _, _, he, .inr rfl, hw, s, hD⟩
    · exact ⟨F', D', _, _, he, .inl rfl, hw.d, s, hD⟩
/-- Opened with power, and no fuse. -/
theorem c_open_btw (h : DS B w0 w F db mb (dkF (dmap dir S M) (-1) none k)) (hd : nmB dir = true) (hd40 : dir.size ≤ 40) (hb : Btw S M) (hl : S.length + 3 ≤ 20000) (hs1 : 1 ≤ size) (hs2 : size ≤ 524288) (hk : k + 20 ≤ 1000000) :
    Calls Tryz.prog 6 #[.pointer (some ⟨db, 0, none⟩), .string dir, .int .i64 size] w fun e w' => ∃ F' lb mp G L S' k', e = .returned (.tuple #[.pointer (some ⟨lb, 0, none⟩), .int .i64 0]) ∧ WS B w0 w' F' G db mb lb mp (dkF (dmap dir S' none) (-1) none k') L ∧ Step F F' w w' ∧ Run dir size L S' ∧ L.op = 0 ∧ L.long = 0 ∧ allR S' = allR S ∧ S'.length = S.length ∧ lastN S' = lastN S ∧ k' ≤ k + 6 := by
  refine (c_open_aft h hb.mend hd hd40 hb.aft hl hs1 hs2 hk).mono ?_
  rintro e w' ⟨F', lb, mp, G, L, S', k', he, hw, s, _, hr, h1, h2, h3, h4, h5⟩
  obtain ⟨hr, h0⟩ := hr (by decide)
  exact ⟨F', lb, mp, G, L, S', k', he, hw, s, hr, h0, h5, h1, h2, h3, h4⟩
/-- An append to a log that runs. -/
theorem c_append_sr (h : WS B w0 w F G db mb lb mp (dkF (dmap dir S none) (-1) none k) L) (hd : nmB dir = true) (hd40 : dir.size ≤ 40) (hsz : size ≤ 524288) (hr : Run dir size L S) (hs : Sr L S s) (r : ByteArray) (hrs : r.size ≤ 131072) (hk : k + 60 ≤ 1000000) (hS : S.length + 3 ≤ 20000) (hl : lastN S + 1 < 4294967296) (hlong : L.long ≤ 900000) :
    Calls Tryz.prog 9 #[.pointer (some ⟨lb, 0, none⟩), .string r] w fun e w' => e = .returned (.int .i64 0) ∧ ∃ S' k' L' G' F', WS B w0 w' F' G' db mb lb mp (dkF (dmap dir S' none) (-1) none k') L' ∧ Step F F' w w' ∧ Run dir size L' S' ∧ Sr L' S' s ∧ allR S' = allR S ++ [r] ∧ S'.length ≤ S.length + 1 ∧ lastN S' ≤ lastN S + 1 ∧ k' ≤ k + 3 ∧ L'.long ≤ L.long + (8 + r.size) := by
  have hml : L.m.length = S.length := by rw [hr.m]; unfold mOf; rw [List.length_map]
  have h0 : 0 ≤ L.long := by obtain ⟨ms, hm⟩ := h.l; exact hm.ok.long.1
  refine (w_append h.l h.d.d h.sub rfl hk (n := lastN S) (by omega) hr.last (by omega) r hrs hr.opk (hr.few h.d.d) hlong).mono ?_
  intro e w' hkp
  obtain ⟨he, G', F', h1, h2⟩ := hkp.acted h
  have h3 := append_long L (dkF (dmap dir S none) (-1) none k) r h0
  rw [framed_size] at h3
  have h4 := append_run (q := -1) (k := k) hd hd40 hsz hr hrs hS hl
  obtain ⟨x, hx⟩ : ∃ x, L.append (dkF (dmap dir S none) (-1) none k) r = x := ⟨_, rfl⟩
  rw [hx] at he h1 h3 h4
  obtain ⟨c, D', L'⟩ := x
  obtain ⟨rfl, S', k', rfl, hr', ha, hk', ho⟩ := h4.ok
  have hf := app_facts hr ha hrs
  exact ⟨he, S', k', L', G', F', h1, h2, hr', hs.app hr ha hr' ho hrs, hf.1, hf.2.2.2.2.2, hf.2.2.2.1, hk', by simp only at h3; omega⟩
end Go.Proofs.YtohigcpcbonaeaaGreatDoor
