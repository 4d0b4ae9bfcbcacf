
/-
  Wal: a log behind a crash: opened, mended or not, appended to.
-/
import Derived.Test.YtohigcpcbonaeaaGreatDoorWlLL
set_option linter.unusedSimpArgs false
set_option linter.unusedVariables false
namespace Go.Proofs.YtohigcpcbonaeaaGreatDoor
open Go.RowKit Go.Lib
variable {F F' G G' H : Nat → Prop} {B : Nat} {w w' w0 : World} {lb mp db mb k n : Nat} {L L' L1 : Lg} {D D' D1 : Dk} {S S' : List (Nat × Fl)} {M : Option Fl} {z : Option Fz} {f : Fl} {dir r : ByteArray} {size q c : Int}

/-- What a crash makes of a log's files. -/
theorem crash_run (h : Run dir size L S) (g : Nat → Int) (flip : Int) : (S.map (fun p => (p.1, cutF p.2 (g p.1) flip)) = S ∧ ∀ p ∈ S, Synd p.2) ∨
    ∃ (A : List (Nat × Fl)) (n : Nat) (f : Fl) (c : Int), S = A ++ [(n, f)] ∧ L.op = (n : Int) ∧ S.map (fun p => (p.1, cutF p.2 (g p.1) flip)) = A ++ [(n, cutF f c flip)] ∧ ∀ p ∈ A, Synd p.2 := by
  have hid : ∀ (A : List (Nat × Fl)), (∀ p ∈ A, Synd p.2) → A.map (fun p => (p.1, cutF p.2 (g p.1) flip)) = A := by
    intro A hA
    conv => rhs; rw [← List.map_id A]
    refine List.map_congr_left (fun p hp => ?_)
    rw [cutF_synd (hA p hp)]
    rfl
  rcases h.op with ⟨_, _, hs⟩ | ⟨A, n, f, rfl, ho, _, hs⟩
  · exact .inl ⟨hid S hs, hs⟩
  · refine .inr ⟨A, n, f, g n, rfl, ho, ?_, hs⟩
    rw [List.map_append, hid A hs]
    rfl
/-- The files that a log left behind, when the power failed. -/
structure Aft (S : List (Nat × Fl)) : Prop where
  rise : Rise S
  syn : ∀ p ∈ S, Synd p.2
  good : (∀ p ∈ S, Good p.2.data) ∨ ∃ (A : List (Nat × Fl)) (n : Nat) (f : Fl), S = A ++ [(n, f)] ∧ (∀ p ∈ A, Good p.2.data) ∧ ¬ Good f.data
theorem aft_snoc {A : List (Nat × Fl)} (hr : Rise (A ++ [(n, f)])) (hs : ∀ p ∈ A, Synd p.2) (hf : Synd f) (hg : ∀ p ∈ A, Good p.2.data) : Aft (A ++ [(n, f)]) := by
  refine ⟨hr, fun p hp => ?_, ?_⟩
  · rcases List.mem_append.1 hp with hp | hp
    · exact hs p hp
    · rw [List.mem_singleton] at hp; subst hp; exact hf
  · by_cases h : Good f.data
    · left
      intro p hp
      rcases List.mem_append.1 hp with hp | hp
      · exact hg p hp
      · rw [List.mem_singleton] at hp; subst hp; exact h
    · exact .inr ⟨A, n, f, rfl, hg, h⟩
theorem Run.aft (h : Run dir size L S) (g : Nat → Int) (flip : Int) : Aft (S.map (fun p => (p.1, cutF p.2 (g p.1) flip))) ∧ (S.map (fun p => (p.1, cutF p.2 (g p.1) flip))).length = S.length ∧ lastN (S.map (fun p => (p.1, cutF p.2 (g p.1) flip))) = lastN S := by
  refine ⟨?_, List.length_map _, by unfold lastN; rw [List.map_map]; rfl⟩
  rcases crash_run h g flip with ⟨h1, h2⟩ | ⟨A, n, f, c, rfl, _, h1, h2⟩
  · rw [h1]
    exact ⟨h.rise, h2, .inl h.good⟩
  · rw [h1]
    exact aft_snoc (h.rise.swap _) h2 (cutF_synd' f c flip) (fun p hp => h.good p (List.mem_append_left _ hp))
/-- A log that goes on: it runs, or its last segment is to be mended. -/
def Lv (dir : ByteArray) (size : Int) (L : Lg) (S : List (Nat × Fl)) : Prop := Run dir size L S ∨ ∃ (A : List (Nat × Fl)) (n : Nat) (f : Fl), S = A ++ [(n, f)] ∧ TornL dir size L A n f
theorem Lv.m (h : Lv dir size L S) : L.m = mOf S := by
  rcases h with h | ⟨A, n, f, rfl, h⟩
  · exact h.m
  · exact h.m
theorem Lv.rise (h : Lv dir size L S) : Rise S := by
  rcases h with h | ⟨A, n, f, rfl, h⟩
  · exact h.rise
  · exact h.rise
theorem aft_torn {A : List (Nat × Fl)} (h : Aft (A ++ [(n, f)])) (hg : ∀ p ∈ A, Good p.2.data) : TornL dir size (openedT dir size (A ++ [(n, f)]) f) A n f :=
  ⟨rfl, rfl, rfl, rfl, rfl, ⟨rfl, rfl⟩, h.rise, fun p hp => ⟨hg p hp, h.syn p (List.mem_append_left _ hp)⟩, h.syn (n, f) (by simp)⟩
/-- Opened behind a crash. -/
theorem c_open_aft (h : DS B w0 w F db mb (dkF (dmap dir S M) q none k)) (hM : M = none ∨ ¬ (∀ p ∈ S, Good p.2.data)) (hd : nmB dir = true) (hd40 : dir.size ≤ 40) (ha : Aft S) (hl : S.length + 3 ≤ 20000) (hs1 : 1 ≤ size) (hs2 : size ≤ 524288) (hk : k + 20 ≤ 1000000) :
    Calls Tryz.prog 6 #[.pointer (some ⟨db, 0, none⟩), .string dir, .int .i64 size] w fun e w' => ∃ F' lb mp G L S' k', e = .returned (.tuple #[.pointer (some ⟨lb, 0, none⟩), .int .i64 0]) ∧ WS B w0 w' F' G db mb lb mp (dkF (dmap dir S' none) q none k') L ∧ Step F F' w w' ∧ Lv dir size L S' ∧ (q < 0 → Run dir size L S' ∧ L.op = 0) ∧ allR S' = allR S ∧ S'.length = S.length ∧ lastN S' = lastN S ∧ k' ≤ k + 6 ∧ L.long = 0 := by
  rcases ha.good with hg | ⟨A, n, f, rfl, hg, hng⟩
  · obtain rfl : M = none := hM.resolve_right (fun e => e hg)
    refine (c_open_good h hd hd40 ha.rise hg (by omega) hs1 hs2 hk).mono ?_
    rintro e w' ⟨F', lb, mp, G, he, hw, s, _⟩
    exact ⟨F', lb, mp, G, _, S, k, he, hw, s, .inl (run_opened ha.rise hg ha.syn), fun _ => ⟨run_opened ha.rise hg ha.syn, rfl⟩, rfl, rfl, rfl, by omega, rfl⟩
  · have hll : A.length + 3 ≤ 20000 := by rw [List.length_append] at hl; simp at hl; omega
    refine (c_open_torn h hd hd40 ha.rise hg hng hll hs1 hs2 hk).mono ?_
    rintro e w' ⟨F', c, D', L', s, hme, hc⟩
    have ht := aft_torn (dir := dir) (size := size) ha hg
    rcases hme with ⟨rfl, ⟨z', k', h1, h2, h3⟩, h4⟩ | ⟨rfl, hq, ⟨z', k', h1, h2, h3⟩, h4⟩ | ⟨_, hz, _⟩
    · rcases hc with ⟨h0, _⟩ | ⟨_, lb, mp, G, he, hw⟩
      · simp at h0
      · simp only at h1 h4
        obtain rfl := h3 rfl
        subst h1 h4
        exact ⟨F', lb, mp, G, _, _, k', he, hw, s, .inl ht.run, fun _ => ⟨ht.run, rfl⟩, ht.recs, by simp, by rw [lastN_snoc, lastN_snoc], h2, rfl⟩
    · rcases hc with ⟨h0, _⟩ | ⟨_, lb, mp, G, he, hw⟩
      · simp at h0
      · simp only at h1 h4
        obtain rfl := h3 rfl
        subst h1 h4
        exact ⟨F', lb, mp, G, _, _, k', he, hw, s, .inr ⟨A, n, f, rfl, ht⟩, fun e => by omega, rfl, rfl, rfl, h2, rfl⟩
    · exact absurd rfl hz
theorem append_mended (hr : r.size ≤ 131072) (h : L.mended D = (0, D1, L1)) (h1 : L1.torn = false) : L.append D r = L1.append D1 r := by
  unfold Lg.append
  have hn : ¬ 131072 < r.size := by omega
  simp only [if_neg hn, h, mended_off h1]
theorem append_stuck (hr : r.size ≤ 131072) (h : L.mended D = (c, D1, L1)) (hc : c ≠ 0) : L.append D r = (c, D1, L1) := by
  unfold Lg.append
  rw [if_neg (by omega), h]
  simp only
  rw [if_pos hc]
/-- What an append leaves of a log that goes on. -/
def LvApp (dir : ByteArray) (size q : Int) (S : List (Nat × Fl)) (r : ByteArray) (k : Nat) (x : Int × Dk × Lg) : Prop :=
  (x.1 = 0 ∨ (x.1 = 24 ∧ 0 ≤ q)) ∧ ∃ S' k', x.2.1 = dkF (dmap dir S' none) q none k' ∧ k' ≤ k + 9 ∧ S'.length ≤ S.length + 1 ∧ lastN S' ≤ lastN S + 1 ∧
    ((x.1 = 0 ∧ Run dir size x.2.2 S' ∧ x.2.2.op ≠ 0 ∧ allR S' = allR S ++ [r]) ∨ (x.1 = 24 ∧ Lv dir size x.2.2 S' ∧ allR S' = allR S))
theorem append_lv (hd : nmB dir = true) (hd40 : dir.size ≤ 40) (hsz : size ≤ 524288) (h : Lv dir size L S) (hr : r.size ≤ 131072) (hS : S.length + 3 ≤ 20000) (hl : lastN S + 1 < 4294967296) (hf : ∀ p ∈ S, p.2.data.size ≤ 1048576) :
    LvApp dir size q S r k (L.append (dkF (dmap dir S none) q none k) r) := by
  have key : ∀ (L : Lg) (S0 : List (Nat × Fl)) (k0 : Nat), Run dir size L S0 → S0.length = S.length → lastN S0 = lastN S → allR S0 = allR S → k0 ≤ k + 6 → LvApp dir size q S r k (L.append (dkF (dmap dir S0 none) q none k0) r) := by
    intro L S0 k0 h h1 h2 h3 h4
    rcases append_run (q := q) (k := k0) hd hd40 hsz h hr (by omega) (by omega) with ⟨e, S', k', e1, e2, e3, e4, e5⟩ | ⟨e, hq, S', k', e1, e2, e3, e4, e5, e6⟩
    · have hfa := app_facts h e3 hr
      exact ⟨.inl e, S', k', e1, by omega, by omega, by omega, .inl ⟨e, e2, e5, by rw [hfa.1, h3]⟩⟩
    · exact ⟨.inr ⟨e, hq⟩, S', k', e1, by omega, by omega, by omega, .inr ⟨e, .inl e2, by rw [e3, h3]⟩⟩
  rcases h with h | ⟨A, n, f, rfl, h⟩
  · exact key L S k h rfl rfl rfl (by omega)
  · have hlast := h.last
    have hlsz : L.left.size ≤ 1048576 := by rw [h.left]; exact Nat.le_trans (goodB_spec f.data).2.2 (hf (n, f) (by simp))
    have hll : A.length + 3 ≤ 20000 := by rw [List.length_append] at hS; simp at hS; omega
    have hme := mended_cases (q := q) (z := none) (k := k) (M := none) (L := L) hd hd40 h.dir h.torn h.rise hlast hlsz hll
    obtain ⟨x, hx⟩ : ∃ x, L.mended (dkF (dmap dir (A ++ [(n, f)]) none) q none k) = x := ⟨_, rfl⟩
    rw [hx] at hme
    obtain ⟨c, D1, L1⟩ := x
    rcases hme with ⟨rfl, ⟨z', k', h1, h2, h3⟩, h4⟩ | ⟨rfl, hq, ⟨z', k', h1, h2, h3⟩, h4⟩ | ⟨_, hz, _⟩
    · simp only at h1 h4
      obtain rfl := h3 rfl
      rw [append_mended hr hx (by rw [h4])]
      rw [h1, h4]
      exact key _ _ k' h.run (by simp) (by rw [lastN_snoc, lastN_snoc]) h.recs h2
    · simp only at h1 h4
      obtain rfl := h3 rfl
      rw [append_stuck hr hx (by decide)]
      exact ⟨.inr ⟨rfl, hq⟩, A ++ [(n, f)], k', h1, by omega, by omega, by omega, .inr ⟨rfl, .inr ⟨A, n, f, rfl, by rw [h4]; exact h⟩, rfl⟩⟩
    · exact absurd rfl hz
theorem c_append_lv (h : WS B w0 w F G db mb lb mp (dkF (dmap dir S none) q none k) L) (hd : nmB dir = true) (hd40 : dir.size ≤ 40) (hsz : size ≤ 524288) (hv : Lv dir size L S) (r : ByteArray) (hrs : r.size ≤ 131072) (hk : k + 60 ≤ 1000000) (hS : S.length + 3 ≤ 20000) (hl : lastN S + 1 < 4294967296) (hlong : L.long ≤ 900000) :
    Calls Tryz.prog 9 #[.pointer (some ⟨lb, 0, none⟩), .string r] w fun e w' => ∃ c D' L' G' F', e = .returned (.int .i64 c) ∧ LvApp dir size q S r k (c, D', L') ∧ WS B w0 w' F' G' db mb lb mp D' L' ∧ Step F F' w w' := by
  have hml : L.m.length = S.length := by rw [hv.m]; unfold mOf; rw [List.length_map]
  have hopk : L.op ≠ 0 → ∃ rs, getL L.m L.op = some rs := by
    intro h0
    rcases hv with hv | ⟨A, n, f, rfl, hv⟩
    · exact hv.opk h0
    · exact absurd hv.op.1 h0
  have hfl : ∀ p ∈ S, p.2.data.size ≤ 1048576 := by
    intro p hp
    have h1 : (segN dir p.1, p.2) ∈ dmap dir S none := by
      unfold dmap
      exact List.mem_append_left _ (List.mem_map.2 ⟨p, hp, rfl⟩)
    exact (h.d.d.ok.syn _ h1).2
  refine (w_append h.l h.d.d h.sub rfl hk (n := lastN S) (by omega) (last_m hv.m) (by omega) r hrs hopk (few_of hv.m h.d.d) hlong).mono ?_
  intro e w' hkp
  obtain ⟨he, G', F', h1, h2⟩ := hkp.acted h
  exact ⟨_, _, _, G', F', he, append_lv hd hd40 hsz hv hrs hS hl hfl, h1, h2⟩
/-- Sync of a log that runs. -/
theorem sync_run (hd : nmB dir = true) (hd40 : dir.size ≤ 40) (h : Run dir size L S) : ∃ S' k', L.sync (dkF (dmap dir S none) q none k) = (0, dkF (dmap dir S' none) q none k') ∧ k' ≤ k + 1 ∧ Run dir size L S' ∧ allR S' = allR S ∧ S'.length = S.length ∧ lastN S' = lastN S ∧ usedS S' = usedS S ∧ (∀ p ∈ S', Synd p.2) ∧ S'.map (fun p => (p.1, p.2.data)) = S.map (fun p => (p.1, p.2.data)) := by
  rcases h.op with ⟨h0, h1, hs⟩ | ⟨A, n, f, rfl, ho, hlong, hs⟩
  · refine ⟨S, k, ?_, by omega, h, rfl, rfl, rfl, rfl, hs, rfl⟩
    unfold Lg.sync
    rw [if_pos h0]
  · have hn1 := (h.rise.mid (B := [])).2.2.1
    have hall : ∀ p ∈ A ++ [(n, (⟨f.data, f.data.size⟩ : Fl))], Synd p.2 := by
      intro p hp
      rcases List.mem_append.1 hp with hp | hp
      · exact hs p hp
      · rw [List.mem_singleton] at hp; subst hp; rfl
    refine ⟨A ++ [(n, ⟨f.data, f.data.size⟩)], k + 1, ?_, Nat.le_refl _, ⟨h.dir, h.size, h.torn, h.left, ?_, h.rise.swap _, ?_, fun p hp => Nat.le_of_eq (hall p hp), .inr ⟨A, n, _, rfl, ho, hlong, hs⟩⟩, ?_, by simp, by rw [lastN_snoc, lastN_snoc], ?_, hall, by simp⟩
    · unfold Lg.sync
      have hz : segZ L.dir L.op = segN dir n := by unfold segZ; rw [h.dir, ho]; rfl
      rw [if_neg (by rw [ho]; omega), hz, dk_sync (segN_nm hd hd40 n) (dmap_get (B := []) h.rise)]
      have ha : (dkF (dmap dir (A ++ [(n, f)]) none) q none k).act (fun m => setL m (segN dir n) ⟨f.data, f.data.size⟩) = (0, dkF (setL (dmap dir (A ++ [(n, f)]) none) (segN dir n) ⟨f.data, f.data.size⟩) q none (k + 1)) := rfl
      rw [ha, dmap_set (B := []) h.rise]
    · rw [h.m, mOf_app, mOf_app]
      rfl
    · intro p hp
      rcases List.mem_append.1 hp with hp | hp
      · exact h.good p (List.mem_append_left _ hp)
      · rw [List.mem_singleton] at hp; subst hp; exact h.good (n, f) (by simp)
    · rw [allR_app, allR_app, allR_one, allR_one]
    · rw [usedS_app, usedS_app, usedS_one, usedS_one]
theorem c_sync_run (h : WS B w0 w F G db mb lb mp (dkF (dmap dir S none) q none k) L) (hd : nmB dir = true) (hd40 : dir.size ≤ 40) (hr : Run dir size L S) (hk : k + 60 ≤ 1000000) :
    Calls Tryz.prog 10 #[.pointer (some ⟨lb, 0, none⟩)] w fun e w' => e = .returned (.int .i64 0) ∧ ∃ S' k', WS B w0 w' F G db mb lb mp (dkF (dmap dir S' none) q none k') L ∧ Step F F w w' ∧ k' ≤ k + 1 ∧ Run dir size L S' ∧ allR S' = allR S ∧ S'.length = S.length ∧ lastN S' = lastN S ∧ usedS S' = usedS S ∧ (∀ p ∈ S', Synd p.2) ∧ S'.map (fun p => (p.1, p.2.data)) = S.map (fun p => (p.1, p.2.data)) := by
  obtain ⟨S', k', h1, h2, h3⟩ := sync_run (q := q) (k := k) hd hd40 hr
  refine (w_sync h.l h.d.d (fun q e => (h.sub q e).2) rfl (by show k < _; omega)).mono ?_
  rintro e w' ⟨he, hd', ht⟩
  rw [h1] at he hd'
  obtain ⟨hw, s⟩ := h.disk hd' ht
  exact ⟨he, S', k', hw, s, h2, h3⟩

theorem cl_used (h : DkAt F w db mb D) {n : Int} (hn : (used D.m : Int) = n) : Calls Tryz.prog 44 #[.pointer (some ⟨db, 0, none⟩)] w fun e w' => e = .returned (.int .i64 n) ∧ Below w.heap.size w w' := by
  rw [← hn]; exact used_any h

end Go.Proofs.YtohigcpcbonaeaaGreatDoor
