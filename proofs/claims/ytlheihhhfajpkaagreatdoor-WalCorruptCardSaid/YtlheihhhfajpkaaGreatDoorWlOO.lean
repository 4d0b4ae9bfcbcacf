/-
  Wal, plain: a record's byte that is changed is told.
-/
import Derived.Test.YtlheihhhfajpkaaGreatDoorWlNN
set_option linter.unusedSimpArgs false
set_option linter.unusedVariables false
namespace Go.Proofs.YtlheihhhfajpkaaGreatDoor
open Go.RowKit Go.Lib
variable {F F' G G' H : Nat → Prop} {B : Nat} {w w' w0 : World} {lb mp db mb k n : Nat} {L L' : Lg} {D D' : Dk} {S S' : List (Nat × Fl)} {f : Fl} {dir r : ByteArray} {size q c : Int}

theorem recOf_turned (r : List UInt8) (j : Nat) (c : UInt8) (hj : j < r.length) (hc : r[j] ≠ c) (hr : r.length ≤ 131072) : recOf ((frameL r).set (8 + j) c) = none := by
  have hl := frame_len r
  cases hx : recOf ((frameL r).set (8 + j) c) with
  | none => rfl
  | some x =>
    exfalso
    obtain ⟨h1, h2, h3⟩ := recOf_some hx
    have h4 : ((frameL r).set (8 + j) c).take 4 = Rw.beF 4 (r.length + 1) := by
      rw [List.take_set_of_le (by omega)]
      have := take4 r []
      rwa [List.append_nil] at this
    have h5 : x.length = r.length := by
      rw [h1, take4] at h4
      have := beF_inj (by omega) (by omega) h4
      omega
    have h6 : ((frameL r).set (8 + j) c).drop (8 + x.length) = [] := List.drop_eq_nil_of_le (by rw [List.length_set]; omega)
    rw [h6, List.append_nil] at h1
    have h7 : (frameL r).set (8 + j) c = Rw.beF 4 (r.length + 1) ++ sumL r ++ r.set j c := by
      unfold frameL
      rw [List.set_append_right _ _ (by rw [List.length_append, Rw.beF_len, sumL_len]; omega)]
      congr 2
      rw [List.length_append, Rw.beF_len, sumL_len]
      omega
    rw [h7] at h1
    have hx2 : frameL x = Rw.beF 4 (r.length + 1) ++ sumL x ++ x := by unfold frameL; rw [h5]
    rw [hx2] at h1
    have h8 := List.append_inj h1 (by rw [List.length_append, List.length_append, sumL_len, sumL_len])
    have h9 : sumL r = sumL x := List.append_cancel_left h8.1
    have h10 : x = r.set j c := h8.2.symm
    unfold sumL at h9
    rw [h5] at h9
    have h11 := beF_inj (Rw.sumF_lt _) (Rw.sumF_lt _) h9
    rw [h10] at h11
    have h12 : Rw.beF 4 (r.length + 1) ++ r.set j c = (Rw.beF 4 (r.length + 1) ++ r).set (4 + j) c := by
      rw [List.set_append_right _ _ (by rw [Rw.beF_len]; omega), Rw.beF_len]
      congr 2
      omega
    rw [h12] at h11
    refine Rw.sumF_set _ (4 + j) (by rw [List.length_append, Rw.beF_len]; omega) c ?_ h11
    rw [List.getElem_append_right (by rw [Rw.beF_len]; omega)]
    have e : 4 + j - (Rw.beF 4 (r.length + 1)).length = j := by rw [Rw.beF_len]; omega
    simp only [e]
    exact hc
/-- A file of one record of which a byte was changed. -/
theorem not_good {b r : ByteArray} {j : Nat} {c : UInt8} (hj : j < r.data.toList.length) (hc : r.data.toList[j] ≠ c) (hr : r.size ≤ 131072) (hb : b.data.toList = (framed r).data.toList.set (8 + j) c) : ¬ Good b := by
  intro hg
  have h1 := hg.whole
  have h2 : scan b.data.toList = ([], 0) := scan_none (by rw [hb, framed_list]; exact recOf_turned _ j c hj hc (by rw [← ba_size]; exact hr))
  unfold goodN at h1
  rw [h2] at h1
  have h3 : b.size = 8 + r.size := by rw [ba_size, hb, List.length_set, ← ba_size, framed_size]
  simp only at h1
  omega
/-- Each segment holds one record. -/
def OneS (S : List (Nat × Fl)) (l : List ByteArray) : Prop := S.map (fun p => p.2.data) = l.map framed
theorem OneS.len {l : List ByteArray} (h : OneS S l) : S.length = l.length := by
  have := congrArg List.length h
  simpa using this
theorem OneS.step {l : List ByteArray} (h : OneS S l) (ha : AppS 1 L S S' r) : OneS S' (l ++ [r]) := by
  unfold OneS at h ⊢
  rw [List.map_append]
  rcases ha with ⟨A, n, f, rfl, _, hn, rfl⟩ | ⟨A, n, f, rfl, _, _, _, rfl⟩ | ⟨_, rfl⟩
  · exfalso
    have h1 : f.data ∈ (A ++ [(n, f)]).map (fun p => p.2.data) := by simp
    rw [h] at h1
    obtain ⟨x, _, hx⟩ := List.mem_map.1 h1
    have h2 := framed_size x
    rw [hx] at h2
    have h3 := framed_size r
    exact hn ⟨by omega, by omega⟩
  · rw [← h]
    simp
  · rw [← h]
    simp
theorem OneS.at_ {l : List ByteArray} (h : OneS S l) {i : Nat} (hi : i < S.length) (hil : i < l.length) : S[i].2.data = framed l[i] := by
  have h1 : (S.map (fun p => p.2.data))[i]? = (l.map framed)[i]? := by rw [h]
  rw [List.getElem?_map, List.getElem?_map, List.getElem?_eq_getElem hi, List.getElem?_eq_getElem hil] at h1
  exact Option.some.inj h1
theorem segN_ne {A X : List (Nat × Fl)} (h : Rise (A ++ (n, f) :: X)) : ∀ p ∈ dmap dir (A ++ X) none, p.1 ≠ segN dir n := by
  intro p hp e
  unfold dmap at hp
  rw [List.append_nil] at hp
  obtain ⟨x, hx, rfl⟩ := List.mem_map.1 hp
  have hm := h.mid
  have hxs : x ∈ A ++ (n, f) :: X := by
    rcases List.mem_append.1 hx with hx | hx
    · exact List.mem_append_left _ hx
    · exact List.mem_append_right _ (List.mem_cons_of_mem _ hx)
  have e2 := segN_inj (h.rng x hxs).2 hm.2.2.2 e
  rcases List.mem_append.1 hx with hx | hx
  · have := hm.1 x hx; omega
  · have := hm.2.1 x hx; omega
/-- A segment was taken away and laid anew: the disk has it at its end. -/
theorem segD_back {A X : List (Nat × Fl)} {f' : Fl} (hd : nmB dir = true) (hd40 : dir.size ≤ 40) (h : Rise (A ++ (n, f) :: X)) (hl : (A ++ (n, f) :: X).length < 20000) : SegD (dkF (dmap dir (A ++ X) none ++ [(segN dir n, f')]) q none k) dir (A ++ (n, f') :: X) := by
  have hr := h.swap f'
  have hne := segN_ne (dir := dir) h
  refine ⟨hr, ?_, fun p hp => ?_, hd, hd40, by simpa using hl⟩
  · unfold Dk.list
    rw [if_pos (show (dkF (dmap dir (A ++ X) none ++ [(segN dir n, f')]) q none k).on = true from rfl)]
    have hn : (dkF (dmap dir (A ++ X) none ++ [(segN dir n, f')]) q none k).names = sortB ((dmap dir (A ++ X) none ++ [(segN dir n, f')]).map (·.1)) := rfl
    rw [hn]
    refine sorted_unique ?_ ?_ ?_
    · refine ((sortB_perm _).filter _).trans ?_
      have h0 : (dmap dir (A ++ X) none ++ [(segN dir n, f')]).map (·.1) = (A ++ X).map (fun p => segN dir p.1) ++ [segN dir n] := by
        rw [List.map_append, dmap_keys]
        simp
      have h1 : ((A ++ X).map (fun p => segN dir p.1) ++ [segN dir n]).filter (fun s => (dir ++ tW).data.toList.isPrefixOf s.data.toList) = (A ++ X).map (fun p => segN dir p.1) ++ [segN dir n] := by
        refine List.filter_eq_self.2 (fun s hs => ?_)
        rcases List.mem_append.1 hs with hs | hs
        · obtain ⟨p, _, rfl⟩ := List.mem_map.1 hs
          exact segN_pre dir p.1
        · rw [List.mem_singleton] at hs
          subst hs
          exact segN_pre dir n
      rw [h0, h1, List.map_append, List.map_append, List.map_cons, List.append_assoc]
      exact List.Perm.append_left _ (List.perm_append_singleton _ _)
    · exact List.Pairwise.filter _ (sortB_sorted _)
    · have h1 := hr.lt
      rw [List.pairwise_map] at h1 ⊢
      exact List.Pairwise.imp_of_mem (fun ha hb hab => leq_segN (hr.rng _ hb).2 hab) h1
  · show getL (dmap dir (A ++ X) none ++ [(segN dir n, f')]) (segN dir p.1) = some p.2
    by_cases hpn : p.1 = n
    · have hpe : p = (n, f') := by
        have hm := hr.mid
        rcases List.mem_append.1 hp with hp | hp
        · have := hm.1 p hp; omega
        · rcases List.mem_cons.1 hp with hp | hp
          · exact hp
          · have := hm.2.1 p hp; omega
      subst hpe
      rw [getL_app_right hne]
      exact getL_one _ _ _
    · have hpx : p ∈ A ++ X := by
        rcases List.mem_append.1 hp with hp | hp
        · exact List.mem_append_left _ hp
        · rcases List.mem_cons.1 hp with hp | hp
          · rw [hp] at hpn; exact absurd rfl hpn
          · exact List.mem_append_right _ hp
      have hrx : Rise (A ++ X) := ⟨List.Pairwise.sublist ((List.Sublist.append_left (List.sublist_cons_self _ _) A).map _) h.lt, fun x hx => h.rng x (by
        rcases List.mem_append.1 hx with hx | hx
        · exact List.mem_append_left _ hx
        · exact List.mem_append_right _ (List.mem_cons_of_mem _ hx))⟩
      rw [getL_app_left (fun x hx => by
        rw [List.mem_singleton] at hx
        subst hx
        intro e
        exact hpn (segN_inj h.mid.2.2.2 (hr.rng p hp).2 e).symm)]
      obtain ⟨A', X', e⟩ := mid_of hpx
      rw [e] at hrx ⊢
      exact dmap_get hrx
theorem back_remove {A X : List (Nat × Fl)} (hd : nmB dir = true) (hd40 : dir.size ≤ 40) (h : Rise (A ++ (n, f) :: X)) : (dkF (dmap dir (A ++ (n, f) :: X) none) (-1) none k).remove (segN dir n) = (0, dkF (dmap dir (A ++ X) none) (-1) none (k + 1)) := by
  rw [dk_remove (segN_nm hd hd40 n) (dmap_get h)]
  have ha : (dkF (dmap dir (A ++ (n, f) :: X) none) (-1) none k).act (fun m => delL m (segN dir n)) = (0, dkF (delL (dmap dir (A ++ (n, f) :: X) none) (segN dir n)) (-1) none (k + 1)) := rfl
  rw [ha, dmap_del h]
theorem back_create {A X : List (Nat × Fl)} (hd : nmB dir = true) (hd40 : dir.size ≤ 40) (h : Rise (A ++ (n, f) :: X)) (hl : (A ++ X).length < 20000) : (dkF (dmap dir (A ++ X) none) (-1) none k).create (segN dir n) = (0, dkF (dmap dir (A ++ X) none ++ [(segN dir n, ⟨ByteArray.empty, 0⟩)]) (-1) none (k + 1)) := by
  have hne := segN_ne (dir := dir) h
  rw [dk_create (segN_nm hd hd40 n) (getL_none hne) (by unfold dmap; simpa using hl)]
  have ha : (dkF (dmap dir (A ++ X) none) (-1) none k).act (fun m => setL m (segN dir n) ⟨ByteArray.empty, 0⟩) = (0, dkF (setL (dmap dir (A ++ X) none) (segN dir n) ⟨ByteArray.empty, 0⟩) (-1) none (k + 1)) := rfl
  rw [ha, setL_new' hne]
theorem back_append {A X : List (Nat × Fl)} {b : ByteArray} (hd : nmB dir = true) (hd40 : dir.size ≤ 40) (h : Rise (A ++ (n, f) :: X)) (hb : b.size ≤ 1048576) : (dkF (dmap dir (A ++ X) none ++ [(segN dir n, ⟨ByteArray.empty, 0⟩)]) (-1) none k).app (segN dir n) b = (0, dkF (dmap dir (A ++ X) none ++ [(segN dir n, ⟨b, 0⟩)]) (-1) none (k + 1)) := by
  have hne := segN_ne (dir := dir) h
  have hg : getL (dmap dir (A ++ X) none ++ [(segN dir n, (⟨ByteArray.empty, 0⟩ : Fl))]) (segN dir n) = some ⟨ByteArray.empty, 0⟩ := by
    rw [getL_app_right hne]
    exact getL_one _ _ _
  rw [dk_append (segN_nm hd hd40 n) hg (by show 0 + _ ≤ _; omega) (by omega)]
  have ha : (dkF (dmap dir (A ++ X) none ++ [(segN dir n, (⟨ByteArray.empty, 0⟩ : Fl))]) (-1) none k).act (fun m => setL m (segN dir n) ⟨ByteArray.empty ++ b, 0⟩) = (0, dkF (setL (dmap dir (A ++ X) none ++ [(segN dir n, (⟨ByteArray.empty, 0⟩ : Fl))]) (segN dir n) ⟨ByteArray.empty ++ b, 0⟩) (-1) none (k + 1)) := rfl
  rw [ha, ByteArray.empty_append]
  have h2 := setL_mid (A := dmap dir (A ++ X) none) (B := []) (k := segN dir n) (v := (⟨ByteArray.empty, 0⟩ : Fl)) (u := (⟨b, 0⟩ : Fl)) hne (by simp)
  rw [h2]
/-- Opened: a segment ahead of the last one is spoilt; the disk lies as it may. -/
theorem c_open_spoilt {A X : List (Nat × Fl)} (h : DS B w0 w F db mb D) (hon : D.on = true) (ha : D.acts + 20 ≤ 1000000) (hs : SegD D dir (A ++ (n, f) :: X)) (hng : ¬ Good f.data) (hX : X ≠ []) (hs1 : 1 ≤ size) (hs2 : size ≤ 524288) :
    Calls Tryz.prog 12 #[.pointer (some ⟨db, 0, none⟩), .string dir, .int .i64 size] w fun e w' => e = .returned (.tuple #[.pointer none, .int .i64 31]) ∧ ∃ F', DS B w0 w' F' db mb D := by
  refine (open_any h.d hon ha hs hs1 hs2).mono ?_
  intro e w' ho
  obtain ⟨F', s, _, hc⟩ := OpenE.opened h ho
  rcases hc with ⟨_, he, hw⟩ | ⟨L, hls, hc⟩
  · exact ⟨he, F', hw⟩
  · exfalso
    rcases hls with ⟨_, hg⟩ | ⟨_, A', n', f', e, hA, _⟩
    · rw [List.take_length] at hg
      exact hng (hg (n, f) (by simp))
    · obtain ⟨X', y, rfl⟩ : ∃ X' y, X = X' ++ [y] := by
        rcases List.eq_nil_or_concat X with h | ⟨l, y, h⟩
        · exact absurd h hX
        · exact ⟨l, y, by rw [h, List.concat_eq_append]⟩
      have e2 : A ++ (n, f) :: (X' ++ [y]) = (A ++ (n, f) :: X') ++ [y] := by simp
      rw [e2] at e
      have e3 := List.append_inj_left' e rfl
      exact hng (hA (n, f) (by rw [← e3]; simp))
theorem and_mask (a : Int) : ∃ q : Nat, bits .and .i64 a 1023 = (q : Int) ∧ q ≤ 1023 := by
  refine ⟨((a % 2 ^ 64).toNat &&& 1023), ?_, Nat.and_le_right⟩
  have h := Nat.and_le_right (n := (a % 2 ^ 64).toNat) (m := 1023)
  unfold bits
  show IntKind.i64.wrap (((a % 2 ^ 64).toNat &&& ((1023 : Int) % 2 ^ 64).toNat : Nat) : Int) = _
  have e : ((1023 : Int) % 2 ^ 64).toNat = 1023 := by decide
  rw [e]
  obtain ⟨q, hq⟩ : ∃ q, (a % 2 ^ 64).toNat &&& 1023 = q := ⟨_, rfl⟩
  rw [hq] at h ⊢
  exact IntWalk.i64_in _ (by omega)
end Go.Proofs.YtlheihhhfajpkaaGreatDoor
