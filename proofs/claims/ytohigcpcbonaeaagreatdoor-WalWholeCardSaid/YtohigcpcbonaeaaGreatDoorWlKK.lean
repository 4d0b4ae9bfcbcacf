
/-
  Wal: a law's loop of appends; an append to a log that was opened without a crash ahead.
-/
import Derived.Test.YtohigcpcbonaeaaGreatDoorWm9
set_option linter.unusedSimpArgs false
set_option linter.unusedVariables false
namespace Go.Proofs.YtohigcpcbonaeaaGreatDoor
open Go.RowKit Go.Lib
variable {F F' G G' H : Nat → Prop} {B : Nat} {w w' w0 : World} {lb mp db mb k n : Nat} {L L' : Lg} {D D' : Dk} {S S' : List (Nat × Fl)} {M : Option Fl} {z : Option Fz} {f : Fl} {dir r : ByteArray} {size q c : Int} {done : List ByteArray}

abbrev dW : ByteArray := ⟨#[119]⟩
theorem nm_dW : nmB dW = true := by kernel_rfl
def total (l : List ByteArray) : Nat := (l.map (fun r => 8 + r.size)).sum
theorem total_app (a b : List ByteArray) : total (a ++ b) = total a + total b := by simp [total]
theorem total_one (r : ByteArray) : total [r] = 8 + r.size := by simp [total]
theorem mem_used {p : Nat × Fl} (hp : p ∈ S) : p.2.data.size ≤ usedS S := by
  obtain ⟨A, X, rfl⟩ := List.append_of_mem hp
  rw [usedS_app]
  show _ ≤ _ + (p.2.data.size + usedS X)
  omega
/-- A law's log behind some appends. -/
structure Lp (B : Nat) (w0 w : World) (F G : Nat → Prop) (db mb lb mp : Nat) (size : Int) (S : List (Nat × Fl)) (k : Nat) (L : Lg) (done : List ByteArray) : Prop where
  ws : WS B w0 w F G db mb lb mp (dkF (dmap dW S none) (-1) none k) L
  run : Run dW size L S
  all : allR S = done
  used : usedS S = total done
  last : lastN S ≤ done.length
  len : S.length ≤ done.length
  acts : k ≤ 3 * done.length
  op : done ≠ [] → L.op ≠ 0
theorem Run.long_le (h : Run dir size L S) : L.long ≤ (usedS S : Int) := by
  rcases h.op with ⟨_, e, _⟩ | ⟨A, n, f, rfl, _, e, _⟩
  · omega
  · rw [e]
    have := mem_used (S := A ++ [(n, f)]) (p := (n, f)) (by simp)
    simp only at this
    omega
theorem Lp.stay (h : Lp B w0 w F G db mb lb mp size S k L done) (hb : Below w.heap.size w w') : Lp B w0 w' F G db mb lb mp size S k L done :=
  ⟨h.ws.stay hb, h.run, h.all, h.used, h.last, h.len, h.acts, h.op⟩
theorem Lp.flat (h : Lp B w0 w F G db mb lb mp size S k L done) : L.m.flatMap (·.2) = done := by rw [h.run.flat, h.all]
theorem c_app (h : Lp B w0 w F G db mb lb mp size S k L done) (hsz : size ≤ 524288) (r : ByteArray) (hr : r.size ≤ 1000) (hd : done.length ≤ 1000) (ht : total done ≤ 800000) :
    Calls Tryz.prog 9 #[.pointer (some ⟨lb, 0, none⟩), .string r] w fun e w' => e = .returned (.int .i64 0) ∧ ∃ F' G' S' k' L', Lp B w0 w' F' G' db mb lb mp size S' k' L' (done ++ [r]) ∧ AppS size L S S' r ∧ Step F F' w w' := by
  have h1 := h.len
  have h2 := h.last
  have h3 := h.acts
  have h4 := h.run.long_le
  have h5 := h.used
  refine (cl_append h.ws nm_dW (by decide) hsz h.run r (by omega) (by omega) (by omega) (by omega) (by omega)).mono ?_
  rintro e w' ⟨c, D', L', G', F', rfl, ha, hw, s⟩
  obtain ⟨rfl, S', k', rfl, hr', happ, hk', ho'⟩ := ha.ok
  obtain ⟨f1, f2, f3, f4, f5, f6⟩ := app_facts h.run happ (by omega)
  exact ⟨rfl, F', G', S', k', L', ⟨hw, hr', by rw [f1, h.all], by rw [f2, total_app, total_one, h5], by rw [List.length_append]; simp; omega, by rw [List.length_append]; simp; omega, by rw [List.length_append]; simp; omega, fun _ => ho'⟩, happ, s⟩
theorem c_openw (h : DS B w0 w F db mb (dkF [] (-1) none 0)) (hs1 : 1 ≤ size) (hs2 : size ≤ 524288) :
    Calls Tryz.prog 6 #[.pointer (some ⟨db, 0, none⟩), .string dW, .int .i64 size] w fun e w' => ∃ F' lb mp G, e = .returned (.tuple #[.pointer (some ⟨lb, 0, none⟩), .int .i64 0]) ∧ Lp B w0 w' F' G db mb lb mp size [] 0 (opened dW size []) [] := by
  refine (c_open_good (dir := dW) (S := []) (M := none) (size := size) h nm_dW (by decide) Rise.nil (fun p hp => by simp at hp) (by decide) hs1 hs2 (by decide)).mono ?_
  rintro e w' ⟨F', lb, mp, G, rfl, hw, _⟩
  exact ⟨F', lb, mp, G, rfl, hw, run_opened Rise.nil (fun p hp => by simp at hp) (fun p hp => by simp at hp), rfl, rfl, by decide, by decide, by decide, fun h => absurd rfl h⟩
/-- An append to a log that was opened anew. -/
theorem append_new (hd : nmB dir = true) (hd40 : dir.size ≤ 40) (hr : Rise S) (hrs : r.size ≤ 131072) (hl : S.length < 20000) (hn : lastN S + 1 < 4294967296) :
    (opened dir size S).append (dkF (dmap dir S none) (-1) none k) r = (0, dkF (dmap dir (S ++ [(lastN S + 1, ⟨framed r, 0⟩)]) none) (-1) none (k + 2), ⟨dir, size, mOf (S ++ [(lastN S + 1, ⟨framed r, 0⟩)]), ((lastN S + 1 : Nat) : Int), ((framed r).size : Int), false, ByteArray.empty⟩) := by
  have hlt := lastN_lt hr
  have hll : (dmap dir S none).length < 20000 := by unfold dmap; simp; exact hl
  have hlast : (opened dir size S).last = (lastN S : Int) := by
    unfold Lg.last opened lastN
    simp only
    rw [mOf_keys]
    rcases List.eq_nil_or_concat S with rfl | ⟨A, p, rfl⟩
    · rfl
    · simp
  have hz : segZ dir ((lastN S : Int) + 1) = segN dir (lastN S + 1) := by unfold segZ; rfl
  unfold Lg.append
  rw [if_neg (by omega), mended_off rfl]
  simp only
  rw [if_neg (by decide)]
  have hf : (opened dir size S).full r = false := by unfold Lg.full opened; simp
  rw [hf]
  simp only [Bool.false_eq_true, if_false]
  rw [if_neg (by decide), if_pos (show (opened dir size S).op = 0 from rfl)]
  have hb : (opened dir size S).begin_ (dkF (dmap dir S none) (-1) none k) = (0, dkF (dmap dir (S ++ [(lastN S + 1, ⟨ByteArray.empty, 0⟩)]) none) (-1) none (k + 1), ⟨dir, size, mOf (S ++ [(lastN S + 1, ⟨ByteArray.empty, 0⟩)]), ((lastN S + 1 : Nat) : Int), 0, false, ByteArray.empty⟩) := by
    unfold Lg.begin_
    rw [hlast, if_neg (by omega), show (opened dir size S).dir = dir from rfl, hz, dk_create (segN_nm hd hd40 _) (dmap_get_new hr hlt hn) hll]
    have ha : (dkF (dmap dir S none) (-1) none k).act (fun m => setL m (segN dir (lastN S + 1)) ⟨ByteArray.empty, 0⟩) = (0, dkF (setL (dmap dir S none) (segN dir (lastN S + 1)) ⟨ByteArray.empty, 0⟩) (-1) none (k + 1)) := rfl
    rw [ha, dmap_new hr hlt hn]
    simp only
    rw [if_neg (by decide)]
    have h1 : setL (mOf S) ((lastN S : Int) + 1) [] = mOf (S ++ [(lastN S + 1, ⟨ByteArray.empty, 0⟩)]) := by
      rw [mOf_app]
      exact setL_new' (A := mOf S) (k := ((lastN S + 1 : Nat) : Int)) (v := ([] : List ByteArray)) (mOf_ne hlt)
    show (0, _, _) = _
    congr 2
    unfold opened
    simp only
    rw [h1]
    rfl
  rw [hb]
  simp only
  rw [if_neg (by decide)]
  unfold Lg.lay Lg.at_
  have hr1 : Rise (S ++ [(lastN S + 1, (⟨ByteArray.empty, 0⟩ : Fl))]) := hr.add hlt (by omega) hn _
  have hz2 : segZ dir ((lastN S + 1 : Nat) : Int) = segN dir (lastN S + 1) := rfl
  simp only [hz2]
  rw [dk_append (segN_nm hd hd40 _) (dmap_get (B := []) hr1) (by rw [framed_size]; show 0 + _ ≤ _; omega) (by omega)]
  have ha : (dkF (dmap dir (S ++ [(lastN S + 1, (⟨ByteArray.empty, 0⟩ : Fl))]) none) (-1) none (k + 1)).act (fun m => setL m (segN dir (lastN S + 1)) ⟨ByteArray.empty ++ framed r, 0⟩) = (0, dkF (setL (dmap dir (S ++ [(lastN S + 1, (⟨ByteArray.empty, 0⟩ : Fl))]) none) (segN dir (lastN S + 1)) ⟨ByteArray.empty ++ framed r, 0⟩) (-1) none (k + 2)) := rfl
  rw [ha, dmap_set (B := []) hr1, ByteArray.empty_append]
  simp only
  rw [if_neg (by decide)]
  have hg : getL (mOf (S ++ [(lastN S + 1, (⟨ByteArray.empty, 0⟩ : Fl))])) ((lastN S + 1 : Nat) : Int) = some [] := by
    rw [mOf_app, getL_app_right (mOf_ne hlt)]
    exact getL_one _ _ _
  have hset : setL (mOf (S ++ [(lastN S + 1, (⟨ByteArray.empty, 0⟩ : Fl))])) ((lastN S + 1 : Nat) : Int) [r] = mOf (S ++ [(lastN S + 1, ⟨framed r, 0⟩)]) := by
    rw [mOf_app, mOf_app]
    have h1 := setL_mid (A := mOf S) (B := []) (k := ((lastN S + 1 : Nat) : Int)) (v := recsOf ByteArray.empty) (u := [r]) (mOf_ne hlt) (by simp)
    have h2 : mOf [(lastN S + 1, (⟨framed r, 0⟩ : Fl))] = [(((lastN S + 1 : Nat) : Int), [r])] := by
      unfold mOf
      rw [List.map_singleton, (Good.one hrs).2]
    rw [h2]
    exact h1
  rw [hg]
  simp only [Option.getD_some, List.nil_append]
  rw [hset]
  simp
theorem few_of (hm : L.m = mOf S) (hd : DkAt F w db mb (dkF (dmap dir S M) q z k)) : ∀ p ∈ L.m, p.2.length + 1 ≤ 1000000 := by
  rw [hm]
  intro p hp
  obtain ⟨x, hx, rfl⟩ := List.mem_map.1 hp
  refine recsOf_few ?_
  have h1 : (segN dir x.1, x.2) ∈ dmap dir S M := by
    unfold dmap
    exact List.mem_append_left _ (List.mem_map.2 ⟨x, hx, rfl⟩)
  exact (hd.ok.syn _ h1).2
theorem last_m (hm : L.m = mOf S) : L.last = (lastN S : Int) := by
  unfold Lg.last lastN
  rw [hm, mOf_keys]
  rcases List.eq_nil_or_concat S with rfl | ⟨A, p, rfl⟩
  · rfl
  · simp
theorem flat_m (hm : L.m = mOf S) : L.m.flatMap (·.2) = allR S := by
  rw [hm]
  unfold mOf allR
  rw [List.flatMap_map]
theorem records_all (hr : Rise S) (hm : L.m = mOf S) : L.records 0 = allR S := by
  unfold Lg.records
  rw [← flat_m hm, hm]
  congr 1
  refine List.filter_eq_self.2 (fun p hp => ?_)
  obtain ⟨x, hx, rfl⟩ := List.mem_map.1 hp
  simp
theorem records_new (hr : Rise S) (hrs : r.size ≤ 131072) {f : Fl} (hf : f.data = framed r) (hm : L.m = mOf (S ++ [(lastN S + 1, f)])) : L.records ((lastN S : Int) + 1) = [r] := by
  unfold Lg.records
  rw [hm, mOf_app, List.filter_append]
  have h1 : (mOf S).filter (fun p => decide ((lastN S : Int) + 1 ≤ p.1)) = [] := by
    refine List.filter_eq_nil_iff.2 (fun p hp => ?_)
    obtain ⟨x, hx, rfl⟩ := List.mem_map.1 hp
    have := lastN_lt hr x hx
    simp
    omega
  rw [h1]
  have h2 := (Good.one hrs).2
  rw [← hf] at h2
  simp [mOf, h2]
theorem c_appnew (h : WS B w0 w F G db mb lb mp (dkF (dmap dir S none) (-1) none k) (opened dir size S)) (hd : nmB dir = true) (hd40 : dir.size ≤ 40) (hr : Rise S) (r : ByteArray) (hrs : r.size ≤ 131072) (hk : k + 60 ≤ 1000000) (hl : S.length < 20000) (hn : lastN S + 1 < 4294967296) :
    Calls Tryz.prog 9 #[.pointer (some ⟨lb, 0, none⟩), .string r] w fun e w' => e = .returned (.int .i64 0) ∧ ∃ F' G' L' D', WS B w0 w' F' G' db mb lb mp D' L' ∧ L'.m = mOf (S ++ [(lastN S + 1, ⟨framed r, 0⟩)]) := by
  have hml : (opened dir size S).m.length = S.length := by unfold opened mOf; rw [List.length_map]
  refine (w_append h.l h.d.d h.sub rfl hk (n := lastN S) (by omega) (last_m rfl) (by omega) r hrs (fun e => absurd rfl e) (few_of rfl h.d.d) (show (0 : Int) ≤ 900000 by decide)).mono ?_
  intro e w' hkp
  obtain ⟨he, G', F', h1, h2⟩ := hkp.acted h
  rw [append_new hd hd40 hr hrs hl hn] at he h1
  exact ⟨he, F', G', _, _, h1, rfl⟩
theorem total_le {l : List ByteArray} {m : Nat} (h : ∀ r ∈ l, r.size ≤ m) : total l ≤ (8 + m) * l.length := by
  induction l with
  | nil => exact Nat.zero_le _
  | cons a l ih =>
    have h1 := ih (fun r hr => h r (List.mem_cons_of_mem _ hr))
    have h2 := h a List.mem_cons_self
    have h3 : total (a :: l) = (8 + a.size) + total l := rfl
    rw [h3, List.length_cons, Nat.mul_add]
    omega
end Go.Proofs.YtohigcpcbonaeaaGreatDoor
