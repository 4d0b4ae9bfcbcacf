import Derived.Test.YtohigcpcbonaeaaGreatDoorWm8
import Derived.StillTailTactics
/-
  Wal: what a law holds: a disk, a log, texts; what the calls make of them.
-/
namespace Go.Proofs.YtohigcpcbonaeaaGreatDoor
open Go.RowKit Go.Maps Go.Sort Go.Shelf

def StrsAt (w : World) (a : Option Addr) (len : Nat) (l : List ByteArray) : Prop :=
  l.length = len ∧ (len = 0 ∨ ∃ b off, a = some ⟨b, off, none⟩ ∧ b < w.heap.size ∧ ∀ i (hi : i < l.length), w.cell? ⟨b, off + i, none⟩ = some (.string l[i])) ∧ ∀ s ∈ l, s.size ≤ maxLen
variable {F F' G G' H : Nat → Prop} {B : Nat} {w w' w0 : World} {lb mp db mb : Nat} {L L' : Lg} {D D' : Dk} {S : List (Nat × Fl)} {dir : ByteArray} {x y : Value} {l : List ByteArray}

theorem StrsAt.rd {a : Option Addr} {len cap : Nat} (h : StrsAt w a len l) : RdT w (.slice a len cap) l := by
  obtain ⟨rfl, h2, _⟩ := h
  refine ⟨a, cap, rfl, ?_⟩
  rcases h2 with h2 | h2
  · exact .inl (List.eq_nil_of_length_eq_zero h2)
  · exact .inr h2
theorem rdT_own {v : Value} (h : Own eStr w B v l) : RdT w v l := by
  have h0 := h
  obtain ⟨h1, h2⟩ := h
  rcases h2 with ⟨rfl, h3⟩ | ⟨g, cap', cur, rfl, hg, hh, hn', hc, hcl, htk⟩
  · obtain rfl := List.eq_nil_of_length_eq_zero h3
    exact ⟨none, 0, rfl, .inl rfl⟩
  · refine ⟨_, cap', rfl, .inr ⟨g, 0, rfl, (Array.getElem?_eq_some_iff.1 hh).1, fun i hi => ?_⟩⟩
    have := h0.cellAt i (by omega)
    rw [Nat.zero_add, this]
    have h4 := eStr.get l i 0 hi (by omega)
    rw [Nat.mul_one, Nat.add_zero] at h4
    rw [h4]
    rfl
/-- The first texts. -/
theorem RdT.take {a : Option Addr} {n c k : Nat} (h : RdT w (.slice a n c) l) (hk : k ≤ n) (c' : Nat) : RdT w (.slice a k c') (l.take k) := by
  obtain ⟨a', c2, e, h⟩ := h
  injection e with e1 e2 e3
  subst e1 e2
  refine ⟨a, c', by rw [List.length_take]; congr 1; omega, ?_⟩
  rcases h with rfl | ⟨b, off, ha, hb, hc⟩
  · exact .inl (by simp)
  · refine .inr ⟨b, off, ha, hb, fun i hi => ?_⟩
    rw [List.length_take] at hi
    rw [List.getElem_take]
    exact hc i (by omega)
theorem RdT.drewN (h : RdT w x l) (n : Nat) : RdT (w.drewN n) x l := h
set_option maxHeartbeats 400000 in
theorem same_Texts (hx : RdT w x l) (hy : RdT w y l) (hl : l.length ≤ 1000000) : Calls Tryz.prog 7 #[x, y] w fun e w' => e = .returned (.bool true) ∧ ∃ a, w' = w.drewN a := by
  obtain ⟨a1, c1, rfl, h1⟩ := hx
  obtain ⟨a2, c2, rfl, h2⟩ := hy
  obtain ⟨n, hn⟩ : ∃ n, n = l.length := ⟨_, rfl⟩
  rw [← hn] at hl ⊢
  have HN := Lib.hid hn
  have H := Lib.hid (And.intro h1 h2)
  clear hn h1 h2
  have t0 : ((n : Int) != (n : Int)) = false := by simp
  have t0b : (n != n) = false := by simp
  go_enter Tryz.func7, Tryz.ntmps7
  go_wp2
  go_loopw [5] (fun iv wr => ∃ i : Nat, i ≤ n ∧ iv = .int .i64 (i : Int) ∧ ∃ a, wr = w.drewN a) (fun iv _ => n - (intOf iv).toNat)
  case atStart => exact ⟨0, by omega, rfl, 0, rfl⟩
  case round =>
    obtain ⟨i, hi, rfl, a, rfl⟩ := hrel
    by_cases hlt : i < n
    · have hil : i < l.length := by have := HN.out; omega
      obtain ⟨b1, o1, rfl, l1, k1⟩ := H.out.1.resolve_left (fun e => by rw [e] at hil; simp at hil)
      obtain ⟨b2, o2, rfl, l2, k2⟩ := H.out.2.resolve_left (fun e => by rw [e] at hil; simp at hil)
      have d1 := k1 i hil
      have d2 := k2 i hil
      obtain ⟨u, hu⟩ : ∃ u, l[i] = u := ⟨_, rfl⟩
      rw [hu] at d1 d2
      have t1 : (u.toList == u.toList) = true := by simp
      have r1 : (i : Int) < (n : Int) := by omega
      clear k1 k2 hu
      go_wp2
      go_quiet (fail)
      go_wp2
      go_roundw
      case rel => exact ⟨i + 1, by omega, by go_num, _, rfl⟩
      case measure => simp [intOf]; omega
    · obtain rfl : i = n := by omega
      go_wp2
      go_ret
      exact ⟨rfl, _, rfl⟩
/-- Texts in a block that F has not. -/
def RdX (F : Nat → Prop) (w : World) (x : Value) (l : List ByteArray) : Prop := ∃ a c, x = .slice a l.length c ∧ (l = [] ∨ ∃ b off, a = some ⟨b, off, none⟩ ∧ ¬ F b ∧ b < w.heap.size ∧ ∀ i (hi : i < l.length), w.cell? ⟨b, off + i, none⟩ = some (.string l[i]))
theorem RdX.rd (h : RdX F w x l) : RdT w x l := by
  obtain ⟨a, c, hx, h⟩ := h
  exact ⟨a, c, hx, h.imp id (fun ⟨b, off, h1, h2, h3⟩ => ⟨b, off, h1, h3⟩)⟩
theorem RdX.step (h : RdX F w x l) (ht : Tn H w w') (hH : ∀ q, q < w.heap.size → H q → F q) (hF : ∀ q, F' q → F q ∨ w.heap.size ≤ q) : RdX F' w' x l := by
  obtain ⟨a, c, hx, h⟩ := h
  refine ⟨a, c, hx, h.imp id (fun ⟨b, off, h1, h2, h3, h4⟩ => ⟨b, off, h1, fun hf => (hF b hf).elim h2 (fun e => by omega), Nat.lt_of_lt_of_le h3 ht.size, fun i hi => ht.cell (h4 i hi) (fun e => h2 (hH b h3 e))⟩)⟩
theorem rdX_own {v : Value} (h : Own eStr w B v l) (hF : ∀ q, F q → q < B) : RdX F w v l := by
  have h0 := h
  obtain ⟨h1, h2⟩ := h
  rcases h2 with ⟨rfl, h3⟩ | ⟨g, cap', cur, rfl, hg, hh, hn', hc, hcl, htk⟩
  · obtain rfl := List.eq_nil_of_length_eq_zero h3
    exact ⟨none, 0, rfl, .inl rfl⟩
  · refine ⟨_, cap', rfl, .inr ⟨g, 0, rfl, fun e => by have := hF g e; omega, (Array.getElem?_eq_some_iff.1 hh).1, fun i hi => ?_⟩⟩
    have := h0.cellAt i (by omega)
    rw [Nat.zero_add, this]
    have h4 := eStr.get l i 0 hi (by omega)
    rw [Nat.mul_one, Nat.add_zero] at h4
    rw [h4]
    rfl

/-- A law's disk: all of it is new. -/
structure DS (B : Nat) (w0 w : World) (F : Nat → Prop) (db mb : Nat) (D : Dk) : Prop where
  d : DkAt F w db mb D
  new : ∀ q, F q → B ≤ q
  b : Below B w0 w
  hz : B ≤ w.heap.size
/-- A law's log on its disk. -/
structure WS (B : Nat) (w0 w : World) (F G : Nat → Prop) (db mb lb mp : Nat) (D : Dk) (L : Lg) : Prop where
  d : DS B w0 w F db mb D
  l : LoAt G w lb mp db L
  sub : ∀ q, G q → F q ∧ ¬ two db mb q
/-- From one world to a later one: what F has turned, and it grew by new blocks. -/
structure Step (F F' : Nat → Prop) (w w' : World) : Prop where
  t : Tn F w w'
  g : ∀ q, F q → F' q
  n : ∀ q, F' q → F q ∨ w.heap.size ≤ q
theorem Step.trans {F'' : Nat → Prop} {w'' : World} (h : Step F F' w w') (k : Step F' F'' w' w'') : Step F F'' w w'' :=
  ⟨h.t.andThen k.t h.n, fun q e => k.g q (h.g q e), fun q e => (k.n q e).elim (h.n q) (fun e => .inr (Nat.le_trans h.t.size e))⟩
theorem Step.refl : Step F F w w := ⟨Tn.refl _ _, fun _ h => h, fun _ h => .inl h⟩
theorem Step.below (h : Below w.heap.size w w') : Step F F w w' := ⟨Tn.ofBelow h, fun _ h => h, fun _ h => .inl h⟩
theorem RdX.go (h : RdX F w x l) (s : Step F F' w w') : RdX F' w' x l := h.step s.t (fun _ _ e => e) s.n
theorem DS.dk2 (h : DS B w0 w F db mb D) : ∀ q, two db mb q → F q := fun q e => by
  rcases e with rfl | rfl
  · exact h.d.fd
  · exact h.d.fm
theorem DS.go (h : DS B w0 w F db mb D) (hd : DkAt F' w' db mb D') (s : Step F F' w w') : DS B w0 w' F' db mb D' :=
  ⟨hd, fun q e => (s.n q e).elim (h.new q) (fun e => Nat.le_trans h.hz e), h.b.trans (s.t.below h.hz h.new), Nat.le_trans h.hz s.t.size⟩
theorem DS.stay (h : DS B w0 w F db mb D) (hb : Below w.heap.size w w') : DS B w0 w' F db mb D := h.go (h.d.below hb) (.below hb)
theorem WS.stay (h : WS B w0 w F G db mb lb mp D L) (hb : Below w.heap.size w w') : WS B w0 w' F G db mb lb mp D L := ⟨h.d.stay hb, h.l.below hb, h.sub⟩
/-- The disk alone turned. -/
theorem WS.disk (h : WS B w0 w F G db mb lb mp D L) (hd : DkAt F w' db mb D') (t : Tn (two db mb) w w') : WS B w0 w' F G db mb lb mp D' L ∧ Step F F w w' := by
  have s : Step F F w w' := ⟨t.mono h.d.dk2, fun _ h => h, fun _ h => .inl h⟩
  exact ⟨⟨h.d.go hd s, h.l.tn t (fun q e => (h.sub q e).2), h.sub⟩, s⟩
theorem DS.disk (h : DS B w0 w F db mb D) (hd : DkAt F w' db mb D') (t : Tn (two db mb) w w') : DS B w0 w' F db mb D' ∧ Step F F w w' := by
  have s : Step F F w w' := ⟨t.mono h.dk2, fun _ h => h, fun _ h => .inl h⟩
  exact ⟨h.go hd s, s⟩
/-- What a call on a log leaves a law. -/
def Acted (B : Nat) (w0 w w' : World) (F : Nat → Prop) (db mb lb mp : Nat) (r : Int × Dk × Lg) (e : Ending) : Prop :=
  e = .returned (.int .i64 r.1) ∧ ∃ G' F' : Nat → Prop, WS B w0 w' F' G' db mb lb mp r.2.1 r.2.2 ∧ Step F F' w w'
theorem Kept.acted {e : Ending} {r : Int × Dk × Lg} (h : WS B w0 w F G db mb lb mp D L) (k : Kept G F w w' lb mp db mb e r) : Acted B w0 w w' F db mb lb mp r e := by
  obtain ⟨he, G', F', h1, h2, h3, h4, h5, _, h7⟩ := k
  have s : Step F F' w w' := ⟨h7.mono (fun q e => e.elim (h.d.dk2 q) (fun e => (h.sub q e).1)), h4, h5⟩
  exact ⟨he, G', F', ⟨h.d.go h1 s, h2, h3⟩, s⟩
/-- What Open leaves a law. -/
def Opened (B : Nat) (w0 w w' : World) (F : Nat → Prop) (db mb : Nat) (D : Dk) (S : List (Nat × Fl)) (L0 : Lg) (e : Ending) : Prop :=
  ∃ F' : Nat → Prop, Step F F' w w' ∧ Tn (two db mb) w w' ∧
  ((Spoilt S ∧ e = .returned (.tuple #[.pointer none, .int .i64 31]) ∧ DS B w0 w' F' db mb D) ∨
   ∃ L, LdS L0 S S.length L ∧
     (((L.mended D).1 ≠ 0 ∧ (L.mended D).1 ≠ 24 ∧ e = .returned (.tuple #[.pointer none, .int .i64 (L.mended D).1]) ∧ DS B w0 w' F' db mb (L.mended D).2.1) ∨
      (((L.mended D).1 = 0 ∨ (L.mended D).1 = 24) ∧ ∃ (lb mp : Nat) (G : Nat → Prop), e = .returned (.tuple #[.pointer (some ⟨lb, 0, none⟩), .int .i64 0]) ∧ WS B w0 w' F' G db mb lb mp (L.mended D).2.1 (L.mended D).2.2)))
theorem OpenE.opened {e : Ending} {L0 : Lg} (h : DS B w0 w F db mb D) (k : OpenE F w w' db mb D S L0 e) : Opened B w0 w w' F db mb D S L0 e := by
  obtain ⟨F', h1, h2, h3, h4⟩ := k
  have s : Step F F' w w' := ⟨h3.mono h.dk2, h1, h2⟩
  refine ⟨F', s, h3, ?_⟩
  rcases h4 with ⟨a, b, c⟩ | ⟨L, hl, h5⟩
  · exact .inl ⟨a, b, h.go c s⟩
  · refine .inr ⟨L, hl, ?_⟩
    rcases h5 with ⟨a, b, c, d⟩ | ⟨a, lb, mp, G, b, c, d, e⟩
    · exact .inl ⟨a, b, c, h.go d s⟩
    · exact .inr ⟨a, lb, mp, G, b, ⟨h.go c s, d, fun q hq => ⟨(e q hq).1, (e q hq).2.1⟩⟩⟩
/-- A log beside one that was opened. -/
theorem WS.beside (h : WS B w0 w F G db mb lb mp D L) (hd : DS B w0 w' F' db mb D') (s : Step F F' w w') (t : Tn (two db mb) w w') : WS B w0 w' F' G db mb lb mp D' L :=
  ⟨hd, h.l.tn t (fun q e => (h.sub q e).2), fun q e => ⟨s.g q (h.sub q e).1, (h.sub q e).2⟩⟩
theorem c_newd (h : Below w0.heap.size w0 w) : Calls Tryz.prog 5 #[] w fun e w' => e = .returned (.pointer (some ⟨w.heap.size + 1, 0, none⟩)) ∧ DS w0.heap.size w0 w' (two (w.heap.size + 1) w.heap.size) (w.heap.size + 1) w.heap.size (dkF [] (-1) none 0) ∧ Below w.heap.size w w' := by
  refine (new_any w).mono ?_
  rintro e w' ⟨he, h1, h2, h3⟩
  have := h.size
  exact ⟨he, ⟨h1, fun q e => by rcases e with rfl | rfl <;> omega, h.trans (h2.mono h.size), by omega⟩, h2⟩
end Go.Proofs.YtohigcpcbonaeaaGreatDoor
/-
  Wal: the calls on a log that runs, as a law holds it.
-/
namespace Go.Proofs.YtohigcpcbonaeaaGreatDoor
open Go.RowKit Go.Lib
variable {F F' G G' H : Nat → Prop} {B : Nat} {w w' w0 : World} {lb mp db mb k n : Nat} {L L' : Lg} {D D' : Dk} {S S' : List (Nat × Fl)} {M : Option Fl} {z : Option Fz} {f : Fl} {dir r : ByteArray} {size q : Int}

/-- A log that was opened. -/
def opened (dir : ByteArray) (size : Int) (S : List (Nat × Fl)) : Lg := ⟨dir, size, mOf S, 0, 0, false, ByteArray.empty⟩
def openedT (dir : ByteArray) (size : Int) (S : List (Nat × Fl)) (f : Fl) : Lg := ⟨dir, size, mOf S, 0, 0, true, goodB f.data⟩
theorem mended_off (h : L.torn = false) : L.mended D = (0, D, L) := by
  unfold Lg.mended
  rw [if_pos h]
theorem recsOf_few {b : ByteArray} (hb : b.size ≤ 1048576) : (recsOf b).length + 1 ≤ 1000000 := by
  obtain ⟨t, h1, h2, _⟩ := scan_spec b.data.toList
  have h3 := frames_ge (scan b.data.toList).1
  have h4 := congrArg List.length h1
  rw [List.length_append, ← ba_size] at h4
  unfold recsOf
  rw [List.length_map]
  omega
theorem mid_of {p : Nat × Fl} (hp : p ∈ S) : ∃ A B, S = A ++ (p.1, p.2) :: B := by
  obtain ⟨A, B, h⟩ := List.append_of_mem hp
  exact ⟨A, B, h⟩
theorem segD_of (hd : nmB dir = true) (hd40 : dir.size ≤ 40) (hr : Rise S) (hl : S.length < 20000) : SegD (dkF (dmap dir S M) q z k) dir S := by
  refine ⟨hr, list_segs hr, fun p hp => ?_, hd, hd40, hl⟩
  obtain ⟨A, B, rfl⟩ := mid_of hp
  exact dmap_get hr
theorem Run.few (h : Run dir size L S) (hd : DkAt F w db mb (dkF (dmap dir S M) q z k)) : ∀ p ∈ L.m, p.2.length + 1 ≤ 1000000 := by
  rw [h.m]
  intro p hp
  obtain ⟨x, hx, rfl⟩ := List.mem_map.1 hp
  refine recsOf_few ?_
  have h1 : (segN dir x.1, x.2) ∈ dmap dir S M := by
    unfold dmap
    exact List.mem_append_left _ (List.mem_map.2 ⟨x, hx, rfl⟩)
  exact (hd.ok.syn _ h1).2
theorem Run.opk (h : Run dir size L S) : L.op ≠ 0 → ∃ rs, getL L.m L.op = some rs := by
  intro h0
  rcases h.op with ⟨e, _⟩ | ⟨A, n, f, rfl, ho, _⟩
  · exact absurd e h0
  · refine ⟨recsOf f.data, ?_⟩
    have hm := h.rise.mid (B := [])
    rw [h.m, ho, mOf_app, getL_app_right (mOf_ne hm.1)]
    exact getL_one _ _ _
set_option maxHeartbeats 1000000 in
theorem cl_append (h : WS B w0 w F G db mb lb mp (dkF (dmap dir S none) q none k) L) (hd : nmB dir = true) (hd40 : dir.size ≤ 40) (hsz : size ≤ 524288) (hr : Run dir size L S) (r : ByteArray) (hrs : r.size ≤ 131072) (hk : k + 60 ≤ 1000000) (hS : S.length + 3 ≤ 20000) (hl : lastN S + 1 < 4294967296) (hlong : L.long ≤ 900000) :
    Calls Tryz.prog 9 #[.pointer (some ⟨lb, 0, none⟩), .string r] w fun e w' => ∃ c D' L' G' F', e = .returned (.int .i64 c) ∧ Appended dir size q L S r k (c, D', L') ∧ WS B w0 w' F' G' db mb lb mp D' L' ∧ Step F F' w w' := by
  have hml : L.m.length = S.length := by rw [hr.m]; unfold mOf; rw [List.length_map]
  refine (w_append h.l h.d.d h.sub rfl hk (n := lastN S) (by omega) hr.last (by omega) r hrs hr.opk (hr.few h.d.d) hlong).mono ?_
  intro e w' hkp
  obtain ⟨he, G', F', h1, h2⟩ := hkp.acted h
  exact ⟨_, _, _, G', F', he, append_run hd hd40 hsz hr hrs hS hl, h1, h2⟩
/-- Opened: all its segments are good. -/
theorem c_open_good (h : DS B w0 w F db mb (dkF (dmap dir S M) q z k)) (hd : nmB dir = true) (hd40 : dir.size ≤ 40) (hr : Rise S) (hg : ∀ p ∈ S, Good p.2.data) (hl : S.length < 20000) (hs1 : 1 ≤ size) (hs2 : size ≤ 524288) (hk : k + 20 ≤ 1000000) :
    Calls Tryz.prog 6 #[.pointer (some ⟨db, 0, none⟩), .string dir, .int .i64 size] w fun e w' => ∃ F' lb mp G, e = .returned (.tuple #[.pointer (some ⟨lb, 0, none⟩), .int .i64 0]) ∧ WS B w0 w' F' G db mb lb mp (dkF (dmap dir S M) q z k) (opened dir size S) ∧ Step F F' w w' ∧ Tn (two db mb) w w' := by
  refine (open_any h.d rfl hk (segD_of hd hd40 hr hl) hs1 hs2).mono ?_
  intro e w' ho
  obtain ⟨F', s, ht2, hc⟩ := OpenE.opened h ho
  rcases hc with ⟨⟨A, n, f, X, rfl, _, _, hng⟩, _⟩ | ⟨L, hls, hc⟩
  · exact absurd (hg (n, f) (by simp)) hng
  · rcases hls with ⟨rfl, _⟩ | ⟨_, A, n, f, rfl, _, hng, _⟩
    · rw [List.take_length] at hc
      have hm := mended_off (L := opened dir size S) (D := dkF (dmap dir S M) q z k) rfl
      have he : ({ fresh dir size with m := mOf S } : Lg) = opened dir size S := rfl
      rw [he, hm] at hc
      rcases hc with ⟨h0, _⟩ | ⟨_, lb, mp, G, he, hw⟩
      · exact absurd rfl h0
      · exact ⟨F', lb, mp, G, he, hw, s, ht2⟩
    · exact absurd (hg (n, f) (by simp)) hng
/-- Opened: a segment ahead of the last one is spoilt. -/
theorem c_open_bad {A X : List (Nat × Fl)} (h : DS B w0 w F db mb (dkF (dmap dir (A ++ (n, f) :: X) M) q z k)) (hd : nmB dir = true) (hd40 : dir.size ≤ 40) (hr : Rise (A ++ (n, f) :: X)) (hng : ¬ Good f.data) (hX : X ≠ []) (hl : (A ++ (n, f) :: X).length < 20000) (hs1 : 1 ≤ size) (hs2 : size ≤ 524288) (hk : k + 20 ≤ 1000000) :
    Calls Tryz.prog 6 #[.pointer (some ⟨db, 0, none⟩), .string dir, .int .i64 size] w fun e w' => ∃ F', e = .returned (.tuple #[.pointer none, .int .i64 31]) ∧ DS B w0 w' F' db mb (dkF (dmap dir (A ++ (n, f) :: X) M) q z k) ∧ Step F F' w w' := by
  refine (open_any h.d rfl hk (segD_of hd hd40 hr hl) hs1 hs2).mono ?_
  intro e w' ho
  obtain ⟨F', s, ht2, hc⟩ := OpenE.opened h ho
  rcases hc with ⟨_, he, hw⟩ | ⟨L, hls, hc⟩
  · exact ⟨F', he, hw, s⟩
  · exfalso
    rcases hls with ⟨_, hg⟩ | ⟨_, A', n', f', e, hA, _⟩
    · rw [List.take_length] at hg
      exact hng (hg (n, f) (by simp))
    · obtain ⟨X', y, rfl⟩ : ∃ X' y, X = X' ++ [y] := by
        rcases List.eq_nil_or_concat X with h | ⟨l, y, h⟩
        · exact absurd h hX
        · exact ⟨l, y, by rw [h, List.concat_eq_append]⟩
      have e2 : A ++ (n, f) :: (X' ++ [y]) = (A ++ (n, f) :: X') ++ [y] := by simp
      rw [e2] at e
      have e3 := List.append_inj_left' e rfl
      exact hng (hA (n, f) (by rw [← e3]; simp))
/-- Opened: the last segment is torn, and it is mended, or there is no room, or the power fails. -/
theorem c_open_torn {A : List (Nat × Fl)} (h : DS B w0 w F db mb (dkF (dmap dir (A ++ [(n, f)]) M) q z k)) (hd : nmB dir = true) (hd40 : dir.size ≤ 40) (hr : Rise (A ++ [(n, f)])) (hg : ∀ p ∈ A, Good p.2.data) (hng : ¬ Good f.data) (hl : A.length + 3 ≤ 20000) (hs1 : 1 ≤ size) (hs2 : size ≤ 524288) (hk : k + 20 ≤ 1000000) :
    Calls Tryz.prog 6 #[.pointer (some ⟨db, 0, none⟩), .string dir, .int .i64 size] w fun e w' => ∃ F' c D' L', Step F F' w w' ∧ Mended dir A n f (goodB f.data) q z k (openedT dir size (A ++ [(n, f)]) f) (c, D', L') ∧
      ((c = 20 ∧ e = .returned (.tuple #[.pointer none, .int .i64 20]) ∧ DS B w0 w' F' db mb D') ∨ ((c = 0 ∨ c = 24) ∧ ∃ lb mp G, e = .returned (.tuple #[.pointer (some ⟨lb, 0, none⟩), .int .i64 0]) ∧ WS B w0 w' F' G db mb lb mp D' L')) := by
  have hll : (A ++ [(n, f)]).length < 20000 := by simp; omega
  refine (open_any h.d rfl hk (segD_of hd hd40 hr hll) hs1 hs2).mono ?_
  intro e w' ho
  obtain ⟨F', s, ht2, hc⟩ := OpenE.opened h ho
  rcases hc with ⟨⟨A', n', f', X, e1, hX, _, hng'⟩, _⟩ | ⟨L, hls, hc⟩
  · exfalso
    obtain ⟨X', y, rfl⟩ : ∃ X' y, X = X' ++ [y] := by
      rcases List.eq_nil_or_concat X with h | ⟨l, y, h⟩
      · exact absurd h hX
      · exact ⟨l, y, by rw [h, List.concat_eq_append]⟩
    have e2 : A' ++ (n', f') :: (X' ++ [y]) = (A' ++ (n', f') :: X') ++ [y] := by simp
    rw [e2] at e1
    have e3 := List.append_inj_left' e1 rfl
    exact hng' (hg (n', f') (by rw [e3]; simp))
  · rcases hls with ⟨_, hgg⟩ | ⟨_, A', n', f', e1, _, _, rfl⟩
    · rw [List.take_length] at hgg
      exact absurd (hgg (n, f) (by simp)) hng
    · have e3 := List.append_inj' e1 rfl
      obtain ⟨rfl, e4⟩ := e3
      injection e4 with e4
      injection e4 with e5 e6
      subst e5 e6
      have heq : ({ fresh dir size with m := mOf (A ++ [(n, f)]), torn := true, left := goodB f.data } : Lg) = openedT dir size (A ++ [(n, f)]) f := rfl
      rw [heq] at hc
      have hlast : (openedT dir size (A ++ [(n, f)]) f).last = (n : Int) := last_of (A := A) (f := f) (by unfold openedT; exact mOf_keys)
      have hsz : (goodB f.data).size ≤ 1048576 := by
        have h1 : (segN dir n, f) ∈ dmap dir (A ++ [(n, f)]) M := by
          unfold dmap
          exact List.mem_append_left _ (List.mem_map.2 ⟨(n, f), by simp, rfl⟩)
        exact Nat.le_trans (goodB_spec f.data).2.2 (h.d.ok.syn _ h1).2
      have hme := mended_cases (q := q) (z := z) (k := k) (M := M) (L := openedT dir size (A ++ [(n, f)]) f) hd hd40 rfl rfl hr hlast hsz hl
      obtain ⟨x, hx⟩ : ∃ x, (openedT dir size (A ++ [(n, f)]) f).mended (dkF (dmap dir (A ++ [(n, f)]) M) q z k) = x := ⟨_, rfl⟩
      rw [hx] at hc hme
      obtain ⟨c, D', L'⟩ := x
      refine ⟨F', c, D', L', s, hme, ?_⟩
      rcases hc with ⟨h0, h24, he, hw⟩ | ⟨h0, lb, mp, G, he, hw⟩
      · have hc20 : c = 20 := by
          rcases hme with ⟨h, _⟩ | ⟨h, _⟩ | ⟨h, _⟩
          · exact absurd h h0
          · exact absurd h h24
          · exact h
        subst hc20
        exact .inl ⟨rfl, he, hw⟩
      · exact .inr ⟨h0, lb, mp, G, he, hw⟩
end Go.Proofs.YtohigcpcbonaeaaGreatDoor
/-
  Wal: what appending makes of the segments, plain; the laws' first call.
-/
namespace Go.Proofs.YtohigcpcbonaeaaGreatDoor
open Go.RowKit Go.Lib
variable {F F' G G' H : Nat → Prop} {B : Nat} {w w' w0 : World} {lb mp db mb k n : Nat} {L L' : Lg} {D D' : Dk} {S S' : List (Nat × Fl)} {M : Option Fl} {z : Option Fz} {f : Fl} {dir r : ByteArray} {size q c : Int}

theorem run_opened (hr : Rise S) (hg : ∀ p ∈ S, Good p.2.data) (hs : ∀ p ∈ S, Synd p.2) : Run dir size (opened dir size S) S :=
  ⟨rfl, rfl, rfl, rfl, rfl, hr, hg, fun p hp => Nat.le_of_eq (hs p hp), .inl ⟨rfl, rfl, hs⟩⟩
def usedS (S : List (Nat × Fl)) : Nat := (S.map (fun p => p.2.data.size)).sum
theorem used_dmap : used (dmap dir S none) = usedS S := by
  unfold used dmap usedS
  simp [List.map_map, Function.comp_def]
theorem usedS_app (A X : List (Nat × Fl)) : usedS (A ++ X) = usedS A + usedS X := by simp [usedS]
theorem usedS_one : usedS [(n, f)] = f.data.size := by simp [usedS]
theorem app_facts (h : Run dir size L S) (ha : AppS size L S S' r) (hr : r.size ≤ 131072) : allR S' = allR S ++ [r] ∧ usedS S' = usedS S + (8 + r.size) ∧ lastN S ≤ lastN S' ∧ lastN S' ≤ lastN S + 1 ∧ S.length ≤ S'.length ∧ S'.length ≤ S.length + 1 := by
  have hf := framed_size r
  rcases ha with ⟨A, n, f, rfl, _, _, rfl⟩ | ⟨A, n, f, rfl, _, _, _, rfl⟩ | ⟨_, rfl⟩
  · have hg := (Good.app (h.good (n, f) (by simp)) hr).2
    simp only at hg
    refine ⟨?_, ?_, ?_, ?_, ?_, ?_⟩
    · rw [allR_app, allR_app, allR_one, allR_one, List.append_assoc]
      congr 1
    · rw [usedS_app, usedS_app, usedS_one, usedS_one, ByteArray.size_append, hf]; omega
    all_goals simp [lastN]
  · have hg := (Good.one hr).2
    refine ⟨?_, ?_, ?_, ?_, ?_, ?_⟩
    · rw [allR_app, allR_app, allR_app, allR_one, allR_one, allR_one]
      show _ ++ recsOf (framed r) = _
      rw [hg]
    · rw [usedS_app, usedS_app, usedS_app, usedS_one, usedS_one, usedS_one, hf]
    all_goals simp [lastN]
  · have hg := (Good.one hr).2
    refine ⟨?_, ?_, ?_, ?_, ?_, ?_⟩
    · rw [allR_app, allR_one]
      show _ ++ recsOf (framed r) = _
      rw [hg]
    · rw [usedS_app, usedS_one, hf]
    all_goals simp [lastN]
/-- Of a disk without a quota: an append is laid. -/
theorem Appended.ok (h : Appended dir size (-1) L S r k (c, D', L')) : c = 0 ∧ ∃ S' k', D' = dkF (dmap dir S' none) (-1) none k' ∧ Run dir size L' S' ∧ AppS size L S S' r ∧ k' ≤ k + 3 ∧ L'.op ≠ 0 := by
  rcases h with ⟨h1, S', k', h2, h3, h4, h5, h6⟩ | ⟨_, h1, _⟩
  · exact ⟨h1, S', k', h2, h3, h4, h5, h6⟩
  · omega
theorem Run.flat (h : Run dir size L S) : L.m.flatMap (·.2) = allR S := by
  rw [h.m]
  unfold mOf allR
  rw [List.flatMap_map]
theorem c_records (h : WS B w0 w F G db mb lb mp D L) (htot : (L.m.flatMap (·.2)).length ≤ 1000000) (from_ : Int) {l : List ByteArray} (hl : L.records from_ = l) {n : Nat} (hn : l.length = n) :
    Calls Tryz.prog 8 #[.pointer (some ⟨lb, 0, none⟩), .int .i64 from_] w fun e w' => ∃ a c, e = .returned (.slice a n c) ∧ RdX F w' (.slice a n c) l ∧ Below w.heap.size w w' := by
  refine (records_any h.l htot from_).mono ?_
  rintro e w' ⟨a, c, m, rfl, hm, ho, hb⟩
  rw [hl] at hm ho
  obtain rfl : m = n := hm.trans hn
  exact ⟨a, c, rfl, rdX_own ho h.d.d.lt, hb⟩
theorem cl_last (h : WS B w0 w F G db mb lb mp D L) {v : Int} (hv : L.last = v) : Calls Tryz.prog 14 #[.pointer (some ⟨lb, 0, none⟩)] w fun e w' => e = .returned (.int .i64 v) ∧ Below w.heap.size w w' := by
  rw [← hv]; exact last_any h.l

abbrev dA : ByteArray := ⟨#[97]⟩
abbrev tAbc : ByteArray := ⟨#[97, 98, 99]⟩
theorem al_one (h : Appended dA 20 (-1) (opened dA 20 []) [] tAbc k (c, D', L')) : c = 0 ∧ ∃ k', D' = dkF (dmap dA [(1, ⟨framed tAbc, 0⟩)] none) (-1) none k' ∧ Run dA 20 L' [(1, ⟨framed tAbc, 0⟩)] ∧ k' ≤ k + 3 ∧ L'.op ≠ 0 := by
  obtain ⟨h0, S', k', h1, h2, h3, h4, h5⟩ := h.ok
  have e : S' = [(1, ⟨framed tAbc, 0⟩)] := by
    rcases h3 with ⟨A, n, f, e, _⟩ | ⟨A, n, f, e, _⟩ | ⟨_, e⟩
    · simp at e
    · simp at e
    · rw [e]; rfl
  subst e
  exact ⟨h0, k', h1, h2, h4, h5⟩
theorem one_of {a : Nat} {x : Fl} {A : List (Nat × Fl)} (h : [(a, x)] = A ++ [(n, f)]) : A = [] ∧ n = a ∧ f = x := by
  obtain ⟨e1, e⟩ := List.append_inj' (s₁ := []) (t₁ := [(a, x)]) h rfl
  injection e with e
  injection e with e2 e3
  exact ⟨e1.symm, e2.symm, e3.symm⟩
theorem al_two {tTen : ByteArray} (ht10 : tTen.size = 10) (hr : Run dA 20 L [(1, ⟨framed tAbc, 0⟩)]) (ho : L.op ≠ 0) (h : Appended dA 20 (-1) L [(1, ⟨framed tAbc, 0⟩)] tTen k (c, D', L')) : c = 0 ∧ L'.last = 2 ∧ L'.records 2 = [tTen] ∧ (L'.m.flatMap (·.2)).length ≤ 1000000 := by
  obtain ⟨h0, S', k', h1, h2, h3, h4, h5⟩ := h.ok
  have f1 : (framed tAbc).size = 11 := framed_size _
  have f2 : (framed tTen).size = 18 := by rw [framed_size, ht10]
  have e : S' = [(1, ⟨framed tAbc, (framed tAbc).size⟩), (2, ⟨framed tTen, 0⟩)] := by
    rcases h3 with ⟨A, n, f, e, _, hn, _⟩ | ⟨A, n, f, e, _, _, _, e2⟩ | ⟨e, _⟩
    · exfalso
      obtain ⟨rfl, rfl, rfl⟩ := one_of e
      refine hn ⟨?_, ?_⟩
      · show 0 < (framed tAbc).size; omega
      · show (20 : Int) < ((framed tAbc).size : Int) + (framed tTen).size; omega
    · obtain ⟨rfl, rfl, rfl⟩ := one_of e
      rw [e2]
      rfl
    · exact absurd e ho
  subst e
  refine ⟨h0, h2.last, ?_, ?_⟩
  · unfold Lg.records
    rw [h2.m]
    have := (Good.one (r := tTen) (by omega)).2
    show (([(((1 : Nat) : Int), recsOf (framed tAbc)), (((2 : Nat) : Int), recsOf (framed tTen))] : List (Int × List ByteArray)).filter (fun p => decide ((2 : Int) ≤ p.1))).flatMap (·.2) = _
    rw [this]
    rfl
  · have hb := (app_facts hr h3 (by omega)).1
    rw [h2.flat, hb]
    have := (Good.one (r := tAbc) (by decide)).2
    rw [allR_one]
    show (recsOf (framed tAbc) ++ [tTen]).length ≤ _
    rw [this]
    show 2 ≤ 1000000
    decide
set_option maxRecDepth 100000 in
set_option maxHeartbeats 2000000 in
theorem alive_any (w : World) : Calls Tryz.prog 4 #[] w fun e w' => e = .returned (.bool true) ∧ Below w.heap.size w w' := by
  have hdA : nmB dA = true := by kernel_rfl
  go_enter Tryz.func4, Tryz.ntmps4
  obtain ⟨t10, hT⟩ : ∃ t10, (⟨#[48, 49, 50, 51, 52, 53, 54, 55, 56, 57]⟩ : ByteArray) = t10 := ⟨_, rfl⟩
  have h10 : t10.size = 10 := by rw [← hT]; rfl
  have hut : (t10.toList == t10.toList) = true := beq_self_eq_true _
  rw [hT]
  clear hT
  go_wp2_with (go_at_call 5; refine (c_newd (w0 := w) (Below.refl _ _)).mono ?_; rintro e w1 ⟨rfl, h1, _⟩; have H1 := Lib.hid h1; clear h1)
  refine (c_open_good (dir := dA) (S := []) (M := none) (size := 20) H1.out hdA (by decide) Rise.nil (fun p hp => by simp at hp) (by decide) (by decide) (by decide) (by decide)).mono ?_
  rintro e w2 ⟨F2, lb, mp, G2, rfl, h2, _⟩
  have H2 := Lib.hid h2
  clear h2
  go_wp2_with fail
  refine (cl_append H2.out hdA (by decide) (by decide) (run_opened Rise.nil (fun p hp => by simp at hp) (fun p hp => by simp at hp)) tAbc (by decide) (by decide) (by decide) (by decide) (by decide)).mono ?_
  rintro e w3 ⟨c, D3, L3, G3, F3, rfl, ha, h3, _⟩
  obtain ⟨rfl, k3, rfl, hr3, hk3, ho3⟩ := al_one ha
  have H3 := Lib.hid (And.intro h3 (And.intro hr3 (And.intro hk3 ho3)))
  clear h3 hr3 hk3 ho3 ha
  go_wp2_with fail
  have hk3 := H3.out.2.2.1
  have hlong : L3.long ≤ 900000 := by
    rcases H3.out.2.1.op with ⟨_, e, _⟩ | ⟨A, n, f, e, _, h, _⟩
    · omega
    · obtain ⟨rfl, rfl, rfl⟩ := one_of e
      rw [h]
      show ((framed tAbc).size : Int) ≤ _
      rw [framed_size]
      decide
  refine (cl_append H3.out.1 hdA (by decide) (by decide) H3.out.2.1 t10 (by omega) (by omega) (by decide) (by decide) hlong).mono ?_
  rintro e w4 ⟨c, D4, L4, G4, F4, rfl, ha, h4, _⟩
  obtain ⟨rfl, hl4, hr4, ht4⟩ := al_two h10 H3.out.2.1 H3.out.2.2.2 ha
  have H4 := Lib.hid (And.intro h4 (And.intro hl4 (And.intro hr4 ht4)))
  clear h4 hl4 hr4 ht4 ha hlong hk3
  go_wp2_with fail
  refine (c_records H4.out.1 H4.out.2.2.2 2 H4.out.2.2.1 (n := 1) rfl).mono ?_
  rintro e w5 ⟨a5, c5, rfl, hrd, hb⟩
  obtain ⟨a', c', e, hrd⟩ := hrd
  injection e with e1 e2 e3
  clear e2
  subst e1 e3
  obtain ⟨g, off, rfl, _, _, hcell⟩ := hrd.resolve_left (by simp)
  have hcell := hcell 0 (by simp)
  rw [Nat.add_zero] at hcell
  have hcell : w5.cell? ⟨g, off, none⟩ = some (.string t10) := hcell
  have H5 := Lib.hid (H4.out.1.stay hb)
  clear hb hrd
  go_wp2_with (go_at_call 14; refine (cl_last H5.out H4.out.2.1).mono ?_; rintro e w6 ⟨rfl, hb⟩; have H6 := Lib.hid (H5.out.stay hb); have hcell6 := (hb.cell (p := ⟨g, off, none⟩) (World.block_lt_of_cell? _ _ hcell)).trans hcell; clear hb hcell)
  go_ret
  exact ⟨rfl, H6.out.d.b⟩
end Go.Proofs.YtohigcpcbonaeaaGreatDoor
