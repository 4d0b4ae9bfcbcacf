import Derived.Test.YtjebpppjhkkebaaGreatDoorM26
import Derived.StillTailTactics
import Derived.Test.YtjebpppjhkkebaaGreatDoorM3
/-
  Wal: the walk of Open.
-/
set_option linter.unusedSimpArgs false
set_option linter.unusedVariables false
namespace Go.Proofs.YtjebpppjhkkebaaGreatDoor
open Go.RowKit Go.Maps Go.Sort Go.Shelf
variable {G F H : Nat → Prop} {w w' : World} {lb mp db mb bx nm : Nat} {ms : List (Int × Sg)} {L L' L0 : Lg} {D : Dk} {s r : ByteArray} {S : List (Nat × Fl)} {dir : ByteArray}

/-- A log that has read nothing yet. -/
def fresh (dir : ByteArray) (size : Int) : Lg := ⟨dir, size, [], 0, 0, false, ByteArray.empty⟩
/-- What Open answers. -/
def OpenE (F : Nat → Prop) (w w' : World) (db mb : Nat) (D : Dk) (S : List (Nat × Fl)) (L0 : Lg) (e : Ending) : Prop :=
  ∃ F' : Nat → Prop, (∀ q, F q → F' q) ∧ (∀ q, F' q → F q ∨ w.heap.size ≤ q) ∧ Tn (two db mb) w w' ∧
  ((Spoilt S ∧ e = .returned (.tuple #[.pointer none, .int .i64 31]) ∧ DkAt F' w' db mb D) ∨
   ∃ L, LdS L0 S S.length L ∧
     (((L.mended D).1 ≠ 0 ∧ (L.mended D).1 ≠ 24 ∧ e = .returned (.tuple #[.pointer none, .int .i64 (L.mended D).1]) ∧ DkAt F' w' db mb (L.mended D).2.1) ∨
      (((L.mended D).1 = 0 ∨ (L.mended D).1 = 24) ∧ ∃ (lb mp : Nat) (G : Nat → Prop), e = .returned (.tuple #[.pointer (some ⟨lb, 0, none⟩), .int .i64 0]) ∧ DkAt F' w' db mb (L.mended D).2.1 ∧ LoAt G w' lb mp db (L.mended D).2.2 ∧ (∀ q, G q → F' q ∧ ¬ two db mb q ∧ w.heap.size ≤ q))))
theorem LdS.m (h : LdS L0 S S.length L) : L.m = mOf S := by
  rcases h with ⟨h, _⟩ | ⟨_, A, n, f, _, _, _, h⟩
  · rw [h, List.take_length]
  · rw [h]
theorem LdS.last (h : LdS L0 S S.length L) : L.last = (lastN S : Int) := by
  unfold Lg.last lastN
  rw [h.m, mOf_keys]
  rcases List.eq_nil_or_concat S with rfl | ⟨A, p, rfl⟩
  · rfl
  · simp
theorem lastN_rng (h : Rise S) : lastN S < 4294967296 := by
  rcases List.eq_nil_or_concat S with rfl | ⟨A, p, rfl⟩
  · decide
  · obtain ⟨n, f⟩ := p
    rw [List.concat_eq_append] at h ⊢
    rw [lastN_snoc]
    exact (h.rng (n, f) (by simp)).2
/-- A log in new blocks. -/
theorem fresh_at {z mp : Nat} {size : Int} {w1 w2 : World} (hz : z ≤ w1.heap.size) (hmp : mp = w1.heap.size) (hlb : lb = w1.heap.size + 1) (hs : 0 ≤ size ∧ size ≤ 1048576) (hd : dir.size ≤ 40)
    (hw : w2 = (w1.alloc (.map #[] 0)).alloc (.cells #[.pointer (some ⟨db, 0, none⟩), .string dir, .int .i64 size, .map (some mp), .int .i64 0, .int .i64 0, .bool false, .string ⟨#[]⟩] 88)) : LoM (span lb mp z w2) w2 lb mp db [] (fresh dir size) := by
  have hsz : w2.heap.size = w1.heap.size + 2 := by rw [hw]; simp
  have hm : MapL ckZ cvS w2 mp [] := by
    rw [hw, hmp]
    exact (MapL.made w1).below ((Below.refl _ _).alloc (Nat.le_refl _) _)
  refine ⟨?_, ?_, ?_, ?_, ?_, ?_, ?_, ?_, ?_, hm, rfl, fun p hp => by simp at hp, List.Pairwise.nil, by omega, fun p hp => by simp at hp, .inl rfl, .inr (.inl rfl), fun p hp => by simp at hp, ?_, ⟨hd, fun p hp => by simp [fresh] at hp, List.Pairwise.nil, by simp [fresh], fun p hp => by simp [fresh] at hp, ⟨Int.le_refl _, (by decide : (0 : Int) ≤ 4294967295)⟩, ⟨Int.le_refl _, (by decide : (0 : Int) ≤ 1048576)⟩, by simp [fresh], hs⟩⟩
  · rw [hw, hlb]; simp [go_sem]
  · rw [hw, hlb]; simp [go_sem, fresh]
  · rw [hw, hlb]; simp [go_sem, fresh]
  · rw [hw, hlb]; simp [go_sem]
  · rw [hw, hlb]; simp [go_sem, fresh]
  · rw [hw, hlb]; simp [go_sem, fresh]
  · rw [hw, hlb]; simp [go_sem, fresh]
  · rw [hw, hlb]; simp [go_sem, fresh]; rfl
  · intro j; rw [hw, hlb]; simp [go_sem]
  · intro q hq
    rcases hq with h | h | h <;> omega

set_option maxRecDepth 100000 in
set_option maxHeartbeats 4000000 in
theorem open_any {size : Int} (h : DkAt F w db mb D) (hon : D.on = true) (ha : D.acts + 20 ≤ 1000000) (hs : SegD D dir S) (hs1 : 1 ≤ size) (hs2 : size ≤ 524288) :
    Calls Tryz.prog 19 #[.pointer (some ⟨db, 0, none⟩), .string dir, .int .i64 size] w fun e w' => OpenE F w w' db mb D S (fresh dir size) e := by
  have hd40 := hs.d40
  have c1 := h.c1
  rw [hon] at c1
  have hnm := name_any dir w (by omega)
  rw [hs.nm] at hnm
  have a1 : ¬ (40 : Int) < (dir.size : Int) := by omega
  have a2 : ¬ size < 1 := by omega
  have a3 : ¬ 524288 < size := by omega
  have hcl : ∀ W, Calls Tryz.prog 20 #[.string dir] W fun e w' => e = .returned (.string dir) ∧ Below W.heap.size W w' := fun W => clone_any W dir (by omega)
  have hmk : ∀ w, (Instr.makeMap tSeg none).run Tryz.prog w = .ok (.map (some w.heap.size)) (w.alloc (.map #[] 0)) := fun _ => rfl
  have H := Lib.hid (And.intro h (And.intro hon (And.intro ha (And.intro hs (And.intro hs1 hs2)))))
  clear h hon ha hs hs1 hs2
  go_enter Tryz.func19, Tryz.ntmps19
  go_wp2_with (first
    | (go_at_call 18; go_loud (refine hnm.mono ?_); rintro e w1 ⟨rfl, hb1⟩; have B1 := Lib.hid hb1; have c11 := (hb1.cell (p := ⟨db, 1, none⟩) (World.block_lt_of_cell? _ _ c1)).trans c1; clear hb1)
    | (go_at_call 47; go_loud (refine (on_any c11).mono ?_); rintro e w2 ⟨rfl, rfl⟩)
    | (go_at_call 20; go_loud (refine (hcl _).mono ?_); rintro e w3 ⟨rfl, hb3⟩; have B3 := Lib.hid hb3; clear hb3))
  have hb03 : Below w.heap.size w w3 := B1.out.trans (B3.out.mono B1.out.size)
  have hlo := fresh_at (db := db) (w1 := w3) (w2 := _) (z := w.heap.size) hb03.size rfl rfl (And.intro (by have := H.out.2.2.2.2.1; omega : 0 ≤ size) (by have := H.out.2.2.2.2.2; omega : size ≤ 1048576)) hd40 rfl
  obtain ⟨W5, hW5⟩ : ∃ W5, W5 = (w3.alloc (.map #[] 0)).alloc (.cells #[.pointer (some ⟨db, 0, none⟩), .string dir, .int .i64 size, .map (some w3.heap.size), .int .i64 0, .int .i64 0, .bool false, .string ⟨#[]⟩] 88) := ⟨_, rfl⟩
  rw [← hW5] at hlo
  have hb5 : Below w.heap.size w W5 := by rw [hW5]; exact (hb03.alloc hb03.size _).alloc (by have := hb03.size; simp; omega) _
  have hld := load_any (H.out.1.below hb5) H.out.2.1 H.out.2.2.2.1 hlo rfl rfl hb5.size
  have HL := Lib.hid (And.intro hld (And.intro hlo (And.intro hb5 hb03.size)))
  clear hld hlo hb5 hb03 c11 c1 hnm hcl hmk
  have h5 : W5.heap.size = w3.heap.size + 2 := by rw [hW5]; simp
  rw [← hW5]
  clear hW5
  refine HL.out.1.mono ?_
  rintro e w6 ⟨hE, ht6⟩
  have hz6 := ht6.size
  have hzw := HL.out.2.2.2
  have hD5 : DkAt (fun q => F q ∨ (w.heap.size ≤ q ∧ q < W5.heap.size)) W5 db mb D := H.out.1.more (fun q h => .inl h) (fun q h => h.imp id (fun h => h.1)) (fun q h => by
    rcases h with h | h
    · have := H.out.1.lt q h; have := HL.out.2.2.1.size; omega
    · exact h.2) HL.out.2.2.1
  have hdw := H.out.1.ltd
  have hmw := H.out.1.m.lt
  have hD6 : DkAt (fun q => F q ∨ (w.heap.size ≤ q ∧ q < w6.heap.size)) w6 db mb D := hD5.widen ht6 (fun q _ e => by
      rcases e with rfl | rfl
      · exact ⟨.inr ⟨by omega, by omega⟩, by unfold two; omega⟩
      · exact ⟨.inr ⟨by omega, by omega⟩, by unfold two; omega⟩) (fun q h => h.imp id (fun h => ⟨h.1, by omega⟩)) (fun q h => by
      rcases h with h | h
      · exact .inl (.inl h)
      · by_cases h9 : q < W5.heap.size
        · exact .inl (.inr ⟨h.1, h9⟩)
        · exact .inr (by omega)) (fun q h => by
      rcases h with h | h
      · have := H.out.1.lt q h; omega
      · exact h.2)
  have ht06 : Tn (two db mb) w w6 := (Tn.ofBelow HL.out.2.2.1).andThen ht6 (fun q e => by right; rcases e with rfl | rfl <;> omega)
  have HD := Lib.hid (And.intro hD6 (And.intro ht06 (And.intro hdw hmw)))
  clear hD5 hD6 ht06 hdw hmw ht6
  rcases hE with ⟨ms, L, rfl, hls, hlo6⟩ | ⟨rfl, hsp⟩
  · have hme := w_mended (mb := mb) (F := fun q => F q ∨ (w.heap.size ≤ q ∧ q < w6.heap.size)) ⟨_, hlo6⟩ HD.out.1 (fun q e => by
      have h1 := HD.out.2.2.1
      have h2 := HD.out.2.2.2
      rcases e with rfl | rfl | e
      · exact ⟨.inr ⟨by omega, by omega⟩, by unfold two; omega⟩
      · exact ⟨.inr ⟨by omega, by omega⟩, by unfold two; omega⟩
      · exact ⟨.inr e, by unfold two; omega⟩) H.out.2.1 H.out.2.2.1 (lastN_rng H.out.2.2.2.1.rise) hls.last
    obtain ⟨x, hx⟩ : ∃ x, L.mended D = x := ⟨_, rfl⟩
    obtain ⟨k, D2, L2⟩ := x
    rw [hx] at hme
    have HM := Lib.hid (And.intro hme (And.intro hx hls))
    clear hme hx hls hlo6
    go_wp2_with fail
    refine HM.out.1.mono ?_
    rintro e w7 ⟨rfl, hD7, hL7, ht7⟩
    simp only at hD7 hL7
    have hfin : Tn (two db mb) w w7 := HD.out.2.1.andThen ht7 (fun q e => by
      rcases e with e | e
      · exact .inl e
      · right
        rcases e with rfl | rfl | e
        · omega
        · omega
        · exact e.1)
    have H7 := Lib.hid (And.intro hD7 (And.intro hL7 hfin))
    clear hD7 hL7 ht7 hfin
    have hpost1 : ∀ e, ((k ≠ 0 ∧ k ≠ 24 ∧ e = .returned (.tuple #[.pointer none, .int .i64 k])) ∨ ((k = 0 ∨ k = 24) ∧ e = .returned (.tuple #[.pointer (some ⟨w3.heap.size + 1, 0, none⟩), .int .i64 0]))) → OpenE F w w7 db mb D S (fresh dir size) e := by
      intro e he
      refine ⟨(fun q => F q ∨ (w.heap.size ≤ q ∧ q < w6.heap.size)), fun q h => .inl h, fun q h => h.imp id (fun h => h.1), H7.out.2.2, .inr ⟨L, HM.out.2.2, ?_⟩⟩
      rw [HM.out.2.1]
      rcases he with ⟨h1, h2, h3⟩ | ⟨h1, h2⟩
      · exact .inl ⟨h1, h2, h3, H7.out.1⟩
      · refine .inr ⟨h1, _, _, _, h2, H7.out.1, H7.out.2.1, fun q e => ?_⟩
        have h1 := HD.out.2.2.1
        have h2 := HD.out.2.2.2
        rcases e with rfl | rfl | e
        · exact ⟨.inr ⟨by omega, by omega⟩, by unfold two; omega, by omega⟩
        · exact ⟨.inr ⟨by omega, by omega⟩, by unfold two; omega, by omega⟩
        · exact ⟨.inr e, by unfold two; omega, e.1⟩
    have HP := Lib.hid hpost1
    clear hpost1
    by_cases hk0 : k = 0
    · subst hk0
      go_wp2
      go_ret2
      exact HP.out _ (.inr ⟨by simp, rfl⟩)
    · by_cases hk24 : k = 24
      · subst hk24
        go_wp2
        go_ret2
        exact HP.out _ (.inr ⟨by simp, rfl⟩)
      · have t0 : (k != 0) = true := by simpa using hk0
        have t1 : (k != 24) = true := by simpa using hk24
        have HK := Lib.hid (And.intro hk0 hk24)
        go_wp2
        go_ret2
        exact HP.out _ (.inl ⟨HK.out.1, HK.out.2, rfl⟩)
  · go_wp2
    go_ret2
    exact ⟨(fun q => F q ∨ (w.heap.size ≤ q ∧ q < w6.heap.size)), fun q h => .inl h, fun q h => h.imp id (fun h => h.1), HD.out.2.1, .inl ⟨hsp, rfl, HD.out.1⟩⟩
end Go.Proofs.YtjebpppjhkkebaaGreatDoor
/-
  Wal: the walk of Drop.
-/
set_option linter.unusedSimpArgs false
set_option linter.unusedVariables false
namespace Go.Proofs.YtjebpppjhkkebaaGreatDoor
open Go.RowKit Go.Maps Go.Sort Go.Shelf
variable {G F H : Nat → Prop} {w w' : World} {lb mp db mb bx nm : Nat} {ms : List (Int × Sg)} {L L' L0 Li : Lg} {D Di D2 : Dk} {s r : ByteArray} {S : List (Nat × Fl)} {dir : ByteArray}

/-- Where Drop's loop stands. -/
structure DrS (L : Lg) (D : Dk) (below : Int) (i : Nat) (Li : Lg) (Di : Dk) : Prop where
  eq : Lg.dropK below ((L.m.map (·.1)).drop i) Li Di = L.drop D below
  on : Di.on = true
  acts : Di.acts ≤ D.acts + i
  dir : Li.dir = L.dir
  op : Li.op = L.op
/-- What is left when a segment is gone. -/
def gone (L : Lg) (k : Int) : Lg := if (delL L.m k).length = 0 then { L with m := delL L.m k, torn := false, left := ByteArray.empty } else { L with m := delL L.m k }
end Go.Proofs.YtjebpppjhkkebaaGreatDoor
/-
  Wal: a log that there is not: what it answers.
-/
set_option linter.unusedSimpArgs false
set_option linter.unusedVariables false
namespace Go.Proofs.YtjebpppjhkkebaaGreatDoor
open Go.RowKit Go.Maps Go.Sort Go.Shelf
variable {w w' : World} {p : Value}

/-- There is no log: a nil one, or a zero one. -/
def Noned (w : World) (p : Value) : Prop := p = .pointer none ∨ ∃ lb, p = .pointer (some ⟨lb, 0, none⟩) ∧ w.cell? ⟨lb, 0, none⟩ = some (.pointer none)
end Go.Proofs.YtjebpppjhkkebaaGreatDoor
/-
  Wal: what a law holds: a disk, a log, texts; what the calls make of them.
-/
set_option linter.unusedSimpArgs false
set_option linter.unusedVariables false
namespace Go.Proofs.YtjebpppjhkkebaaGreatDoor
open Go.RowKit Go.Maps Go.Sort Go.Shelf

def StrsAt (w : World) (a : Option Addr) (len : Nat) (l : List ByteArray) : Prop :=
  l.length = len ∧ (len = 0 ∨ ∃ b off, a = some ⟨b, off, none⟩ ∧ b < w.heap.size ∧ ∀ i (hi : i < l.length), w.cell? ⟨b, off + i, none⟩ = some (.string l[i])) ∧ ∀ s ∈ l, s.size ≤ maxLen
variable {F F' G G' H : Nat → Prop} {B : Nat} {w w' w0 : World} {lb mp db mb : Nat} {L L' : Lg} {D D' : Dk} {S : List (Nat × Fl)} {dir : ByteArray} {x y : Value} {l : List ByteArray}

/-- Texts in a block that F has not. -/
def RdX (F : Nat → Prop) (w : World) (x : Value) (l : List ByteArray) : Prop := ∃ a c, x = .slice a l.length c ∧ (l = [] ∨ ∃ b off, a = some ⟨b, off, none⟩ ∧ ¬ F b ∧ b < w.heap.size ∧ ∀ i (hi : i < l.length), w.cell? ⟨b, off + i, none⟩ = some (.string l[i]))
theorem rdX_own {v : Value} (h : Own eStr w B v l) (hF : ∀ q, F q → q < B) : RdX F w v l := by
  have h0 := h
  obtain ⟨h1, h2⟩ := h
  rcases h2 with ⟨rfl, h3⟩ | ⟨g, cap', cur, rfl, hg, hh, hn', hc, hcl, htk⟩
  · obtain rfl := List.eq_nil_of_length_eq_zero h3
    exact ⟨none, 0, rfl, .inl rfl⟩
  · refine ⟨_, cap', rfl, .inr ⟨g, 0, rfl, fun e => by have := hF g e; omega, (Array.getElem?_eq_some_iff.1 hh).1, fun i hi => ?_⟩⟩
    have := h0.cellAt i (by omega)
    rw [Nat.zero_add, this]
    have h4 := eStr.get l i 0 hi (by omega)
    rw [Nat.mul_one, Nat.add_zero] at h4
    rw [h4]
    rfl

/-- A law's disk: all of it is new. -/
structure DS (B : Nat) (w0 w : World) (F : Nat → Prop) (db mb : Nat) (D : Dk) : Prop where
  d : DkAt F w db mb D
  new : ∀ q, F q → B ≤ q
  b : Below B w0 w
  hz : B ≤ w.heap.size
/-- A law's log on its disk. -/
structure WS (B : Nat) (w0 w : World) (F G : Nat → Prop) (db mb lb mp : Nat) (D : Dk) (L : Lg) : Prop where
  d : DS B w0 w F db mb D
  l : LoAt G w lb mp db L
  sub : ∀ q, G q → F q ∧ ¬ two db mb q
/-- From one world to a later one: what F has turned, and it grew by new blocks. -/
structure Step (F F' : Nat → Prop) (w w' : World) : Prop where
  t : Tn F w w'
  g : ∀ q, F q → F' q
  n : ∀ q, F' q → F q ∨ w.heap.size ≤ q
theorem Step.trans {F'' : Nat → Prop} {w'' : World} (h : Step F F' w w') (k : Step F' F'' w' w'') : Step F F'' w w'' :=
  ⟨h.t.andThen k.t h.n, fun q e => k.g q (h.g q e), fun q e => (k.n q e).elim (h.n q) (fun e => .inr (Nat.le_trans h.t.size e))⟩
theorem Step.below (h : Below w.heap.size w w') : Step F F w w' := ⟨Tn.ofBelow h, fun _ h => h, fun _ h => .inl h⟩
theorem DS.dk2 (h : DS B w0 w F db mb D) : ∀ q, two db mb q → F q := fun q e => by
  rcases e with rfl | rfl
  · exact h.d.fd
  · exact h.d.fm
theorem DS.go (h : DS B w0 w F db mb D) (hd : DkAt F' w' db mb D') (s : Step F F' w w') : DS B w0 w' F' db mb D' :=
  ⟨hd, fun q e => (s.n q e).elim (h.new q) (fun e => Nat.le_trans h.hz e), h.b.trans (s.t.below h.hz h.new), Nat.le_trans h.hz s.t.size⟩
theorem DS.stay (h : DS B w0 w F db mb D) (hb : Below w.heap.size w w') : DS B w0 w' F db mb D := h.go (h.d.below hb) (.below hb)
theorem WS.stay (h : WS B w0 w F G db mb lb mp D L) (hb : Below w.heap.size w w') : WS B w0 w' F G db mb lb mp D L := ⟨h.d.stay hb, h.l.below hb, h.sub⟩
/-- The disk alone turned. -/
theorem WS.disk (h : WS B w0 w F G db mb lb mp D L) (hd : DkAt F w' db mb D') (t : Tn (two db mb) w w') : WS B w0 w' F G db mb lb mp D' L ∧ Step F F w w' := by
  have s : Step F F w w' := ⟨t.mono h.d.dk2, fun _ h => h, fun _ h => .inl h⟩
  exact ⟨⟨h.d.go hd s, h.l.tn t (fun q e => (h.sub q e).2), h.sub⟩, s⟩
/-- What a call on a log leaves a law. -/
def Acted (B : Nat) (w0 w w' : World) (F : Nat → Prop) (db mb lb mp : Nat) (r : Int × Dk × Lg) (e : Ending) : Prop :=
  e = .returned (.int .i64 r.1) ∧ ∃ G' F' : Nat → Prop, WS B w0 w' F' G' db mb lb mp r.2.1 r.2.2 ∧ Step F F' w w'
theorem Kept.acted {e : Ending} {r : Int × Dk × Lg} (h : WS B w0 w F G db mb lb mp D L) (k : Kept G F w w' lb mp db mb e r) : Acted B w0 w w' F db mb lb mp r e := by
  obtain ⟨he, G', F', h1, h2, h3, h4, h5, _, h7⟩ := k
  have s : Step F F' w w' := ⟨h7.mono (fun q e => e.elim (h.d.dk2 q) (fun e => (h.sub q e).1)), h4, h5⟩
  exact ⟨he, G', F', ⟨h.d.go h1 s, h2, h3⟩, s⟩
/-- What Open leaves a law. -/
def Opened (B : Nat) (w0 w w' : World) (F : Nat → Prop) (db mb : Nat) (D : Dk) (S : List (Nat × Fl)) (L0 : Lg) (e : Ending) : Prop :=
  ∃ F' : Nat → Prop, Step F F' w w' ∧ Tn (two db mb) w w' ∧
  ((Spoilt S ∧ e = .returned (.tuple #[.pointer none, .int .i64 31]) ∧ DS B w0 w' F' db mb D) ∨
   ∃ L, LdS L0 S S.length L ∧
     (((L.mended D).1 ≠ 0 ∧ (L.mended D).1 ≠ 24 ∧ e = .returned (.tuple #[.pointer none, .int .i64 (L.mended D).1]) ∧ DS B w0 w' F' db mb (L.mended D).2.1) ∨
      (((L.mended D).1 = 0 ∨ (L.mended D).1 = 24) ∧ ∃ (lb mp : Nat) (G : Nat → Prop), e = .returned (.tuple #[.pointer (some ⟨lb, 0, none⟩), .int .i64 0]) ∧ WS B w0 w' F' G db mb lb mp (L.mended D).2.1 (L.mended D).2.2)))
theorem OpenE.opened {e : Ending} {L0 : Lg} (h : DS B w0 w F db mb D) (k : OpenE F w w' db mb D S L0 e) : Opened B w0 w w' F db mb D S L0 e := by
  obtain ⟨F', h1, h2, h3, h4⟩ := k
  have s : Step F F' w w' := ⟨h3.mono h.dk2, h1, h2⟩
  refine ⟨F', s, h3, ?_⟩
  rcases h4 with ⟨a, b, c⟩ | ⟨L, hl, h5⟩
  · exact .inl ⟨a, b, h.go c s⟩
  · refine .inr ⟨L, hl, ?_⟩
    rcases h5 with ⟨a, b, c, d⟩ | ⟨a, lb, mp, G, b, c, d, e⟩
    · exact .inl ⟨a, b, c, h.go d s⟩
    · exact .inr ⟨a, lb, mp, G, b, ⟨h.go c s, d, fun q hq => ⟨(e q hq).1, (e q hq).2.1⟩⟩⟩
theorem c_newd (h : Below w0.heap.size w0 w) : Calls Tryz.prog 7 #[] w fun e w' => e = .returned (.pointer (some ⟨w.heap.size + 1, 0, none⟩)) ∧ DS w0.heap.size w0 w' (two (w.heap.size + 1) w.heap.size) (w.heap.size + 1) w.heap.size (dkF [] (-1) none 0) ∧ Below w.heap.size w w' := by
  refine (new_any w).mono ?_
  rintro e w' ⟨he, h1, h2, h3⟩
  have := h.size
  exact ⟨he, ⟨h1, fun q e => by rcases e with rfl | rfl <;> omega, h.trans (h2.mono h.size), by omega⟩, h2⟩
end Go.Proofs.YtjebpppjhkkebaaGreatDoor
/-
  Wal: the calls on a log that runs, as a law holds it.
-/
set_option linter.unusedSimpArgs false
set_option linter.unusedVariables false
namespace Go.Proofs.YtjebpppjhkkebaaGreatDoor
open Go.RowKit Go.Lib
variable {F F' G G' H : Nat → Prop} {B : Nat} {w w' w0 : World} {lb mp db mb k n : Nat} {L L' : Lg} {D D' : Dk} {S S' : List (Nat × Fl)} {M : Option Fl} {z : Option Fz} {f : Fl} {dir r : ByteArray} {size q : Int}

/-- A log that was opened. -/
def opened (dir : ByteArray) (size : Int) (S : List (Nat × Fl)) : Lg := ⟨dir, size, mOf S, 0, 0, false, ByteArray.empty⟩
def openedT (dir : ByteArray) (size : Int) (S : List (Nat × Fl)) (f : Fl) : Lg := ⟨dir, size, mOf S, 0, 0, true, goodB f.data⟩
theorem mended_off (h : L.torn = false) : L.mended D = (0, D, L) := by
  unfold Lg.mended
  rw [if_pos h]
theorem recsOf_few {b : ByteArray} (hb : b.size ≤ 1048576) : (recsOf b).length + 1 ≤ 1000000 := by
  obtain ⟨t, h1, h2, _⟩ := scan_spec b.data.toList
  have h3 := frames_ge (scan b.data.toList).1
  have h4 := congrArg List.length h1
  rw [List.length_append, ← ba_size] at h4
  unfold recsOf
  rw [List.length_map]
  omega
theorem mid_of {p : Nat × Fl} (hp : p ∈ S) : ∃ A B, S = A ++ (p.1, p.2) :: B := by
  obtain ⟨A, B, h⟩ := List.append_of_mem hp
  exact ⟨A, B, h⟩
theorem segD_of (hd : nmB dir = true) (hd40 : dir.size ≤ 40) (hr : Rise S) (hl : S.length < 20000) : SegD (dkF (dmap dir S M) q z k) dir S := by
  refine ⟨hr, list_segs hr, fun p hp => ?_, hd, hd40, hl⟩
  obtain ⟨A, B, rfl⟩ := mid_of hp
  exact dmap_get hr
theorem Run.few (h : Run dir size L S) (hd : DkAt F w db mb (dkF (dmap dir S M) q z k)) : ∀ p ∈ L.m, p.2.length + 1 ≤ 1000000 := by
  rw [h.m]
  intro p hp
  obtain ⟨x, hx, rfl⟩ := List.mem_map.1 hp
  refine recsOf_few ?_
  have h1 : (segN dir x.1, x.2) ∈ dmap dir S M := by
    unfold dmap
    exact List.mem_append_left _ (List.mem_map.2 ⟨x, hx, rfl⟩)
  exact (hd.ok.syn _ h1).2
theorem Run.opk (h : Run dir size L S) : L.op ≠ 0 → ∃ rs, getL L.m L.op = some rs := by
  intro h0
  rcases h.op with ⟨e, _⟩ | ⟨A, n, f, rfl, ho, _⟩
  · exact absurd e h0
  · refine ⟨recsOf f.data, ?_⟩
    have hm := h.rise.mid (B := [])
    rw [h.m, ho, mOf_app, getL_app_right (mOf_ne hm.1)]
    exact getL_one _ _ _
set_option maxHeartbeats 1000000 in
theorem cl_append (h : WS B w0 w F G db mb lb mp (dkF (dmap dir S none) q none k) L) (hd : nmB dir = true) (hd40 : dir.size ≤ 40) (hsz : size ≤ 524288) (hr : Run dir size L S) (r : ByteArray) (hrs : r.size ≤ 131072) (hk : k + 60 ≤ 1000000) (hS : S.length + 3 ≤ 20000) (hl : lastN S + 1 < 4294967296) (hlong : L.long ≤ 900000) :
    Calls Tryz.prog 59 #[.pointer (some ⟨lb, 0, none⟩), .string r] w fun e w' => ∃ c D' L' G' F', e = .returned (.int .i64 c) ∧ Appended dir size q L S r k (c, D', L') ∧ WS B w0 w' F' G' db mb lb mp D' L' ∧ Step F F' w w' := by
  have hml : L.m.length = S.length := by rw [hr.m]; unfold mOf; rw [List.length_map]
  refine (w_append h.l h.d.d h.sub rfl hk (n := lastN S) (by omega) hr.last (by omega) r hrs hr.opk (hr.few h.d.d) hlong).mono ?_
  intro e w' hkp
  obtain ⟨he, G', F', h1, h2⟩ := hkp.acted h
  exact ⟨_, _, _, G', F', he, append_run hd hd40 hsz hr hrs hS hl, h1, h2⟩
/-- Opened: all its segments are good. -/
theorem c_open_good (h : DS B w0 w F db mb (dkF (dmap dir S M) q z k)) (hd : nmB dir = true) (hd40 : dir.size ≤ 40) (hr : Rise S) (hg : ∀ p ∈ S, Good p.2.data) (hl : S.length < 20000) (hs1 : 1 ≤ size) (hs2 : size ≤ 524288) (hk : k + 20 ≤ 1000000) :
    Calls Tryz.prog 19 #[.pointer (some ⟨db, 0, none⟩), .string dir, .int .i64 size] w fun e w' => ∃ F' lb mp G, e = .returned (.tuple #[.pointer (some ⟨lb, 0, none⟩), .int .i64 0]) ∧ WS B w0 w' F' G db mb lb mp (dkF (dmap dir S M) q z k) (opened dir size S) ∧ Step F F' w w' ∧ Tn (two db mb) w w' := by
  refine (open_any h.d rfl hk (segD_of hd hd40 hr hl) hs1 hs2).mono ?_
  intro e w' ho
  obtain ⟨F', s, ht2, hc⟩ := OpenE.opened h ho
  rcases hc with ⟨⟨A, n, f, X, rfl, _, _, hng⟩, _⟩ | ⟨L, hls, hc⟩
  · exact absurd (hg (n, f) (by simp)) hng
  · rcases hls with ⟨rfl, _⟩ | ⟨_, A, n, f, rfl, _, hng, _⟩
    · rw [List.take_length] at hc
      have hm := mended_off (L := opened dir size S) (D := dkF (dmap dir S M) q z k) rfl
      have he : ({ fresh dir size with m := mOf S } : Lg) = opened dir size S := rfl
      rw [he, hm] at hc
      rcases hc with ⟨h0, _⟩ | ⟨_, lb, mp, G, he, hw⟩
      · exact absurd rfl h0
      · exact ⟨F', lb, mp, G, he, hw, s, ht2⟩
    · exact absurd (hg (n, f) (by simp)) hng
end Go.Proofs.YtjebpppjhkkebaaGreatDoor
/-
  Wal: what appending makes of the segments, plain; the laws' first call.
-/
set_option linter.unusedSimpArgs false
set_option linter.unusedVariables false
namespace Go.Proofs.YtjebpppjhkkebaaGreatDoor
open Go.RowKit Go.Lib
variable {F F' G G' H : Nat → Prop} {B : Nat} {w w' w0 : World} {lb mp db mb k n : Nat} {L L' : Lg} {D D' : Dk} {S S' : List (Nat × Fl)} {M : Option Fl} {z : Option Fz} {f : Fl} {dir r : ByteArray} {size q c : Int}

theorem run_opened (hr : Rise S) (hg : ∀ p ∈ S, Good p.2.data) (hs : ∀ p ∈ S, Synd p.2) : Run dir size (opened dir size S) S :=
  ⟨rfl, rfl, rfl, rfl, rfl, hr, hg, fun p hp => Nat.le_of_eq (hs p hp), .inl ⟨rfl, rfl, hs⟩⟩
def usedS (S : List (Nat × Fl)) : Nat := (S.map (fun p => p.2.data.size)).sum
theorem usedS_app (A X : List (Nat × Fl)) : usedS (A ++ X) = usedS A + usedS X := by simp [usedS]
theorem usedS_one : usedS [(n, f)] = f.data.size := by simp [usedS]
theorem app_facts (h : Run dir size L S) (ha : AppS size L S S' r) (hr : r.size ≤ 131072) : allR S' = allR S ++ [r] ∧ usedS S' = usedS S + (8 + r.size) ∧ lastN S ≤ lastN S' ∧ lastN S' ≤ lastN S + 1 ∧ S.length ≤ S'.length ∧ S'.length ≤ S.length + 1 := by
  have hf := framed_size r
  rcases ha with ⟨A, n, f, rfl, _, _, rfl⟩ | ⟨A, n, f, rfl, _, _, _, rfl⟩ | ⟨_, rfl⟩
  · have hg := (Good.app (h.good (n, f) (by simp)) hr).2
    simp only at hg
    refine ⟨?_, ?_, ?_, ?_, ?_, ?_⟩
    · rw [allR_app, allR_app, allR_one, allR_one, List.append_assoc]
      congr 1
    · rw [usedS_app, usedS_app, usedS_one, usedS_one, ByteArray.size_append, hf]; omega
    all_goals simp [lastN]
  · have hg := (Good.one hr).2
    refine ⟨?_, ?_, ?_, ?_, ?_, ?_⟩
    · rw [allR_app, allR_app, allR_app, allR_one, allR_one, allR_one]
      show _ ++ recsOf (framed r) = _
      rw [hg]
    · rw [usedS_app, usedS_app, usedS_app, usedS_one, usedS_one, usedS_one, hf]
    all_goals simp [lastN]
  · have hg := (Good.one hr).2
    refine ⟨?_, ?_, ?_, ?_, ?_, ?_⟩
    · rw [allR_app, allR_one]
      show _ ++ recsOf (framed r) = _
      rw [hg]
    · rw [usedS_app, usedS_one, hf]
    all_goals simp [lastN]
/-- Of a disk without a quota: an append is laid. -/
theorem Appended.ok (h : Appended dir size (-1) L S r k (c, D', L')) : c = 0 ∧ ∃ S' k', D' = dkF (dmap dir S' none) (-1) none k' ∧ Run dir size L' S' ∧ AppS size L S S' r ∧ k' ≤ k + 3 ∧ L'.op ≠ 0 := by
  rcases h with ⟨h1, S', k', h2, h3, h4, h5, h6⟩ | ⟨_, h1, _⟩
  · exact ⟨h1, S', k', h2, h3, h4, h5, h6⟩
  · omega
theorem c_records (h : WS B w0 w F G db mb lb mp D L) (htot : (L.m.flatMap (·.2)).length ≤ 1000000) (from_ : Int) {l : List ByteArray} (hl : L.records from_ = l) {n : Nat} (hn : l.length = n) :
    Calls Tryz.prog 111 #[.pointer (some ⟨lb, 0, none⟩), .int .i64 from_] w fun e w' => ∃ a c, e = .returned (.slice a n c) ∧ RdX F w' (.slice a n c) l ∧ Below w.heap.size w w' := by
  refine (records_any h.l htot from_).mono ?_
  rintro e w' ⟨a, c, m, rfl, hm, ho, hb⟩
  rw [hl] at hm ho
  obtain rfl : m = n := hm.trans hn
  exact ⟨a, c, rfl, rdX_own ho h.d.d.lt, hb⟩
abbrev dA : ByteArray := ⟨#[97]⟩
abbrev tAbc : ByteArray := ⟨#[97, 98, 99]⟩
end Go.Proofs.YtjebpppjhkkebaaGreatDoor
/-
  Wal: a law's loop of appends; an append to a log that was opened without a crash ahead.
-/
set_option linter.unusedSimpArgs false
set_option linter.unusedVariables false
namespace Go.Proofs.YtjebpppjhkkebaaGreatDoor
open Go.RowKit Go.Lib
variable {F F' G G' H : Nat → Prop} {B : Nat} {w w' w0 : World} {lb mp db mb k n : Nat} {L L' : Lg} {D D' : Dk} {S S' : List (Nat × Fl)} {M : Option Fl} {z : Option Fz} {f : Fl} {dir r : ByteArray} {size q c : Int} {done : List ByteArray}

abbrev dW : ByteArray := ⟨#[119]⟩
def total (l : List ByteArray) : Nat := (l.map (fun r => 8 + r.size)).sum
/-- A law's log behind some appends. -/
structure Lp (B : Nat) (w0 w : World) (F G : Nat → Prop) (db mb lb mp : Nat) (size : Int) (S : List (Nat × Fl)) (k : Nat) (L : Lg) (done : List ByteArray) : Prop where
  ws : WS B w0 w F G db mb lb mp (dkF (dmap dW S none) (-1) none k) L
  run : Run dW size L S
  all : allR S = done
  used : usedS S = total done
  last : lastN S ≤ done.length
  len : S.length ≤ done.length
  acts : k ≤ 3 * done.length
  op : done ≠ [] → L.op ≠ 0
end Go.Proofs.YtjebpppjhkkebaaGreatDoor
/-
  Wal, plain: numbers in a row; what Drop leaves; what is told from a number on.
-/
set_option linter.unusedSimpArgs false
set_option linter.unusedVariables false
namespace Go.Proofs.YtjebpppjhkkebaaGreatDoor
open Go.RowKit Go.Lib
variable {k n : Nat} {L L' : Lg} {S S' K T : List (Nat × Fl)} {f : Fl} {dir r : ByteArray} {size q c op long below : Int}

/-- The numbers go up from 1. -/
def Cons (S : List (Nat × Fl)) : Prop := S.map (·.1) = List.range' 1 S.length
/-- Each segment is small, or has one record. -/
def SzOk (size : Int) (S : List (Nat × Fl)) : Prop := ∀ p ∈ S, (p.2.data.size : Int) ≤ size ∨ (recsOf p.2.data).length = 1
/-- What Drop keeps. -/
def keepS (below op : Int) (S : List (Nat × Fl)) : List (Nat × Fl) := S.filter (fun p => decide (below ≤ (p.1 : Int) ∨ (p.1 : Int) = op))
end Go.Proofs.YtjebpppjhkkebaaGreatDoor
/-
  Wal: a log behind a crash: opened, mended or not, appended to.
-/
set_option linter.unusedSimpArgs false
set_option linter.unusedVariables false
namespace Go.Proofs.YtjebpppjhkkebaaGreatDoor
open Go.RowKit Go.Lib
variable {F F' G G' H : Nat → Prop} {B : Nat} {w w' w0 : World} {lb mp db mb k n : Nat} {L L' L1 : Lg} {D D' D1 : Dk} {S S' : List (Nat × Fl)} {M : Option Fl} {z : Option Fz} {f : Fl} {dir r : ByteArray} {size q c : Int}

/-- The files that a log left behind, when the power failed. -/
structure Aft (S : List (Nat × Fl)) : Prop where
  rise : Rise S
  syn : ∀ p ∈ S, Synd p.2
  good : (∀ p ∈ S, Good p.2.data) ∨ ∃ (A : List (Nat × Fl)) (n : Nat) (f : Fl), S = A ++ [(n, f)] ∧ (∀ p ∈ A, Good p.2.data) ∧ ¬ Good f.data
/-- A log that goes on: it runs, or its last segment is to be mended. -/
def Lv (dir : ByteArray) (size : Int) (L : Lg) (S : List (Nat × Fl)) : Prop := Run dir size L S ∨ ∃ (A : List (Nat × Fl)) (n : Nat) (f : Fl), S = A ++ [(n, f)] ∧ TornL dir size L A n f
/-- What an append leaves of a log that goes on. -/
def LvApp (dir : ByteArray) (size q : Int) (S : List (Nat × Fl)) (r : ByteArray) (k : Nat) (x : Int × Dk × Lg) : Prop :=
  (x.1 = 0 ∨ (x.1 = 24 ∧ 0 ≤ q)) ∧ ∃ S' k', x.2.1 = dkF (dmap dir S' none) q none k' ∧ k' ≤ k + 9 ∧ S'.length ≤ S.length + 1 ∧ lastN S' ≤ lastN S + 1 ∧
    ((x.1 = 0 ∧ Run dir size x.2.2 S' ∧ x.2.2.op ≠ 0 ∧ allR S' = allR S ++ [r]) ∨ (x.1 = 24 ∧ Lv dir size x.2.2 S' ∧ allR S' = allR S))
/-- Sync of a log that runs. -/
theorem sync_run (hd : nmB dir = true) (hd40 : dir.size ≤ 40) (h : Run dir size L S) : ∃ S' k', L.sync (dkF (dmap dir S none) q none k) = (0, dkF (dmap dir S' none) q none k') ∧ k' ≤ k + 1 ∧ Run dir size L S' ∧ allR S' = allR S ∧ S'.length = S.length ∧ lastN S' = lastN S ∧ usedS S' = usedS S ∧ (∀ p ∈ S', Synd p.2) ∧ S'.map (fun p => (p.1, p.2.data)) = S.map (fun p => (p.1, p.2.data)) := by
  rcases h.op with ⟨h0, h1, hs⟩ | ⟨A, n, f, rfl, ho, hlong, hs⟩
  · refine ⟨S, k, ?_, by omega, h, rfl, rfl, rfl, rfl, hs, rfl⟩
    unfold Lg.sync
    rw [if_pos h0]
  · have hn1 := (h.rise.mid (B := [])).2.2.1
    have hall : ∀ p ∈ A ++ [(n, (⟨f.data, f.data.size⟩ : Fl))], Synd p.2 := by
      intro p hp
      rcases List.mem_append.1 hp with hp | hp
      · exact hs p hp
      · rw [List.mem_singleton] at hp; subst hp; rfl
    refine ⟨A ++ [(n, ⟨f.data, f.data.size⟩)], k + 1, ?_, Nat.le_refl _, ⟨h.dir, h.size, h.torn, h.left, ?_, h.rise.swap _, ?_, fun p hp => Nat.le_of_eq (hall p hp), .inr ⟨A, n, _, rfl, ho, hlong, hs⟩⟩, ?_, by simp, by rw [lastN_snoc, lastN_snoc], ?_, hall, by simp⟩
    · unfold Lg.sync
      have hz : segZ L.dir L.op = segN dir n := by unfold segZ; rw [h.dir, ho]; rfl
      rw [if_neg (by rw [ho]; omega), hz, dk_sync (segN_nm hd hd40 n) (dmap_get (B := []) h.rise)]
      have ha : (dkF (dmap dir (A ++ [(n, f)]) none) q none k).act (fun m => setL m (segN dir n) ⟨f.data, f.data.size⟩) = (0, dkF (setL (dmap dir (A ++ [(n, f)]) none) (segN dir n) ⟨f.data, f.data.size⟩) q none (k + 1)) := rfl
      rw [ha, dmap_set (B := []) h.rise]
    · rw [h.m, mOf_app, mOf_app]
      rfl
    · intro p hp
      rcases List.mem_append.1 hp with hp | hp
      · exact h.good p (List.mem_append_left _ hp)
      · rw [List.mem_singleton] at hp; subst hp; exact h.good (n, f) (by simp)
    · rw [allR_app, allR_app, allR_one, allR_one]
    · rw [usedS_app, usedS_app, usedS_one, usedS_one]
theorem c_sync_run (h : WS B w0 w F G db mb lb mp (dkF (dmap dir S none) q none k) L) (hd : nmB dir = true) (hd40 : dir.size ≤ 40) (hr : Run dir size L S) (hk : k + 60 ≤ 1000000) :
    Calls Tryz.prog 29 #[.pointer (some ⟨lb, 0, none⟩)] w fun e w' => e = .returned (.int .i64 0) ∧ ∃ S' k', WS B w0 w' F G db mb lb mp (dkF (dmap dir S' none) q none k') L ∧ Step F F w w' ∧ k' ≤ k + 1 ∧ Run dir size L S' ∧ allR S' = allR S ∧ S'.length = S.length ∧ lastN S' = lastN S ∧ usedS S' = usedS S ∧ (∀ p ∈ S', Synd p.2) ∧ S'.map (fun p => (p.1, p.2.data)) = S.map (fun p => (p.1, p.2.data)) := by
  obtain ⟨S', k', h1, h2, h3⟩ := sync_run (q := q) (k := k) hd hd40 hr
  refine (w_sync h.l h.d.d (fun q e => (h.sub q e).2) rfl (by show k < _; omega)).mono ?_
  rintro e w' ⟨he, hd', ht⟩
  rw [h1] at he hd'
  obtain ⟨hw, s⟩ := h.disk hd' ht
  exact ⟨he, S', k', hw, s, h2, h3⟩

end Go.Proofs.YtjebpppjhkkebaaGreatDoor
/-
  Manifest, plain: what ManifestGrows asks of notes; an edit that says nothing; what the laws' first call says.
-/
set_option linter.unusedSimpArgs false
set_option linter.unusedVariables false
namespace Go.Proofs.YtjebpppjhkkebaaGreatDoor

theorem pw_get {α : Type} {R : α → α → Prop} {l : List α} (h : l.Pairwise R) {i j : Nat} (hij : i < j) (hj : j < l.length) : R (l[i]'(by omega)) l[j] := List.pairwise_iff_getElem.1 h i j _ hj hij
/-- Two notes. -/
theorem grow_notes {s : PS} (h : GoodS s) {k : Nat} (h0 : 0 < k) (hk : k < s.ns.length) : kc (s.ns[k - 1]'(by omega)).1 s.ns[k].1 < 0 ∧ s.ns[k].2.size ≠ 0 :=
  ⟨pw_get h.nsrt (by omega : k - 1 < k) hk, (h.note _ (List.getElem_mem hk)).2⟩
def e00 : PE := ⟨[], [], 0, [], []⟩
theorem notesF_none {s : PS} (h : GoodS s) : notesF s.ns [] = s.ns := by
  refine srt_ext LtN.irrefl (fun _ _ => LtN.asymm) (notesF_srt _ _) h.nsrt (fun p => ?_)
  rw [notesF_iff, List.append_nil, baseN_self h.nsrt.nd, getL_iff h.nsrt.nd]
  exact ⟨fun h => h.1, fun hp => ⟨hp, (h.note p hp).2⟩⟩
theorem applyF_none {s : PS} (h : GoodS s) (h1 : 1 ≤ s.next) : applyF s e00 = (0, s) := by
  have hm : max s.next 1 = s.next := by omega
  have hn := h.nfew
  rcases applyF_notes h (l := []) rfl (by simp [textsN]) with ⟨h2, _⟩ | ⟨_, h2⟩
  · rw [notesF_none h] at h2; omega
  · unfold e00
    rw [h2, notesF_none h, hm]
def fA : Fi := ⟨0, 1, 1, 5, ⟨#[97]⟩, ⟨#[98]⟩⟩
def eA : PE := ⟨[fA], [], 0, [], []⟩
def s02 : PS := ⟨[fA], 2, 0, [], []⟩
theorem validA : validF fA = true := by decide +kernel
theorem nF00 : notesF [] [] = [] := notesF_none good00
theorem aA1 : applyF s01 eA = (0, s02) := by
  have hr : rightE eA = true := by
    unfold rightE eA inI
    simp only [List.all_cons, validA, List.all_nil]
    decide
  have ht : tabF s01 eA = (0, [fA], 2) := by
    unfold tabF s01 eA baseF
    simp only [remF, List.map_nil]
    have : addF (max 1 1) [] (max 1 1) [fA] = some ([((1 : Int), fA)], (2 : Int)) := by rfl
    rw [this]
    show (0, sortFi [fA], (2 : Int)) = _
    rw [sortFi_self (by simp [NumsF]) (by simp [SrtF])]
  have ho : ¬ OrdBad s01 eA := by
    rintro (⟨h, _⟩ | ⟨h, _⟩)
    · exact h rfl
    · exact absurd h (by decide)
  have hap : ApartF [fA] := by simp [ApartF]
  have hl : ¬ LongBad eA [fA] (notesF s01.ns eA.ns) := by
    show ¬ LongBad eA [fA] (notesF [] [])
    rw [nF00]
    unfold LongBad textsN eA
    simp
  unfold applyF
  rw [hr, ht]
  simp only [if_neg ho, hap, not_true_eq_false, if_false, if_neg hl, ne_eq]
  simp
  show (⟨[fA], 2, (if 0 < eA.log then eA.log else s01.log), (if eA.fl ≠ [] then eA.fl else s01.fl), notesF [] []⟩ : PS) = s02
  rw [nF00]
  rfl
theorem good02 : GoodS s02 := (good_apply good01 aA1).1
theorem aA2 : applyF s02 eA = (23, s00) := by
  have hr : rightE eA = true := by
    unfold rightE eA inI
    simp only [List.all_cons, validA, List.all_nil]
    decide
  have ht : tabF s02 eA = (23, [], 0) := by
    unfold tabF s02 eA baseF
    simp only [remF]
    have : addF (max 2 1) ([fA].map (fun f => (f.nu, f))) (max 2 1) [fA] = none := by rfl
    rw [this]
  unfold applyF
  rw [hr, ht]
  simp
/-- What ManifestJoined asks. -/
theorem joined_plain {s : PS} (h : GoodS s) {a b : KV} (ha : 1 ≤ a.1.size ∧ a.1.size ≤ 32) (hb : 1 ≤ b.1.size ∧ b.1.size ≤ 32) (ht : a.2.size + b.2.size ≤ 9000) (hab : a.1 ≠ b.1) :
    applyF s ⟨[], [], 0, [], [a]⟩ = (2, s00) ∨ ∃ x, applyF s ⟨[], [], 0, [], [a]⟩ = (0, x) ∧ GoodS x ∧
      ((applyF x ⟨[], [], 0, [], [b]⟩ = (2, s00) ∧ applyF s ⟨[], [], 0, [], [b, a]⟩ = (2, s00)) ∨ ∃ y, applyF x ⟨[], [], 0, [], [b]⟩ = (0, y) ∧ applyF s ⟨[], [], 0, [], [b, a]⟩ = (0, y)) := by
  have na : noteB a = true := by unfold noteB; simp only [Bool.and_eq_true, decide_eq_true_eq]; omega
  have nb : noteB b = true := by unfold noteB; simp only [Bool.and_eq_true, decide_eq_true_eq]; omega
  have ta : textsN [a] ≤ 50000 := by simp [textsN]; omega
  have tb : textsN [b] ≤ 50000 := by simp [textsN]; omega
  have tt : textsN [b, a] ≤ 50000 := by simp [textsN]; omega
  rcases applyF_notes h (l := [a]) (by simp [na]) ta with ⟨_, h1⟩ | ⟨_, h1⟩
  · exact .inl h1
  · right
    have hx := (good_apply h h1).1
    refine ⟨_, h1, hx, ?_⟩
    have hm : max (max s.next 1) 1 = max s.next 1 := by omega
    have hj := notesF_joined (s := s.ns) hab
    rcases applyF_notes hx (l := [b]) (by simp [nb]) tb with ⟨c, h2⟩ | ⟨c, h2⟩ <;>
      rcases applyF_notes h (l := [b, a]) (by simp [na, nb]) tt with ⟨d, h3⟩ | ⟨d, h3⟩ <;> (simp only [hj, hm] at c h2)
    · exact .inl ⟨h2, h3⟩
    · exact absurd c d
    · exact absurd d c
    · exact .inr ⟨_, h2, h3⟩
end Go.Proofs.YtjebpppjhkkebaaGreatDoor
