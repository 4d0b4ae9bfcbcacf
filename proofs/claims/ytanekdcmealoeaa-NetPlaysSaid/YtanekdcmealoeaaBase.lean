/-
  The net's words: a message, a slice of messages that a call owns, the state, and that the world holds it.
-/
import Derived.Test.YtanekdcmealoeaaFrame
import Derived.OwnWalk
import Derived.DeepKeys4
namespace Go.Proofs.Ytanekdcmealoeaa
open Go.RowKit Go.Maps

structure Msg where
  f : Int
  t : Int
  d : ByteArray

/-- A net's state. -/
structure St where
  n : Int
  l : List Msg
  cut : Int → Int → Bool
  lost : Int

def mVal (m : Msg) : Value := .agg #[.int .i64 m.f, .int .i64 m.t, .string m.d]
def mCell (m : Msg) : List Value := [.int .i64 m.f, .int .i64 m.t, .string m.d]
def mCells (l : List Msg) : List Value := l.flatMap mCell
theorem mCells_len (l : List Msg) : (mCells l).length = l.length * 3 := by
  induction l with
  | nil => rfl
  | cons m l ih => rw [mCells, List.flatMap_cons, List.length_append, ← mCells, ih, List.length_cons]; simp [mCell]; omega
theorem mCells_append (a b : List Msg) : mCells (a ++ b) = mCells a ++ mCells b := by simp [mCells]
theorem mCells_cons (m : Msg) (b : List Msg) : mCells (m :: b) = mCell m ++ mCells b := rfl
theorem mCells_one (l : List Msg) : ∀ u ∈ mCells l, u.oneCell' = true := by
  intro u hu
  simp only [mCells, List.mem_flatMap] at hu
  obtain ⟨m, _, hm⟩ := hu
  simp only [mCell, List.mem_cons, List.not_mem_nil, or_false] at hm
  rcases hm with rfl | rfl | rfl <;> rfl
theorem mCells_get (l : List Msg) (i : Nat) (hi : i < l.length) : (mCells l)[3 * i]? = some (.int .i64 l[i].f) ∧ (mCells l)[3 * i + 1]? = some (.int .i64 l[i].t) ∧ (mCells l)[3 * i + 2]? = some (.string l[i].d) := by
  induction l generalizing i with
  | nil => simp at hi
  | cons m l ih =>
    cases i with
    | zero => exact ⟨rfl, rfl, rfl⟩
    | succ i =>
      have h := ih i (by simpa using hi)
      rw [mCells_cons]
      have e : ∀ j, (mCell m ++ mCells l)[3 * (i + 1) + j]? = (mCells l)[3 * i + j]? := by
        intro j
        rw [List.getElem?_append_right (by simp [mCell]; omega)]
        congr 1
        simp [mCell]; omega
      exact ⟨(e 0).trans h.1, (e 1).trans h.2.1, (e 2).trans h.2.2⟩

abbrev OwnM (w : World) (v : Value) (l : List Msg) : Prop := w.ownsRow 0 55 3 v l.length (mCells l)

theorem arr60 : Go.WideMaps.ArrKey Try.prog 60 3 2 := ⟨Try.underlying60, by kernel_rfl, by kernel_rfl, by kernel_rfl⟩
theorem laidOut0 : laidOutB Try.prog = true := by kernel_rfl
theorem law60 : Keyed Try.prog 60 := Keyed.of_law (deep_law_laid laidOut0 (m := 2) (by omega) (by decide +kernel) (by kernel_rfl) (by rw [Try.underlying60]))
theorem zero59 (w : World) : (zeroValue 59).run Try.prog w = .ok (.agg #[]) w := by kernel_rfl

/-- What a way reads as, as a key. -/
def wayKey (a b : Int) : Lit := .string (keyBytes [.int .i64 a, .int .i64 b])
theorem keyOf_way {a b : Int} (ha : (Lit.int .i64 a).wf = true) (hb : (Lit.int .i64 b).wf = true) : keyOf Try.prog 60 (.agg #[.int .i64 a, .int .i64 b]) = some (wayKey a b) :=
  Go.WideMaps.keyOf_pair arr60 Try.underlying3 ⟨_, rfl⟩ ha hb
theorem way_inj {a b c d : Int} (ha : (Lit.int .i64 a).wf = true) (hb : (Lit.int .i64 b).wf = true) (hc : (Lit.int .i64 c).wf = true) (hd : (Lit.int .i64 d).wf = true) (h : wayKey a b = wayKey c d) : a = c ∧ b = d := by
  have := law60.inj (keyOf_way ha hb) (h ▸ keyOf_way hc hd)
  simpa using this

/-- The world holds the net's state. -/
structure NetAt (w : World) (nb mb : Nat) (lv : Value) (c : Nat) (s : St) : Prop where
  c0 : w.cell? ⟨nb, 0, none⟩ = some (.int .i64 s.n)
  c1 : w.cell? ⟨nb, 1, none⟩ = some lv
  c2 : w.cell? ⟨nb, 2, none⟩ = some (.map (some mb))
  c3 : w.cell? ⟨nb, 3, none⟩ = some (.int .i64 s.lost)
  fz : ∀ j, w.frozen? ⟨nb, j, none⟩ = false
  row : OwnM w lv s.l
  map : ∃ D : DataW Unit, w.ownsMap Try.prog 60 unitElem mb c D ∧ ∀ a b, (Lit.int .i64 a).wf = true → (Lit.int .i64 b).wf = true → Maps.has D (wayKey a b) = s.cut a b
  nm : nb ≠ mb
  nl : lv.ownBlock ≠ some nb
  ml : lv.ownBlock ≠ some mb
  n0 : 1 ≤ s.n
  n8 : s.n ≤ 8
  len : s.l.length ≤ 400
  l0 : 0 ≤ s.lost
  l1 : s.lost ≤ 9223372036854775807

/-- The blocks of a net. -/
def Foot (nb mb : Nat) (lv : Value) (k : Nat) : Prop := k = nb ∨ k = mb ∨ lv.ownBlock = some k

theorem NetAt.lt {w : World} {nb mb : Nat} {lv : Value} {c : Nat} {s : St} (h : NetAt w nb mb lv c s) : nb < w.heap.size := World.block_lt_of_cell? w _ h.c0
theorem NetAt.foot_lt {w : World} {nb mb : Nat} {lv : Value} {c : Nat} {s : St} (h : NetAt w nb mb lv c s) : ∀ k, Foot nb mb lv k → k < w.heap.size := by
  rintro k (rfl | rfl | hk)
  · exact h.lt
  · obtain ⟨D, hD, _⟩ := h.map; exact hD.lt
  · exact (h.row.lt k hk).2
theorem NetAt.turn {F : Nat → Prop} {w w' : World} {nb mb : Nat} {lv : Value} {c : Nat} {s : St} (h : NetAt w nb mb lv c s) (ht : Tn F w w') (hF : ∀ k, Foot nb mb lv k → ¬ F k) : NetAt w' nb mb lv c s := by
  have hn : ¬ F nb := hF nb (Or.inl rfl)
  refine ⟨ht.cell h.c0 hn, ht.cell h.c1 hn, ht.cell h.c2 hn, ht.cell h.c3 hn, fun j => (ht.frozen h.lt hn).trans (h.fz j), ht.row h.row (fun k hk => hF k (Or.inr (Or.inr hk))), ?_, h.nm, h.nl, h.ml, h.n0, h.n8, h.len, h.l0, h.l1⟩
  obtain ⟨D, hD, hc⟩ := h.map
  exact ⟨D, ht.map hD (hF mb (Or.inr (Or.inl rfl))), hc⟩
theorem NetAt.below {w w' : World} {nb mb : Nat} {lv : Value} {c : Nat} {s : St} (h : NetAt w nb mb lv c s) (hb : Below w.heap.size w w') : NetAt w' nb mb lv c s :=
  h.turn (F := fun _ => False) (Tn.ofBelow hb) (fun _ _ h => h)

/-- A net's own blocks alone turned, and its blocks are old ones of its own, or new. -/
structure Step (nb mb : Nat) (lv : Value) (w : World) (lv' : Value) (w' : World) : Prop where
  tn : Tn (Foot nb mb lv) w w'
  new : ∀ k, lv'.ownBlock = some k → lv.ownBlock = some k ∨ w.heap.size ≤ k

theorem Step.refl {nb mb : Nat} {lv : Value} {w w' : World} (h : Tn (Foot nb mb lv) w w') : Step nb mb lv w lv w' := ⟨h, fun _ hk => Or.inl hk⟩
theorem Step.trans {nb mb : Nat} {l1 l2 l3 : Value} {a b c : World} (h : Step nb mb l1 a l2 b) (k : Step nb mb l2 b l3 c) : Step nb mb l1 a l3 c := by
  refine ⟨h.tn.andThen k.tn ?_, ?_⟩
  · rintro i (rfl | rfl | hi)
    · exact Or.inl (Or.inl rfl)
    · exact Or.inl (Or.inr (Or.inl rfl))
    · exact (h.new i hi).imp (fun e => Or.inr (Or.inr e)) id
  · intro i hi
    rcases k.new i hi with h2 | h2
    · exact h.new i h2
    · exact Or.inr (Nat.le_trans h.tn.size h2)
theorem Step.low {nb mb B : Nat} {lv lv' : Value} {w w' : World} (h : Step nb mb lv w lv' w') (hB : B ≤ w.heap.size) (hF : ∀ k, Foot nb mb lv k → B ≤ k) : Below B w w' ∧ ∀ k, Foot nb mb lv' k → B ≤ k := by
  refine ⟨h.tn.below hB hF, ?_⟩
  rintro k (rfl | rfl | hk)
  · exact hF _ (Or.inl rfl)
  · exact hF _ (Or.inr (Or.inl rfl))
  · rcases h.new k hk with e | e
    · exact hF _ (Or.inr (Or.inr e))
    · omega

/-! What the calls do, in plain words. -/
def St.way (s : St) (a b : Int) : Bool := decide (0 ≤ a) && decide (a < s.n) && decide (0 ≤ b) && decide (b < s.n) && decide (a ≠ b)
def St.lose (s : St) : St := if s.lost < 9223372036854775807 then { s with lost := s.lost + 1 } else s
def St.add (s : St) (m : Msg) : St := { s with l := s.l ++ [m] }
def St.take (s : St) (i : Nat) : St := { s with l := s.l.eraseIdx i }
def St.setCut (s : St) (a b : Int) (x : Bool) : St := { s with cut := fun c d => if c = a ∧ d = b then x else s.cut c d }
def St.sendE (s : St) (a b : Int) (d : ByteArray) : Int := if s.way a b = false then 1 else if 65536 < d.size then 2 else 0
def St.send (s : St) (a b : Int) (d : ByteArray) : St := if s.way a b = false then s else if 65536 < d.size then s else if s.cut a b = true ∨ 400 ≤ s.l.length then s.lose else s.add ⟨a, b, d⟩
end Go.Proofs.Ytanekdcmealoeaa
