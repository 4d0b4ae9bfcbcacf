/-
  Skip lists: words, and what stands where in the memory.
-/
import Derived.Test.YtmodgjjlgobjcaaGreatFrame
import Derived.Test.YtmodgjjlgobjcaaGreatShelf
namespace Go.Proofs.YtmodgjjlgobjcaaGreat
open Go.RowKit

/-- A pair in the list: its block, key, value, height. -/
structure Nd where
  b : Nat
  k : ByteArray
  v : ByteArray
  h : Nat

def kcmp (a b : ByteArray) : Int := Lib.compareBytes a.data.toList b.data.toList
def ptr (o : Option Nat) : Value := .pointer (o.map fun b => ⟨b, 0, none⟩)
/-- The next pair of lane h. -/
def nxt (L : List Nd) (h : Nat) : Option Nat := (L.find? (fun n => decide (h < n.h))).map (·.b)
def bytesOf (L : List Nd) : Nat := (L.map fun n => n.k.size + n.v.size).sum

structure NdAt (w : World) (n : Nd) : Prop where
  c0 : w.cell? ⟨n.b, 0, none⟩ = some (.string n.k)
  c1 : w.cell? ⟨n.b, 1, none⟩ = some (.string n.v)
  c2 : w.cell? ⟨n.b, 2, none⟩ = some (.int .i64 (n.h : Int))
  fz : ∀ j, w.frozen? ⟨n.b, j, none⟩ = false

/-- A block of plain cells. -/
def PlainB (w : World) (b : Nat) : Prop := ∃ c t, w.heap[b]? = some (.cells c t (0, 0))
theorem PlainB.alloc (w : World) (c : Array Value) (t : TypeId) : PlainB (w.alloc (.cells c t)) w.heap.size := ⟨c, t, by
  show (w.heap.push (.cells c t))[w.heap.size]? = some (.cells c t)
  simp⟩
theorem PlainB.turn {F : Nat → Prop} {w w' : World} {b : Nat} (h : PlainB w b) (ht : Tn F w w') (hb : ¬ F b) : PlainB w' b := by
  obtain ⟨c, t, h⟩ := h
  exact ⟨c, t, (ht.block b ((Array.getElem?_eq_some_iff.1 h).1) hb).trans h⟩
theorem PlainB.setCell {w : World} {b : Nat} (h : PlainB w b) (p : Addr) (u : Value) : PlainB (w.setCell p u) b := by
  obtain ⟨c, t, h⟩ := h
  by_cases e : b = p.block
  · subst e
    unfold World.setCell
    refine ⟨if p.spot.isSome then c else c.setIfInBounds p.off u, t, ?_⟩
    show (w.heap.modify p.block _)[p.block]? = _
    rw [Array.getElem?_modify, if_pos rfl, h]
    rfl
  · exact ⟨c, t, (Below.heap_setCell w p u b e).trans h⟩

/-- At sb stands a list of the pairs L. -/
structure SkAt (w : World) (sb : Nat) (L : List Nd) (fr : Bool) : Prop where
  head : ∀ h, h < 12 → w.cell? ⟨sb, 3 + h, none⟩ = some (ptr (nxt L h))
  cnt : w.cell? ⟨sb, 15, none⟩ = some (.int .i64 (L.length : Int))
  byt : w.cell? ⟨sb, 16, none⟩ = some (.int .i64 (bytesOf L : Int))
  frz : w.cell? ⟨sb, 17, none⟩ = some (.bool fr)
  fz : ∀ j, w.frozen? ⟨sb, j, none⟩ = false
  node : ∀ i (hi : i < L.length), NdAt w L[i]
  lane : ∀ i (hi : i < L.length) h, h < 12 → w.cell? ⟨L[i].b, 3 + h, none⟩ = some (if h < L[i].h then ptr (nxt (L.drop (i + 1)) h) else .pointer none)
  sorted : L.Pairwise (fun a b => kcmp a.k b.k < 0)
  hts : ∀ n ∈ L, 1 ≤ n.h ∧ n.h ≤ 12
  sizes : ∀ n ∈ L, n.k.size ≤ 65536 ∧ n.v.size ≤ 65536
  nod : (sb :: L.map (·.b)).Nodup
  len : L.length ≤ 100000
  pl : PlainB w sb ∧ ∀ n ∈ L, PlainB w n.b

/-- The block of the p-th pair; of the head for 0. -/
def blk (sb : Nat) (L : List Nd) (p : Nat) : Nat := match p with
  | 0 => sb
  | q + 1 => (L.map (·.b)).getD q 0
/-- Lane h has the p-th pair. -/
def inLane (L : List Nd) (h p : Nat) : Prop := p = 0 ∨ ∃ n, L[p - 1]? = some n ∧ 1 ≤ p ∧ h < n.h

theorem SkAt.next {w : World} {sb : Nat} {L : List Nd} {fr : Bool} (s : SkAt w sb L fr) {h p : Nat} (hh : h < 12) (hp : inLane L h p) : w.cell? ⟨blk sb L p, 3 + h, none⟩ = some (ptr (nxt (L.drop p) h)) := by
  rcases hp with rfl | ⟨n, hn, h1, hlt⟩
  · simpa [blk] using s.head h hh
  · obtain ⟨q, rfl⟩ : ∃ q, p = q + 1 := ⟨p - 1, by omega⟩
    simp only [Nat.add_sub_cancel] at hn
    obtain ⟨hq, hqn⟩ := List.getElem?_eq_some_iff.1 hn
    have := s.lane q hq h hh
    rw [hqn, if_pos hlt] at this
    have e : blk sb L (q + 1) = n.b := by simp [blk, hn]
    rw [e]
    exact this

/-- The next pair of a lane, as a place in the list. -/
theorem nxt_some {L : List Nd} {h p : Nat} (hp : p ≤ L.length) {b : Nat} (e : nxt (L.drop p) h = some b) : ∃ q n, p ≤ q ∧ L[q]? = some n ∧ n.b = b ∧ h < n.h ∧ ∀ j n', p ≤ j → j < q → L[j]? = some n' → n'.h ≤ h := by
  unfold nxt at e
  obtain ⟨n, hn, rfl⟩ := Option.map_eq_some_iff.1 e
  obtain ⟨hnh, as1, bs, hab, hno⟩ := List.find?_eq_some_iff_append.1 hn
  have hL : L = L.take p ++ (as1 ++ n :: bs) := by rw [← hab, List.take_append_drop]
  have hlen : (L.take p).length = p := by rw [List.length_take]; omega
  refine ⟨p + as1.length, n, by omega, ?_, rfl, by simpa using hnh, fun j n' h1 h2 hj => ?_⟩
  · rw [hL, List.getElem?_append_right (by omega), hlen, List.getElem?_append_right (by omega)]
    simp
  · rw [hL, List.getElem?_append_right (by omega), hlen, List.getElem?_append_left (by omega)] at hj
    have := hno n' (List.mem_of_getElem? hj)
    simpa using this
theorem nxt_none {L : List Nd} {h p : Nat} (e : nxt (L.drop p) h = none) : ∀ j n', p ≤ j → L[j]? = some n' → n'.h ≤ h := by
  unfold nxt at e
  simp only [Option.map_eq_none_iff, List.find?_eq_none] at e
  intro j n' h1 hj
  have : (L.drop p)[j - p]? = some n' := by rw [List.getElem?_drop, show p + (j - p) = j by omega]; exact hj
  simpa using e n' (List.mem_of_getElem? this)

/-- How many keys are below one. -/
def below (L : List Nd) (k : ByteArray) : Nat := (L.takeWhile (fun n => decide (kcmp n.k k < 0))).length

theorem compare_any (a b : ByteArray) (w : World) :
    Calls Tryz.prog 34 #[.string a, .string b] w fun e w' => e = .returned (.int .i64 (kcmp a b)) ∧ w = w' := by
  unfold kcmp
  go_enter Tryz.func34, Tryz.ntmps34
  go_wp2_with (go_at_call 99; refine (Tryz.strings_Compare _ _ _).mono ?_; rintro e w' ⟨rfl, rfl⟩)
  go_ret
  exact ⟨rfl, rfl⟩
end Go.Proofs.YtmodgjjlgobjcaaGreat
