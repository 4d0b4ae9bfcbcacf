/-
  A slice of Ops that came in, read as a list.
-/
import Derived.Test.YtmodgjjlgobjcaaGreatBulk
import Derived.Test.YtmodgjjlgobjcaaGreatPlain
namespace Go.Proofs.YtmodgjjlgobjcaaGreat
open Go.RowKit Go.ChangeShapes Go.WideShapes Go.ChangeAt Go.Deep

structure LOp where
  k : Int
  n : Int
  key : ByteArray
  val : ByteArray
def LOp.wf (o : LOp) : Prop := (Lit.int .i64 o.k).wf = true ∧ (Lit.int .i64 o.n).wf = true ∧ o.key.size + o.val.size ≤ 1048576
/-- The cells of one Op. -/
def LOp.here (w : World) (b off : Nat) (o : LOp) : Prop :=
  w.cell? ⟨b, off, none⟩ = some (.int .i64 o.k) ∧ w.cell? ⟨b, off + 1, none⟩ = some (.int .i64 o.n) ∧ w.cell? ⟨b, off + 2, none⟩ = some (.string o.key) ∧ w.cell? ⟨b, off + 3, none⟩ = some (.string o.val)
def OpsAt (w : World) (a : Option Addr) (len : Nat) (l : List LOp) : Prop :=
  l.length = len ∧ (len = 0 ∨ ∃ b off, a = some ⟨b, off, none⟩ ∧ b < w.heap.size ∧ ∀ i (hi : i < l.length), l[i].here w b (off + i * 4)) ∧ ∀ o ∈ l, o.wf

section
variable {H : Type} {enc : TypeId × Value → H} {w : World} {base : Nat} {spare : Nat → Bool} {held : Bool}
set_option maxRecDepth 100000 in
theorem open_op {n : Nat} {cs : List Value} {x : DataW H × List MemPlace} (h : DataW.trod enc Tryz.prog w base spare held n 54 cs = some x) (hb : Rows.uptoBulk x.1 ≤ 1048576) :
    ∃ o : LOp, cs[0]? = some (.int .i64 o.k) ∧ cs[1]? = some (.int .i64 o.n) ∧ cs[2]? = some (.string o.key) ∧ cs[3]? = some (.string o.val) ∧ o.wf := by
  obtain ⟨xs, n', _, hx, _, hlen, hf⟩ := DataW.trod_struct Tryz.underlying54 h
  have hl4 : xs.length = 4 := hlen
  obtain ⟨k, e0, _, w0⟩ := DataW.trod_int Tryz.underlying3 ((hf 0 _ rfl).trans (List.getElem?_eq_getElem (by omega)))
  obtain ⟨a, e1, _, w1⟩ := DataW.trod_int Tryz.underlying3 ((hf 1 _ rfl).trans (List.getElem?_eq_getElem (by omega)))
  obtain ⟨b, e2, x2, w2⟩ := DataW.trod_string Tryz.underlying9 ((hf 2 _ rfl).trans (List.getElem?_eq_getElem (by omega)))
  obtain ⟨d, e3, x3, w3⟩ := DataW.trod_string Tryz.underlying9 ((hf 3 _ rfl).trans (List.getElem?_eq_getElem (by omega)))
  suffices hbd : b.size + d.size ≤ 1048576 from ⟨⟨k, a, b, d⟩, take_one e0, take_one e1, take_one e2, take_one e3, w0, w1, hbd⟩
  obtain ⟨y0, y1, y2, y3, rfl⟩ : ∃ y0 y1 y2 y3, xs = [y0, y1, y2, y3] := by
    match xs, hl4 with
    | [a, b, c, d], _ => exact ⟨a, b, c, d, rfl⟩
  have x6 : y2.1 = _ := congrArg Prod.fst x2
  have x7 : y3.1 = _ := congrArg Prod.fst x3
  rw [hx] at hb
  refine Nat.le_trans ?_ hb
  show _ ≤ Rows.uptoBulk (.agg [y0.1, y1.1, y2.1, y3.1])
  rw [x6, x7]
  simp [Rows.uptoBulk, Rows.uptoBulkAll]
  have h1 : b.data.size = b.size := rfl
  have h2 : d.data.size = d.size := rfl
  omega
theorem open_ops {fuel : Nat} {a : Option Addr} {len cap : Nat} {x : DataW H × List MemPlace} (h : DataW.trod enc Tryz.prog w base spare held fuel 22 [.slice a len cap] = some x) (hb : Rows.uptoBulk x.1 ≤ 1048576) :
    ∃ l, OpsAt w a len l ∧ len ≤ maxLen := by
  rcases open_slice Tryz.underlying22 h with ⟨hcs, _⟩ | ⟨ad, ln, cp, m, n, D, Pl, hcs, _, hl, hm, hmm, hx, hi⟩
  · simp at hcs
    obtain ⟨rfl, rfl, rfl⟩ := hcs
    exact ⟨[], ⟨rfl, Or.inl rfl, by simp⟩, Nat.zero_le _⟩
  · simp at hcs
    obtain ⟨rfl, rfl, rfl⟩ := hcs
    have hlm : len ≤ m := by rw [hmm]; split <;> omega
    have hC : Tryz.prog.cellsOf 54 = 4 := by kernel_rfl
    rw [hC] at hi
    have hbk : ∀ i, i < len → Rows.uptoBulk (D i) ≤ 1048576 := fun i hil => by
      refine Nat.le_trans ?_ hb
      rw [hx]
      show _ ≤ Rows.uptoBulk (.slice _ _)
      rw [← bulk_slice]
      have := bulk_part (d := D i) (l := (List.range len).map D) (List.mem_map.2 ⟨i, List.mem_range.2 hil, rfl⟩)
      omega
    have each : ∀ i, i < len → ∃ o : LOp, o.wf ∧ w.cell? (ad.add (i * 4)) = some (.int .i64 o.k) ∧ w.cell? ((ad.add (i * 4)).add 1) = some (.int .i64 o.n) ∧ w.cell? ((ad.add (i * 4)).add 2) = some (.string o.key) ∧ w.cell? ((ad.add (i * 4)).add 3) = some (.string o.val) := by
      intro i hil
      obtain ⟨cs', hc, ht⟩ := hi i (by omega)
      obtain ⟨_, _, hat⟩ := World.cells?_some hc
      obtain ⟨o, e0, e1, e2, e3, hw⟩ := open_op ht (hbk i hil)
      have h0 := (hat 0 (by omega)).trans e0
      rw [show (ad.add (i * 4)).add 0 = ad.add (i * 4) from by unfold Addr.add; simp] at h0
      exact ⟨o, hw, h0, (hat 1 (by omega)).trans e1, (hat 2 (by omega)).trans e2, (hat 3 (by omega)).trans e3⟩
    obtain ⟨l, hll, hp⟩ := list_of _ len each
    refine ⟨l, ⟨hll, ?_, ?_⟩, by omega⟩
    · by_cases h0 : len = 0
      · exact Or.inl h0
      · refine Or.inr ?_
        obtain ⟨b, off, spot⟩ := ad
        have hc := (hp 0 (by omega)).2.1
        have hspot : spot = none := by simpa [Addr.add] using World.cell?_spot hc
        subst hspot
        refine ⟨b, off, rfl, ?_, fun i hil => ?_⟩
        · exact World.block_lt_of_cell? _ _ (by rw [add_none] at hc; exact hc)
        · obtain ⟨_, q0, q1, q2, q3⟩ := hp i hil
          rw [add_none] at q0 q1 q2 q3
          rw [add_none] at q1 q2 q3
          exact ⟨q0, q1, q2, q3⟩
    · intro o ho
      obtain ⟨i, hil, rfl⟩ := List.mem_iff_getElem.1 ho
      exact (hp i hil).1
end
end Go.Proofs.YtmodgjjlgobjcaaGreat
