/-
  A script for disks that came in, read as a list.
-/
import Derived.Test.YtceamkcaokdgaaaGreatDoorBulk
import Derived.Test.YtceamkcaokdgaaaGreatDoorOpenInts
import Derived.Test.YtceamkcaokdgaaaGreatDoorLPlB
set_option linter.unusedSimpArgs false
set_option linter.unusedVariables false
namespace Go.Proofs.YtceamkcaokdgaaaGreatDoor
open Go.RowKit Go.ChangeShapes Go.WideShapes Go.ChangeAt Go.Deep

structure LOp where
  k : Int
  wh : Int
  a : Int
  b : Int
  ca : Option Addr
  cn : Nat
  cc : Nat
  cs : List Int
  nm : ByteArray
  dt : ByteArray
def LOp.wf (w : World) (o : LOp) : Prop := (Lit.int .i64 o.wh).wf = true ∧ (Lit.int .i64 o.a).wf = true ∧ o.nm.size + o.dt.size ≤ 1048576 ∧ CutsAt w o.ca o.cn o.cc o.cs
/-- The cells of one Op. -/
def LOp.here (w : World) (b off : Nat) (o : LOp) : Prop :=
  w.cell? ⟨b, off, none⟩ = some (.int .i64 o.k) ∧ w.cell? ⟨b, off + 1, none⟩ = some (.int .i64 o.wh) ∧ w.cell? ⟨b, off + 2, none⟩ = some (.int .i64 o.a) ∧ w.cell? ⟨b, off + 3, none⟩ = some (.int .i64 o.b) ∧ w.cell? ⟨b, off + 4, none⟩ = some (.slice o.ca o.cn o.cc) ∧ w.cell? ⟨b, off + 5, none⟩ = some (.string o.nm) ∧ w.cell? ⟨b, off + 6, none⟩ = some (.string o.dt)
def OpsAt (w : World) (a : Option Addr) (len : Nat) (l : List LOp) : Prop :=
  l.length = len ∧ (len = 0 ∨ ∃ b off, a = some ⟨b, off, none⟩ ∧ b < w.heap.size ∧ ∀ i (hi : i < l.length), l[i].here w b (off + i * 7)) ∧ ∀ o ∈ l, o.wf w

section
variable {H : Type} {enc : TypeId × Value → H} {w : World} {base : Nat} {spare : Nat → Bool} {held : Bool}
theorem open_cuts {n : Nat} {cs : List Value} {x : DataW H × List MemPlace} (h : DataW.trod enc Tryz.prog w base spare held n 49 cs = some x) :
    ∃ va vn vc vs, cs = [.slice va vn vc] ∧ CutsAt w va vn vc vs := by
  rcases open_ints Tryz.underlying49 Tryz.underlying3 (by kernel_rfl) h with ⟨hcs, _⟩ | ⟨x, l, c, zs, hcs, _, hl, hm, hz, _, hcell, hwz⟩
  · exact ⟨none, 0, 0, [], by simpa using hcs, rfl, fun _ => rfl, .inl rfl⟩
  · have h1 := ints_at (cap := zs.length) (by rw [hz]; split <;> omega) rfl hcell hwz
    exact ⟨some x, l, c, _, by simpa using hcs, h1.1, (fun e => by cases e), h1.2.1⟩
set_option maxRecDepth 100000 in
theorem open_op {n : Nat} {cs : List Value} {x : DataW H × List MemPlace} (h : DataW.trod enc Tryz.prog w base spare held n 51 cs = some x) (hb : Rows.uptoBulk x.1 ≤ 1048576) :
    ∃ o : LOp, cs[0]? = some (.int .i64 o.k) ∧ cs[1]? = some (.int .i64 o.wh) ∧ cs[2]? = some (.int .i64 o.a) ∧ cs[3]? = some (.int .i64 o.b) ∧ cs[4]? = some (.slice o.ca o.cn o.cc) ∧ cs[5]? = some (.string o.nm) ∧ cs[6]? = some (.string o.dt) ∧ o.wf w := by
  obtain ⟨xs, n', _, hx, _, hlen, hf⟩ := DataW.trod_struct Tryz.underlying51 h
  have hl7 : xs.length = 7 := hlen
  obtain ⟨k, e0, _, w0⟩ := DataW.trod_int Tryz.underlying3 ((hf 0 _ rfl).trans (List.getElem?_eq_getElem (by omega)))
  obtain ⟨wh, e1, _, w1⟩ := DataW.trod_int Tryz.underlying3 ((hf 1 _ rfl).trans (List.getElem?_eq_getElem (by omega)))
  obtain ⟨a, e2, _, w2⟩ := DataW.trod_int Tryz.underlying3 ((hf 2 _ rfl).trans (List.getElem?_eq_getElem (by omega)))
  obtain ⟨b, e3, _, w3⟩ := DataW.trod_int Tryz.underlying3 ((hf 3 _ rfl).trans (List.getElem?_eq_getElem (by omega)))
  obtain ⟨va, vn, vc, vs, e4, w4⟩ := open_cuts ((hf 4 _ rfl).trans (List.getElem?_eq_getElem (by omega)))
  obtain ⟨s, e5, x5, w5⟩ := DataW.trod_string Tryz.underlying9 ((hf 5 _ rfl).trans (List.getElem?_eq_getElem (by omega)))
  obtain ⟨d, e6, x6, w6⟩ := DataW.trod_string Tryz.underlying9 ((hf 6 _ rfl).trans (List.getElem?_eq_getElem (by omega)))
  suffices hbd : s.size + d.size ≤ 1048576 from ⟨⟨k, wh, a, b, va, vn, vc, vs, s, d⟩, take_one e0, take_one e1, take_one e2, take_one e3, take_one e4, take_one e5, take_one e6, w1, w2, hbd, w4⟩
  obtain ⟨y0, y1, y2, y3, y4, y5, y6, rfl⟩ : ∃ y0 y1 y2 y3 y4 y5 y6, xs = [y0, y1, y2, y3, y4, y5, y6] := by
    match xs, hl7 with
    | [a, b, c, d, e, f, g], _ => exact ⟨a, b, c, d, e, f, g, rfl⟩
  have x8 : y5.1 = _ := congrArg Prod.fst x5
  have x9 : y6.1 = _ := congrArg Prod.fst x6
  rw [hx] at hb
  refine Nat.le_trans ?_ hb
  show _ ≤ Rows.uptoBulk (.agg [y0.1, y1.1, y2.1, y3.1, y4.1, y5.1, y6.1])
  rw [x8, x9]
  simp [Rows.uptoBulk, Rows.uptoBulkAll]
  have h1 : s.data.size = s.size := rfl
  have h2 : d.data.size = d.size := rfl
  omega
theorem open_ops {fuel : Nat} {a : Option Addr} {len cap : Nat} {x : DataW H × List MemPlace} (h : DataW.trod enc Tryz.prog w base spare held fuel 22 [.slice a len cap] = some x) (hb : Rows.uptoBulk x.1 ≤ 1048576) :
    ∃ l, OpsAt w a len l ∧ len ≤ maxLen := by
  rcases open_slice Tryz.underlying22 h with ⟨hcs, _⟩ | ⟨ad, ln, cp, m, n, D, Pl, hcs, _, hl, hm, hmm, hx, hi⟩
  · simp at hcs
    obtain ⟨rfl, rfl, rfl⟩ := hcs
    exact ⟨[], ⟨rfl, Or.inl rfl, by simp⟩, Nat.zero_le _⟩
  · simp at hcs
    obtain ⟨rfl, rfl, rfl⟩ := hcs
    have hlm : len ≤ m := by rw [hmm]; split <;> omega
    have hC : Tryz.prog.cellsOf 51 = 7 := by kernel_rfl
    rw [hC] at hi
    have hbk : ∀ i, i < len → Rows.uptoBulk (D i) ≤ 1048576 := fun i hil => by
      refine Nat.le_trans ?_ hb
      rw [hx]
      show _ ≤ Rows.uptoBulk (.slice _ _)
      rw [← bulk_slice]
      have := bulk_part (d := D i) (l := (List.range len).map D) (List.mem_map.2 ⟨i, List.mem_range.2 hil, rfl⟩)
      omega
    have each : ∀ i, i < len → ∃ o : LOp, o.wf w ∧ w.cell? (ad.add (i * 7)) = some (.int .i64 o.k) ∧ w.cell? ((ad.add (i * 7)).add 1) = some (.int .i64 o.wh) ∧ w.cell? ((ad.add (i * 7)).add 2) = some (.int .i64 o.a) ∧ w.cell? ((ad.add (i * 7)).add 3) = some (.int .i64 o.b) ∧ w.cell? ((ad.add (i * 7)).add 4) = some (.slice o.ca o.cn o.cc) ∧ w.cell? ((ad.add (i * 7)).add 5) = some (.string o.nm) ∧ w.cell? ((ad.add (i * 7)).add 6) = some (.string o.dt) := by
      intro i hil
      obtain ⟨cs', hc, ht⟩ := hi i (by omega)
      obtain ⟨_, _, hat⟩ := World.cells?_some hc
      obtain ⟨o, e0, e1, e2, e3, e4, e5, e6, hw⟩ := open_op ht (hbk i hil)
      have h0 := (hat 0 (by omega)).trans e0
      rw [show (ad.add (i * 7)).add 0 = ad.add (i * 7) from by unfold Addr.add; simp] at h0
      exact ⟨o, hw, h0, (hat 1 (by omega)).trans e1, (hat 2 (by omega)).trans e2, (hat 3 (by omega)).trans e3, (hat 4 (by omega)).trans e4, (hat 5 (by omega)).trans e5, (hat 6 (by omega)).trans e6⟩
    obtain ⟨l, hll, hp⟩ := list_of _ len each
    refine ⟨l, ⟨hll, ?_, ?_⟩, by omega⟩
    · by_cases h0 : len = 0
      · exact Or.inl h0
      · refine Or.inr ?_
        obtain ⟨b, off, spot⟩ := ad
        have hc := (hp 0 (by omega)).2.1
        have hspot : spot = none := by simpa [Addr.add] using World.cell?_spot hc
        subst hspot
        refine ⟨b, off, rfl, ?_, fun i hil => ?_⟩
        · exact World.block_lt_of_cell? _ _ (by rw [add_none] at hc; exact hc)
        · obtain ⟨_, q0, q1, q2, q3, q4, q5, q6⟩ := hp i hil
          rw [add_none] at q0 q1 q2 q3 q4 q5 q6
          rw [add_none] at q1 q2 q3 q4 q5 q6
          exact ⟨q0, q1, q2, q3, q4, q5, q6⟩
    · intro o ho
      obtain ⟨i, hil, rfl⟩ := List.mem_iff_getElem.1 ho
      exact (hp i hil).1
end
end Go.Proofs.YtceamkcaokdgaaaGreatDoor
