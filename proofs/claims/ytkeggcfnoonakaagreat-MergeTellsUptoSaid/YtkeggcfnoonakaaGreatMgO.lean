
/-
  Lists of pairs that came in, read as lists; how much they bulk.
-/
import Derived.Test.YtkeggcfnoonakaaGreatMgJ
import Derived.ProofKit
import Derived.OpenShut
import Derived.ChangeSame
import Derived.Deep.Slices
set_option linter.unusedSimpArgs false
set_option linter.unusedVariables false
namespace Go.Proofs.YtkeggcfnoonakaaGreat
open Go.RowKit Go.ChangeShapes Go.WideShapes Go.ChangeAt Go.Deep

theorem bulk_part {H : Type} {d : DataW H} {l : List (DataW H)} (h : d ∈ l) : Rows.uptoBulk d ≤ Rows.uptoBulkAll l := by
  induction l with
  | nil => simp at h
  | cons x l ih =>
    unfold Rows.uptoBulkAll
    rcases List.mem_cons.1 h with rfl | h
    · omega
    · have := ih h; omega
theorem bulk_one {H : Type} (d : DataW H) : 1 ≤ Rows.uptoBulk d := by
  cases d with
  | lit l => cases l <;> simp [Rows.uptoBulk]
  | nil => simp [Rows.uptoBulk]
  | ptr d => simp [Rows.uptoBulk]
  | slice a b => simp [Rows.uptoBulk]
  | agg a => simp [Rows.uptoBulk]
  | iface t d => simp [Rows.uptoBulk]
  | map a => simp [Rows.uptoBulk]
  | held h => simp [Rows.uptoBulk]
theorem bulk_len {H : Type} (l : List (DataW H)) : l.length ≤ Rows.uptoBulkAll l := by
  induction l with
  | nil => simp
  | cons x l ih =>
    have := bulk_one x
    unfold Rows.uptoBulkAll
    rw [List.length_cons]
    omega
theorem bulk_slice {H : Type} (a b : List (DataW H)) : Rows.uptoBulkAll a + Rows.uptoBulkAll b + 1 = Rows.uptoBulk (.slice a b) := by simp [Rows.uptoBulk]
theorem list_of {α : Type} (p : Nat → α → Prop) : ∀ n, (∀ i, i < n → ∃ x, p i x) → ∃ l : List α, l.length = n ∧ ∀ i (hi : i < l.length), p i l[i]
  | 0, _ => ⟨[], rfl, fun i hi => by simp at hi⟩
  | n + 1, h => by
    obtain ⟨l, hl, hp⟩ := list_of p n (fun i hi => h i (by omega))
    obtain ⟨x, hx⟩ := h n (by omega)
    refine ⟨l ++ [x], by simp [hl], fun i hi => ?_⟩
    rcases Nat.lt_or_ge i l.length with h1 | h1
    · rw [List.getElem_append_left h1]; exact hp i h1
    · have h2 : i = n := by simp at hi; omega
      subst h2
      rw [List.getElem_append_right (by omega)]
      simp [hl, hx]
theorem take_one {cs : List Value} {k : Nat} {v : Value} (h : (cs.drop k).take 1 = [v]) : cs[k]? = some v := by
  have := congrArg (fun l => l[0]?) h
  simpa using this
section
variable {H : Type} {enc : TypeId × Value → H} {w : World} {base : Nat} {spare : Nat → Bool} {held : Bool}
theorem open_pair {n : Nat} {cs : List Value} {x : DataW H × List MemPlace} (h : DataW.trod enc Tryz.prog w base spare held n 54 cs = some x) :
    ∃ p : KV, cs[0]? = some (.string p.1) ∧ cs[1]? = some (.string p.2) ∧ p.1.size + p.2.size ≤ Rows.uptoBulk x.1 := by
  obtain ⟨xs, m, _, hx, _, hl, hf⟩ := DataW.trod_array Tryz.underlying54 h
  have hc : Tryz.prog.cellsOf 9 = 1 := by kernel_rfl
  rw [hc] at hf
  obtain ⟨d, e4, x4, _⟩ := DataW.trod_string Tryz.underlying9 ((hf 0 (by omega)).trans (List.getElem?_eq_getElem (by omega)))
  obtain ⟨e, e5, x5, _⟩ := DataW.trod_string Tryz.underlying9 ((hf 1 (by omega)).trans (List.getElem?_eq_getElem (by omega)))
  refine ⟨(d, e), take_one e4, take_one e5, ?_⟩
  obtain ⟨y, z, rfl⟩ : ∃ y z, xs = [y, z] := by
    match xs, hl with
    | [y, z], _ => exact ⟨y, z, rfl⟩
  rw [hx]
  have x6 : y.1 = _ := congrArg Prod.fst x4
  have x7 : z.1 = _ := congrArg Prod.fst x5
  show _ ≤ Rows.uptoBulk (.agg [y.1, z.1])
  rw [x6, x7]
  simp [Rows.uptoBulk, Rows.uptoBulkAll]
  have h1 : d.data.size = d.size := rfl
  have h2 : e.data.size = e.size := rfl
  omega
theorem open_pairs {n : Nat} {a : Option Addr} {len cap : Nat} {x : DataW H × List MemPlace} (h : DataW.trod enc Tryz.prog w base spare held n 23 [.slice a len cap] = some x) :
    ∃ l : List KV, l.length = len ∧ RdP w a cap l ∧ l.length ≤ Rows.uptoBulk x.1 ∧ ∀ p ∈ l, p.1.size + p.2.size ≤ Rows.uptoBulk x.1 := by
  rcases open_slice Tryz.underlying23 h with ⟨hcs, hx⟩ | ⟨ad, ln, cp, m, k, D, Pl, hcs, _, hl, hm, hmm, hx, hi⟩
  · simp at hcs
    obtain ⟨rfl, rfl, rfl⟩ := hcs
    exact ⟨[], rfl, ⟨by simp, by omega, .inl rfl⟩, Nat.zero_le _, fun p hp => by simp at hp⟩
  · simp at hcs
    obtain ⟨rfl, rfl, rfl⟩ := hcs
    have hlm : len ≤ m := by rw [hmm]; split <;> omega
    have hC : Tryz.prog.cellsOf 54 = 2 := by kernel_rfl
    rw [hC] at hi
    have each : ∀ i, i < len → ∃ o : KV, w.cell? (ad.add (i * 2)) = some (.string o.1) ∧ w.cell? ((ad.add (i * 2)).add 1) = some (.string o.2) ∧ o.1.size + o.2.size ≤ Rows.uptoBulk (D i) := by
      intro i hil
      obtain ⟨cs', hc, ht⟩ := hi i (by omega)
      obtain ⟨_, _, hat⟩ := World.cells?_some hc
      obtain ⟨o, e0, e1, hb⟩ := open_pair ht
      have h0 := (hat 0 (by omega)).trans e0
      have h1 := (hat 1 (by omega)).trans e1
      rw [show (ad.add (i * 2)).add 0 = ad.add (i * 2) from by unfold Addr.add; simp] at h0
      exact ⟨o, h0, h1, hb⟩
    obtain ⟨l, hll, hp⟩ := list_of _ len each
    have hbk : ∀ i, i < len → Rows.uptoBulk (D i) ≤ Rows.uptoBulk x.1 := fun i hil => by
      rw [hx]
      show _ ≤ Rows.uptoBulk (.slice _ _)
      rw [← bulk_slice]
      have := bulk_part (d := D i) (l := (List.range len).map D) (List.mem_map.2 ⟨i, List.mem_range.2 hil, rfl⟩)
      omega
    refine ⟨l, hll, ⟨by omega, by unfold maxLen at hm; omega, ?_⟩, ?_, fun p hp2 => ?_⟩
    · by_cases h0 : len = 0
      · exact .inl (List.eq_nil_of_length_eq_zero (hll.trans h0))
      · right
        obtain ⟨b, off, spot⟩ := ad
        have hc := (hp 0 (by omega)).1
        have hspot : spot = none := by simpa [Addr.add] using World.cell?_spot hc
        subst hspot
        refine ⟨b, off, rfl, fun i hil => ?_⟩
        obtain ⟨q0, q1, _⟩ := hp i hil
        rw [add_off] at q0 q1
        rw [add_off] at q1
        exact ⟨q0, q1⟩
    · rw [hx, hll]
      show _ ≤ Rows.uptoBulk (.slice _ _)
      rw [← bulk_slice]
      have := bulk_len ((List.range len).map D)
      rw [List.length_map, List.length_range] at this
      omega
    · obtain ⟨i, hil, rfl⟩ := List.mem_iff_getElem.1 hp2
      exact Nat.le_trans (hp i hil).2.2 (hbk i (by omega))
/-- Lists that came in. -/
def LsIn (w : World) (a : Option Addr) (len cap : Nat) (L : List (List KV)) : Prop := L.length = len ∧ RdL w a L ∧ SzL L ∧ len ≤ 1048576 ∧ len ≤ cap ∧ cap ≤ 9223372036854775807
theorem open_lists {n : Nat} {a : Option Addr} {len cap : Nat} {x : DataW H × List MemPlace} (h : DataW.trod enc Tryz.prog w base spare held n 22 [.slice a len cap] = some x) (hb : Rows.uptoBulk x.1 ≤ 1048576) :
    ∃ L : List (List KV), LsIn w a len cap L := by
  rcases open_slice Tryz.underlying22 h with ⟨hcs, hx⟩ | ⟨ad, ln, cp, m, k, D, Pl, hcs, _, hl, hm, hmm, hx, hi⟩
  · simp at hcs
    obtain ⟨rfl, rfl, rfl⟩ := hcs
    exact ⟨[], rfl, .inl rfl, fun l hl => by simp at hl, by omega, by omega, by omega⟩
  · simp at hcs
    obtain ⟨rfl, rfl, rfl⟩ := hcs
    have hlm : len ≤ m := by rw [hmm]; split <;> omega
    have hC : Tryz.prog.cellsOf 23 = 1 := by kernel_rfl
    rw [hC] at hi
    have hbk : ∀ i, i < len → Rows.uptoBulk (D i) ≤ 1048576 := fun i hil => by
      refine Nat.le_trans ?_ hb
      rw [hx]
      show _ ≤ Rows.uptoBulk (.slice _ _)
      rw [← bulk_slice]
      have := bulk_part (d := D i) (l := (List.range len).map D) (List.mem_map.2 ⟨i, List.mem_range.2 hil, rfl⟩)
      omega
    have each : ∀ i, i < len → ∃ l : List KV, ∃ ai ci, w.cell? (ad.add i) = some (.slice ai l.length ci) ∧ RdP w ai ci l ∧ l.length ≤ 1048576 ∧ ∀ p ∈ l, p.1.size + p.2.size ≤ 1048576 := by
      intro i hil
      obtain ⟨cs', hc, ht⟩ := hi i (by omega)
      obtain ⟨_, hlen, hat⟩ := World.cells?_some hc
      have hs := open_slice Tryz.underlying23 ht
      obtain ⟨ai, li, ci, rfl⟩ : ∃ ai li ci, cs' = [.slice ai li ci] := by
        rcases hs with ⟨e, _⟩ | ⟨a, l, c, _, _, _, _, e, _⟩
        · exact ⟨_, _, _, e⟩
        · exact ⟨_, _, _, e⟩
      obtain ⟨l, hll, hr, h1, h2⟩ := open_pairs ht
      have h0 := hat 0 (by omega)
      rw [Nat.mul_one, show (ad.add i).add 0 = ad.add i from by unfold Addr.add; simp] at h0
      exact ⟨l, ai, ci, by rw [h0, hll]; rfl, hr, Nat.le_trans h1 (hbk i hil), fun p hp => Nat.le_trans (h2 p hp) (hbk i hil)⟩
    obtain ⟨L, hLl, hp⟩ := list_of _ len each
    refine ⟨L, hLl, ?_, fun l hl2 => ?_, ?_, hl, by unfold maxLen at hm; omega⟩
    · by_cases h0 : len = 0
      · exact .inl (List.eq_nil_of_length_eq_zero (hLl.trans h0))
      · right
        obtain ⟨b, off, spot⟩ := ad
        obtain ⟨_, _, hc, _⟩ := hp 0 (by omega)
        have hspot : spot = none := by simpa [Addr.add] using World.cell?_spot hc
        subst hspot
        refine ⟨b, off, rfl, fun i hil => ?_⟩
        obtain ⟨ai, ci, q0, q1, _⟩ := hp i hil
        rw [add_off] at q0
        exact ⟨ai, ci, q0, q1⟩
    · obtain ⟨i, hil, rfl⟩ := List.mem_iff_getElem.1 hl2
      obtain ⟨ai, ci, _, _, q2, q3⟩ := hp i hil
      exact ⟨by omega, fun p hp2 => by have := q3 p hp2; omega⟩
    · rw [hx] at hb
      have hb2 : Rows.uptoBulk (DataW.slice ((List.range len).map D) ((List.range (m - len)).map fun j => D (len + j))) ≤ 1048576 := hb
      rw [← bulk_slice] at hb2
      have := bulk_len ((List.range len).map D)
      rw [List.length_map, List.length_range] at this
      omega
end
end Go.Proofs.YtkeggcfnoonakaaGreat
