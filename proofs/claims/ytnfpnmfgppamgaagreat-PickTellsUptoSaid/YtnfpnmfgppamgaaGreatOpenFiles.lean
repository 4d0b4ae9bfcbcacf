/-
  A slice of files that came in, read as a list.
-/
import Derived.Test.YtnfpnmfgppamgaaGreatCmp
import Derived.ProofKit
import Derived.OpenShut
import Derived.Deep.Slices
import Derived.ChangeSame
namespace Go.Proofs.YtnfpnmfgppamgaaGreat
open Go.RowKit Go.ChangeShapes Go.WideShapes Go.ChangeAt Go.Deep

def Fi.wf (x : Fi) : Prop := (Lit.int .i64 x.lv).wf = true ∧ (Lit.int .i64 x.nu).wf = true ∧ (Lit.int .i64 x.ct).wf = true ∧ (Lit.int .i64 x.sz).wf = true ∧ x.f.size ≤ maxLen ∧ x.l.size ≤ maxLen
/-- Files that came in. -/
def FilesIn (w : World) (a : Option Addr) (len cap : Nat) (l : List Fi) : Prop := l.length = len ∧ FilesAt w a l ∧ (∀ x ∈ l, x.wf) ∧ (a = none → cap = 0)

theorem add_one_none (g off j : Nat) : (⟨g, off, none⟩ : Addr).add j = ⟨g, off + j, none⟩ := by
  unfold Addr.add
  split
  · rename_i h
    have h0 : j = 0 := by simpa using h
    subst h0
    rfl
  · rfl

theorem list_of {α : Type} (p : Nat → α → Prop) : ∀ n, (∀ i, i < n → ∃ x, p i x) → ∃ l : List α, l.length = n ∧ ∀ i (hi : i < l.length), p i l[i]
  | 0, _ => ⟨[], rfl, fun i hi => by simp at hi⟩
  | n + 1, h => by
    obtain ⟨l, hl, hp⟩ := list_of p n (fun i hi => h i (by omega))
    obtain ⟨x, hx⟩ := h n (by omega)
    refine ⟨l ++ [x], by simp [hl], fun i hi => ?_⟩
    rcases Nat.lt_or_ge i l.length with h1 | h1
    · rw [List.getElem_append_left h1]; exact hp i h1
    · have h2 : i = n := by simp at hi; omega
      subst h2
      rw [List.getElem_append_right (by omega)]
      simp [hl, hx]

theorem take_one {cs : List Value} {k : Nat} {v : Value} (h : (cs.drop k).take 1 = [v]) : cs[k]? = some v := by
  have := congrArg (fun l => l[0]?) h
  simpa using this

section
variable {H : Type} {enc : TypeId × Value → H} {w : World} {base : Nat} {spare : Nat → Bool} {held : Bool}
set_option maxRecDepth 100000 in
theorem open_file {n : Nat} {cs : List Value} {x : DataW H × List MemPlace} (h : DataW.trod enc Tryz.prog w base spare held n 57 cs = some x) :
    ∃ o : Fi, cs[0]? = some (.int .i64 o.lv) ∧ cs[1]? = some (.int .i64 o.nu) ∧ cs[2]? = some (.int .i64 o.ct) ∧ cs[3]? = some (.int .i64 o.sz) ∧ cs[4]? = some (.string o.f) ∧ cs[5]? = some (.string o.l) ∧ o.wf := by
  obtain ⟨xs, n', _, _, _, hlen, hf⟩ := DataW.trod_struct Tryz.underlying57 h
  have hl6 : xs.length = 6 := hlen
  obtain ⟨k, e0, _, w0⟩ := DataW.trod_int Tryz.underlying3 ((hf 0 _ rfl).trans (List.getElem?_eq_getElem (by omega)))
  obtain ⟨a, e1, _, w1⟩ := DataW.trod_int Tryz.underlying3 ((hf 1 _ rfl).trans (List.getElem?_eq_getElem (by omega)))
  obtain ⟨b, e2, _, w2⟩ := DataW.trod_int Tryz.underlying3 ((hf 2 _ rfl).trans (List.getElem?_eq_getElem (by omega)))
  obtain ⟨c, e3, _, w3⟩ := DataW.trod_int Tryz.underlying3 ((hf 3 _ rfl).trans (List.getElem?_eq_getElem (by omega)))
  obtain ⟨d, e4, _, w4⟩ := DataW.trod_string Tryz.underlying9 ((hf 4 _ rfl).trans (List.getElem?_eq_getElem (by omega)))
  obtain ⟨e, e5, _, w5⟩ := DataW.trod_string Tryz.underlying9 ((hf 5 _ rfl).trans (List.getElem?_eq_getElem (by omega)))
  exact ⟨⟨k, a, b, c, d, e⟩, take_one e0, take_one e1, take_one e2, take_one e3, take_one e4, take_one e5, w0, w1, w2, w3, w4, w5⟩

theorem open_files {fuel : Nat} {a : Option Addr} {len cap : Nat} {x : DataW H × List MemPlace} (h : DataW.trod enc Tryz.prog w base spare held fuel 22 [.slice a len cap] = some x) :
    ∃ l, FilesIn w a len cap l ∧ len ≤ maxLen := by
  rcases open_slice Tryz.underlying22 h with ⟨hcs, _⟩ | ⟨ad, ln, cp, m, n, D, Pl, hcs, _, hl, hm, hmm, _, hi⟩
  · simp at hcs
    obtain ⟨rfl, rfl, rfl⟩ := hcs
    exact ⟨[], ⟨rfl, Or.inl rfl, by simp, fun _ => rfl⟩, Nat.zero_le _⟩
  · simp at hcs
    obtain ⟨rfl, rfl, rfl⟩ := hcs
    have hlm : len ≤ m := by rw [hmm]; split <;> omega
    have hC : Tryz.prog.cellsOf 57 = 6 := by kernel_rfl
    rw [hC] at hi
    have each : ∀ i, i < len → ∃ o : Fi, o.wf ∧ w.cell? (ad.add (i * 6)) = some (.int .i64 o.lv) ∧ w.cell? ((ad.add (i * 6)).add 1) = some (.int .i64 o.nu) ∧ w.cell? ((ad.add (i * 6)).add 2) = some (.int .i64 o.ct) ∧ w.cell? ((ad.add (i * 6)).add 3) = some (.int .i64 o.sz) ∧ w.cell? ((ad.add (i * 6)).add 4) = some (.string o.f) ∧ w.cell? ((ad.add (i * 6)).add 5) = some (.string o.l) := by
      intro i hil
      obtain ⟨cs', hc, ht⟩ := hi i (by omega)
      obtain ⟨_, _, hat⟩ := World.cells?_some hc
      obtain ⟨o, e0, e1, e2, e3, e4, e5, hw⟩ := open_file ht
      exact ⟨o, hw, (hat 0 (by omega)).trans e0, (hat 1 (by omega)).trans e1, (hat 2 (by omega)).trans e2, (hat 3 (by omega)).trans e3, (hat 4 (by omega)).trans e4, (hat 5 (by omega)).trans e5⟩
    obtain ⟨l, hll, hp⟩ := list_of _ len each
    refine ⟨l, ⟨hll, ?_, ?_, fun e => by cases e⟩, by omega⟩
    · by_cases h0 : len = 0
      · exact Or.inl (List.eq_nil_of_length_eq_zero (hll.trans h0))
      · refine Or.inr ?_
        obtain ⟨b, off, spot⟩ := ad
        have hc := (hp 0 (by omega)).2.1
        have hspot : spot = none := by simpa [Addr.add] using World.cell?_spot hc
        subst hspot
        refine ⟨b, off, rfl, ?_, fun i hil => ?_⟩
        · exact World.block_lt_of_cell? _ _ (by rw [add_one_none] at hc; exact hc)
        · obtain ⟨_, q0, q1, q2, q3, q4, q5⟩ := hp i hil
          rw [add_one_none] at q0 q1 q2 q3 q4 q5
          rw [add_one_none] at q1 q2 q3 q4 q5
          exact ⟨q0, q1, q2, q3, q4, q5⟩
    · intro o ho
      obtain ⟨i, hil, rfl⟩ := List.mem_iff_getElem.1 ho
      exact (hp i hil).1
set_option maxRecDepth 100000 in
/-- A file by value. -/
theorem open_fileval {r : Reach} {b0 : Nat} {v : Value} {d : DataW H} {ps : List MemPlace} (hv : Value.okWide Tryz.prog w r b0 57 v) (h : DataW.Trod enc Tryz.prog w base spare held 57 v d ps) : ∃ f : Fi, v = f.val ∧ f.wf := by
  obtain ⟨cs, rfl, hsz⟩ := okWide_struct Tryz.underlying57 hv
  obtain ⟨fuel, hf⟩ := h
  obtain ⟨f, e0, e1, e2, e3, e4, e5, hw⟩ := open_file hf
  refine ⟨f, ?_, hw⟩
  have hC : Tryz.prog.cellsOf 57 = 6 := by kernel_rfl
  rw [hC] at hsz
  obtain ⟨l⟩ := cs
  have hl : l.length = 6 := by simpa using hsz
  match l, hl with
  | [v0, v1, v2, v3, v4, v5], _ =>
    simp [Value.cells] at e0 e1 e2 e3 e4 e5
    subst e0 e1 e2 e3 e4 e5
    rfl
end
end Go.Proofs.YtnfpnmfgppamgaaGreat
