/-
  A slice of slices of texts that came in, read as a list of lists.
-/
import Derived.Test.YtohigcpcbonaeaaGreatDoorOpenStrs
import Derived.Deep.Slices
namespace Go.Proofs.YtohigcpcbonaeaaGreatDoor
open Go.RowKit Go.ChangeShapes Go.WideShapes Go.ChangeAt Go.Deep

theorem add_off' (g o j : Nat) : (⟨g, o, none⟩ : Addr).add j = ⟨g, o + j, none⟩ := by unfold Addr.add; split <;> simp_all
theorem list_of {α : Type} (p : Nat → α → Prop) : ∀ n, (∀ i, i < n → ∃ x, p i x) → ∃ l : List α, l.length = n ∧ ∀ i (hi : i < l.length), p i l[i]
  | 0, _ => ⟨[], rfl, fun i hi => by simp at hi⟩
  | n + 1, h => by
    obtain ⟨l, hl, hp⟩ := list_of p n (fun i hi => h i (by omega))
    obtain ⟨x, hx⟩ := h n (by omega)
    refine ⟨l ++ [x], by simp [hl], fun i hi => ?_⟩
    rcases Nat.lt_or_ge i l.length with h1 | h1
    · rw [List.getElem_append_left h1]; exact hp i h1
    · have h2 : i = n := by simp at hi; omega
      subst h2
      rw [List.getElem_append_right (by omega)]
      simp [hl, hx]
theorem strs_at' {W : World} {x : Addr} {len : Nat} {zs : List ByteArray} (hz : len ≤ zs.length) (hcell : ∀ i, i < zs.length → W.cell? (x.add i) = some (.string (zs.getD i ByteArray.empty))) (hwz : ∀ n ∈ zs, n.size ≤ maxLen) :
    StrsAt W (some x) len (zs.take len) := by
  have hlen : (zs.take len).length = len := by rw [List.length_take]; omega
  refine ⟨hlen, ?_, fun n hn => hwz n (List.mem_of_mem_take hn)⟩
  by_cases h0 : len = 0
  · exact Or.inl h0
  · refine Or.inr ?_
    obtain ⟨b, off, spot⟩ := x
    have hc := hcell 0 (by omega)
    have hspot : spot = none := by simpa [Addr.add] using World.cell?_spot hc
    subst hspot
    rw [add_none, Nat.add_zero] at hc
    refine ⟨b, off, rfl, ?_, ?_⟩
    · rcases Nat.lt_or_ge b W.heap.size with h | h
      · exact h
      · simp [World.cell?, Array.getElem?_eq_none h] at hc
    · intro i hi
      rw [hlen] at hi
      have h := hcell i (by omega)
      rw [add_none] at h
      rw [h]
      congr 2
      rw [List.getElem_take, List.getD_eq_getElem?_getD, List.getElem?_eq_getElem (by omega)]
      rfl
/-- Texts that came in, in lists. -/
def TextsIn (w : World) (a : Option Addr) (len : Nat) (L : List (List ByteArray)) : Prop := L.length = len ∧ (len = 0 ∨ ∃ b off, a = some ⟨b, off, none⟩ ∧ b < w.heap.size ∧ ∀ i (hi : i < L.length), ∃ ai ci, w.cell? ⟨b, off + i, none⟩ = some (.slice ai L[i].length ci) ∧ StrsAt w ai L[i].length L[i] ∧ L[i].length ≤ maxLen)
section
variable {H : Type} {enc : TypeId × Value → H} {w : World} {base : Nat} {spare : Nat → Bool} {held : Bool}
theorem open_texts {n : Nat} {a : Option Addr} {len cap : Nat} {x : DataW H × List MemPlace} (h : DataW.trod enc Tryz.prog w base spare held n 22 [.slice a len cap] = some x) :
    ∃ L : List (List ByteArray), TextsIn w a len L ∧ len ≤ maxLen := by
  rcases open_slice Tryz.underlying22 h with ⟨hcs, hx⟩ | ⟨ad, ln, cp, m, k, D, Pl, hcs, _, hl, hm, hmm, hx, hi⟩
  · simp at hcs
    obtain ⟨rfl, rfl, rfl⟩ := hcs
    exact ⟨[], ⟨rfl, .inl rfl⟩, Nat.zero_le _⟩
  · simp at hcs
    obtain ⟨rfl, rfl, rfl⟩ := hcs
    have hlm : len ≤ m := by rw [hmm]; split <;> omega
    have hC : Tryz.prog.cellsOf 26 = 1 := by kernel_rfl
    rw [hC] at hi
    have each : ∀ i, i < len → ∃ l : List ByteArray, ∃ ai ci, w.cell? (ad.add i) = some (.slice ai l.length ci) ∧ StrsAt w ai l.length l ∧ l.length ≤ maxLen := by
      intro i hil
      obtain ⟨cs', hc, ht⟩ := hi i (by omega)
      obtain ⟨_, hlen, hat⟩ := World.cells?_some hc
      have h0 := hat 0 (by omega)
      rw [Nat.mul_one, show (ad.add i).add 0 = ad.add i from by unfold Addr.add; simp] at h0
      rcases open_strings Tryz.underlying26 Tryz.underlying9 (by kernel_rfl) ht with ⟨hcs, _⟩ | ⟨x, l, c, zs, hcs, _, hl, hm, hz, _, hcell, hwz⟩
      · subst hcs
        exact ⟨[], none, 0, h0, ⟨rfl, .inl rfl, by simp⟩, Nat.zero_le _⟩
      · subst hcs
        have hst := strs_at' (len := l) (by rw [hz]; split <;> omega) hcell hwz
        refine ⟨zs.take l, some x, c, ?_, ?_, ?_⟩
        · rw [hst.1]; exact h0
        · rw [hst.1]; exact hst
        · rw [hst.1]; exact Nat.le_trans hl hm
    obtain ⟨L, hLl, hp⟩ := list_of _ len each
    refine ⟨L, ⟨hLl, ?_⟩, Nat.le_trans hl (by omega)⟩
    by_cases h0 : len = 0
    · exact .inl h0
    · right
      obtain ⟨b, off, spot⟩ := ad
      obtain ⟨_, _, hc, _⟩ := hp 0 (by omega)
      have hspot : spot = none := by simpa [Addr.add] using World.cell?_spot hc
      subst hspot
      rw [add_off', Nat.add_zero] at hc
      refine ⟨b, off, rfl, ?_, fun i hil => ?_⟩
      · rcases Nat.lt_or_ge b w.heap.size with h | h
        · exact h
        · simp [World.cell?, Array.getElem?_eq_none h] at hc
      · obtain ⟨ai, ci, q0, q1⟩ := hp i hil
        rw [add_off'] at q0
        exact ⟨ai, ci, q0, q1⟩
end
end Go.Proofs.YtohigcpcbonaeaaGreatDoor
