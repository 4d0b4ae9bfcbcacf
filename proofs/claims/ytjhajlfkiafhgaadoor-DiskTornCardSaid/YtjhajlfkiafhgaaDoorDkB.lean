/-
  Disk: power and names are asked for.
-/
import Derived.Test.YtjhajlfkiafhgaaDoorDkA
namespace Go.Proofs.YtjhajlfkiafhgaaDoor
open Go.RowKit

theorem isEmpty_iff (s : ByteArray) : s.toList.isEmpty = decide (s.size = 0) := by
  rw [Lib.toList_data, Lib.size_eq]
  cases s.data.toList <;> simp

set_option maxRecDepth 100000 in
set_option maxHeartbeats 1000000 in
theorem name_any (s : ByteArray) (w : World) (hs : s.size ≤ 9223372036854775807) : Calls Tryd.prog 56 #[.string s] w fun e w' => e = .returned (.bool (nmB s)) ∧ Below w.heap.size w w' := by
  have he := isEmpty_iff s
  rcases Nat.eq_zero_or_pos s.size with h0 | h0
  · have hn : nmB s = false := by simp [nmB, h0]
    rw [hn]
    have he1 : s.toList.isEmpty = true := by rw [he]; simp [h0]
    clear he hn h0
    go_enter Tryd.func56, Tryd.ntmps56
    go_wp2
    go_ret
    exact ⟨rfl, Below.refl _ _⟩
  · have he1 : s.toList.isEmpty = false := by rw [he]; exact decide_eq_false (by omega)
    clear he
    by_cases h64 : 64 < s.size
    · have hn : nmB s = false := by
        have h2 : ¬ s.size ≤ 64 := by omega
        simp [nmB, h2]
      rw [hn]
      have r1 : (64 : Int) < (s.size : Int) := by omega
      clear hn h0 h64
      go_enter Tryd.func56, Tryd.ntmps56
      go_wp2
      go_ret
      exact ⟨rfl, Below.refl _ _⟩
    · have r1 : ¬ (64 : Int) < (s.size : Int) := by omega
      have hn : nmB s = s.data.toList.all okc := by
        have h1 : s.size ≠ 0 := by omega
        have h2 : s.size ≤ 64 := by omega
        simp [nmB, h1, h2]
      obtain ⟨nb, hnb⟩ : ∃ nb, nmB s = nb := ⟨_, rfl⟩
      rw [hnb]
      have HN := Lib.hid (hn.symm.trans hnb)
      clear hn hnb
      go_enter Tryd.func56, Tryd.ntmps56
      go_wp2_with (go_at_call 61; refine (trim_any s _ h0 hs).mono ?_; rintro e w1 ⟨⟨u, rfl, hu⟩, hb⟩; have HB := Lib.hid hb; have HU := Lib.hid (And.intro (isEmpty_iff u) hu); clear hb hu; obtain ⟨ue, hue⟩ : ∃ ue, u.toList.isEmpty = ue := ⟨_, rfl⟩; have HUE := Lib.hid hue)
      go_ret
      refine ⟨?_, HB.out⟩
      have e2 : decide (u.size = 0) = nb := by rw [← HN.out, Bool.eq_iff_iff, decide_eq_true_eq]; exact HU.out.2
      have e3 : ue = nb := by rw [← HUE.out, HU.out.1, e2]
      rw [← e3]
      rfl

theorem on_any {w : World} {db : Nat} {b : Bool} (h : w.cell? ⟨db, 1, none⟩ = some (.bool b)) : Calls Tryd.prog 26 #[.pointer (some ⟨db, 0, none⟩)] w fun e w' => e = .returned (.bool b) ∧ w = w' := by
  go_enter Tryd.func26, Tryd.ntmps26
  go_wp2
  go_ret
  exact ⟨rfl, rfl⟩
theorem on_nil (w : World) : Calls Tryd.prog 26 #[.pointer none] w fun e w' => e = .returned (.bool false) ∧ w = w' := by
  go_enter Tryd.func26, Tryd.ntmps26
  go_wp2
  go_ret
  exact ⟨rfl, rfl⟩
/-- A disk without power. -/
def OffAt (w : World) (o : Option Addr) : Prop := o = none ∨ ∃ db, o = some ⟨db, 0, none⟩ ∧ w.cell? ⟨db, 1, none⟩ = some (.bool false)
theorem OffAt.below {w w' : World} {o : Option Addr} (h : OffAt w o) (hb : Below w.heap.size w w') : OffAt w' o := by
  rcases h with h | ⟨db, h, hc⟩
  · exact .inl h
  · exact .inr ⟨db, h, (hb.cell (p := ⟨db, 1, none⟩) (World.block_lt_of_cell? _ _ hc)).trans hc⟩
theorem on_off {w : World} {o : Option Addr} (h : OffAt w o) : Calls Tryd.prog 26 #[.pointer o] w fun e w' => e = .returned (.bool false) ∧ w = w' := by
  rcases h with rfl | ⟨db, rfl, hc⟩
  · exact on_nil w
  · exact on_any hc

theorem wanted1_any (s : ByteArray) (w : World) (hs : s.size ≤ 9223372036854775807) : Calls Tryd.prog 55 #[.string s] w fun e w' => e = .returned (.bool (!nmB s)) ∧ Below w.heap.size w w' := by
  obtain ⟨nb, hnb⟩ : ∃ nb, nmB s = nb := ⟨_, rfl⟩
  have hN := name_any s
  rw [hnb] at hN ⊢
  go_enter Tryd.func55, Tryd.ntmps55
  go_wp2_with (go_at_call 56; refine (hN _ hs).mono ?_; rintro e w1 ⟨rfl, hb⟩; have HB := Lib.hid hb; clear hb)
  go_ret
  exact ⟨rfl, HB.out⟩

/-- Texts that can be read. -/
def RdT (w : World) (x : Value) (l : List ByteArray) : Prop := ∃ a c, x = .slice a l.length c ∧ (l = [] ∨ ∃ b off, a = some ⟨b, off, none⟩ ∧ b < w.heap.size ∧ ∀ i (hi : i < l.length), w.cell? ⟨b, off + i, none⟩ = some (.string l[i]))
theorem RdT.below {w w' : World} {x : Value} {l : List ByteArray} (h : RdT w x l) (hb : Below w.heap.size w w') : RdT w' x l := by
  obtain ⟨a, c, hx, h⟩ := h
  refine ⟨a, c, hx, h.imp id ?_⟩
  rintro ⟨b, off, ha, hlt, hc⟩
  exact ⟨b, off, ha, Nat.lt_of_lt_of_le hlt hb.size, fun i hi => (hb.cell (p := ⟨b, off + i, none⟩) hlt).trans (hc i hi)⟩
/-- The first place of a text that is no name; below 0: there is none. -/
def IdxE (l : List ByteArray) (e : Ending) : Prop := ∃ n : Int, e = .returned (.int .i64 n) ∧ ((l.all nmB = true ∧ n = -1) ∨ (l.all nmB = false ∧ 0 ≤ n))

set_option maxRecDepth 100000 in
set_option maxHeartbeats 1000000 in
theorem index_any {w : World} {x : Value} {l : List ByteArray} (h : RdT w x l) (hl : l.length ≤ 1000000) (hs : ∀ s ∈ l, s.size ≤ 9223372036854775807) :
    Calls Tryd.prog 51 #[x, .func (.func 55) #[] #[]] w fun e w' => IdxE l e ∧ Below w.heap.size w w' := by
  obtain ⟨a, c, rfl, h1⟩ := h
  obtain ⟨n, hn⟩ : ∃ n, n = l.length := ⟨_, rfl⟩
  rw [← hn] at hl ⊢
  have HN := Lib.hid hn
  have H := Lib.hid (And.intro h1 hs)
  clear hn h1 hs
  go_enter Tryd.func51, Tryd.ntmps51
  go_wp2
  go_loopw [5, 8] (fun _ iv wr => ∃ i : Nat, i ≤ n ∧ iv = .int .i64 (i : Int) ∧ (l.take i).all nmB = true ∧ Below w.heap.size w wr) (fun _ iv _ => n - (intOf iv).toNat)
  case atStart => exact ⟨0, by omega, rfl, by simp, Below.refl _ _⟩
  case round =>
    obtain ⟨i, hi, rfl, hall, hbel⟩ := hrel
    have HB := Lib.hid (And.intro hbel hall)
    clear hall
    by_cases hlt : i < n
    · have hil : i < l.length := by have := HN.out; omega
      obtain ⟨b1, o1, rfl, l1, k1⟩ := H.out.1.resolve_left (fun e => by rw [e] at hil; simp at hil)
      have d1 := (hbel.cell (p := ⟨b1, o1 + i, none⟩) l1).trans (k1 i hil)
      obtain ⟨u, hu⟩ : ∃ u, l[i] = u := ⟨_, rfl⟩
      rw [hu] at d1
      have hus := H.out.2 u (hu ▸ List.getElem_mem hil)
      have hW := wanted1_any u
      obtain ⟨nb, hnb⟩ : ∃ nb, nmB u = nb := ⟨_, rfl⟩
      rw [hnb] at hW
      have htk : l.take (i + 1) = l.take i ++ [u] := by rw [List.take_succ_eq_append_getElem hil, hu]
      have HX := Lib.hid (And.intro htk (And.intro hnb hu))
      have r1 : (i : Int) < (n : Int) := by omega
      clear k1 hu hbel htk hnb
      cases nb
      · simp only [Bool.not_false] at hW
        go_wp2_with (go_at_call 55; refine (hW _ hus).mono ?_; rintro e w1 ⟨rfl, hb⟩; have HB1 := Lib.hid hb; clear hb)
        go_ret
        refine ⟨⟨i, rfl, .inr ⟨?_, by omega⟩⟩, HB.out.1.trans (HB1.out.mono HB.out.1.size)⟩
        rw [Bool.eq_false_iff]
        intro h
        have := List.all_eq_true.1 h u (HX.out.2.2 ▸ List.getElem_mem hil)
        rw [HX.out.2.1] at this
        cases this
      · simp only [Bool.not_true] at hW
        go_wp2_with (go_at_call 55; refine (hW _ hus).mono ?_; rintro e w1 ⟨rfl, hb⟩; have HB1 := Lib.hid hb; clear hb)
        go_roundw
        case rel => exact ⟨i + 1, by omega, by go_num, by rw [HX.out.1, List.all_append, HB.out.2]; simp [HX.out.2.1], HB.out.1.trans (HB1.out.mono HB.out.1.size)⟩
        case measure => simp [intOf]; omega
    · obtain rfl : i = n := by omega
      clear hbel
      go_wp2
      go_ret
      refine ⟨⟨-1, rfl, .inl ⟨?_, rfl⟩⟩, HB.out.1⟩
      have := HB.out.2
      rw [HN.out, List.take_length] at this
      exact this
theorem contains_any {w : World} {x : Value} {l : List ByteArray} (h : RdT w x l) (hl : l.length ≤ 1000000) (hs : ∀ s ∈ l, s.size ≤ 9223372036854775807) :
    Calls Tryd.prog 54 #[x, .func (.func 55) #[] #[]] w fun e w' => e = .returned (.bool (!l.all nmB)) ∧ Below w.heap.size w w' := by
  have hI := index_any h hl hs
  obtain ⟨b, hb⟩ : ∃ b, l.all nmB = b := ⟨_, rfl⟩
  rw [hb]
  have HB := Lib.hid hb
  clear hb h hl hs
  go_enter Tryd.func54, Tryd.ntmps54
  go_wp2_with fail
  refine hI.mono ?_
  rintro e w1 ⟨⟨n, rfl, hn⟩, hb⟩
  rw [HB.out] at hn
  have H1 := Lib.hid hb
  clear hb hI
  rcases hn with ⟨rfl, rfl⟩ | ⟨rfl, hn⟩
  · go_wp2
    go_ret
    exact ⟨rfl, H1.out⟩
  · go_wp2
    go_ret
    exact ⟨rfl, H1.out⟩
end Go.Proofs.YtjhajlfkiafhgaaDoor
