/-
  Disk: is a text a name?
-/
import Derived.Test.YtjhajlfkiafhgaaDoorDkP
import Derived.Test.YtjhajlfkiafhgaaDoorShelf
namespace Go.Proofs.YtjhajlfkiafhgaaDoor
open Go.RowKit

def csetL : List UInt8 := [97, 98, 99, 100, 101, 102, 103, 104, 105, 106, 107, 108, 109, 110, 111, 112, 113, 114, 115, 116, 117, 118, 119, 120, 121, 122, 48, 49, 50, 51, 52, 53, 54, 55, 56, 57, 46, 45, 95, 47]
def csetB : ByteArray := ⟨csetL.toArray⟩
theorem cset_okc (c : UInt8) : csetL.contains c = okc c := by
  have h : (List.range 256).all (fun n => csetL.contains (UInt8.ofNat n) == okc (UInt8.ofNat n)) = true := by decide +kernel
  have h2 := List.all_eq_true.1 h c.toNat (List.mem_range.2 c.toNat_lt)
  simpa using h2
theorem cset_ascii : ∀ (j : Nat) b, csetB.data.toList[j]? = some b → b.toNat < 128 := by
  have h : csetL.all (fun b => decide (b.toNat < 128)) = true := by decide +kernel
  intro j b hb
  have hm : b ∈ csetL := List.mem_of_getElem? hb
  simpa using List.all_eq_true.1 h b hm

/-- What is left of a text when all letters of the set ahead are cut off; behind. -/
def TlE (s : ByteArray) (e : Ending) : Prop := ∃ t : ByteArray, e = .returned (.string t) ∧ ∃ k, k ≤ s.size ∧ t = ⟨(s.data.toList.drop k).toArray⟩ ∧ (∀ (j : Nat) b, j < k → s.data.toList[j]? = some b → csetL.contains b = true) ∧ ∀ b, s.data.toList[k]? = some b → csetL.contains b = false
def TrE (s : ByteArray) (e : Ending) : Prop := ∃ t : ByteArray, e = .returned (.string t) ∧ ∃ k, k ≤ s.size ∧ t = ⟨(s.data.toList.take k).toArray⟩ ∧ (∀ (j : Nat) b, k ≤ j → s.data.toList[j]? = some b → csetL.contains b = true) ∧ ∀ b, 0 < k → s.data.toList[k - 1]? = some b → csetL.contains b = false
set_option maxHeartbeats 2000000 in
set_option maxRecDepth 1000000 in
theorem tl_any (s : ByteArray) (b : Nat) (w : World) (hset : ∀ x : UInt8, w.cell? ⟨b, x.toNat, none⟩ = some (.bool (csetL.contains x))) :
    Calls Tryd.prog 76 #[.string s, .pointer (some ⟨b, 0, none⟩)] w fun e w' => TlE s e ∧ w = w' := by
  have HS := Lib.hid hset
  clear hset
  go_enter Tryd.func76, Tryd.ntmps76
  go_wp2
  go_loop [0] (fun v => ∃ k : Nat, k ≤ s.size ∧ v = .string ⟨(s.data.toList.drop k).toArray⟩ ∧ ∀ (j : Nat) b, j < k → s.data.toList[j]? = some b → csetL.contains b = true) (fun v => Lib.strSize v)
  case atStart => exact ⟨0, Nat.zero_le _, by simp, fun j b hj => absurd hj (Nat.not_lt_zero _)⟩
  case round =>
    obtain ⟨k, hk, rfl, hc⟩ := hrel
    have hts : (⟨(s.data.toList.drop k).toArray⟩ : ByteArray).size = s.size - k := by rw [Lib.size_mk, List.length_drop, ← Lib.size_eq]
    have hb0 : ∀ h, s.data.toList[k]? = some ((⟨(s.data.toList.drop k).toArray⟩ : ByteArray)[0]'h) := by
      intro h
      rw [← Lib.getElem_mk (s.data.toList.drop k) 0 h, List.getElem?_drop]
      rfl
    have hx1 : (⟨(s.data.toList.drop k).toArray⟩ : ByteArray).extract 1 (s.size - k) = ⟨(s.data.toList.drop (k + 1)).toArray⟩ := by
      rw [Lib.extract_mk, List.drop_drop, List.take_of_length_le (by simp; omega)]
    have hK := Lib.hid hc
    clear hc
    obtain ⟨t, ht⟩ : ∃ t, (⟨(s.data.toList.drop k).toArray⟩ : ByteArray) = t := ⟨_, rfl⟩
    rw [ht] at hts hb0 hx1 ⊢
    have hK3 := Lib.hid ht
    clear ht
    have hkl := Lib.hid (show k ≤ s.data.toList.length by rw [← Lib.size_eq]; exact hk)
    by_cases h0 : 0 < t.size
    · have hbk := hb0 h0
      clear hb0
      have hK2 := Lib.hid hbk
      clear hbk
      have hcx := HS.out (t[0]'h0)
      cases hin : csetL.contains (t[0]'h0) <;> rw [hin] at hcx
      · have HI := Lib.hid hin
        clear hin
        go_wp2_with (go_at_call 85; refine (Tryd.asciiSet_contains _ (t[0]'h0) _ _ hcx).mono ?_; rintro e w' ⟨rfl, hw⟩; rw [hw])
        go_ret
        refine ⟨⟨t, rfl, k, hk, hK3.out.symm, hK.out, fun b hb => ?_⟩, rfl⟩
        rw [hK2.out] at hb
        rw [← Option.some.inj hb]
        exact HI.out
      · have HI := Lib.hid hin
        clear hin
        go_wp2_with (go_at_call 85; refine (Tryd.asciiSet_contains _ (t[0]'h0) _ _ hcx).mono ?_; rintro e w' ⟨rfl, hw⟩; rw [hw])
        refine ⟨⟨k + 1, by omega, rfl, fun j b hj hb => ?_⟩, ?_⟩
        · by_cases e : j = k
          · subst e
            have h3 : s.data.toList[j]? = some b := by simpa using hb
            rw [hK2.out] at h3
            rw [← Option.some.inj h3]
            exact HI.out
          · exact hK.out j b (by omega) (by simpa using hb)
        · rw [Lib.strSize_string, Lib.strSize_string, Lib.size_mk, List.length_drop, ← Lib.size_eq]
          omega
    · clear hb0
      go_wp2
      go_ret
      refine ⟨⟨t, rfl, k, hk, hK3.out.symm, hK.out, fun b hb => ?_⟩, rfl⟩
      have : s.data.toList.length ≤ k := by rw [← Lib.size_eq]; omega
      simp [List.getElem?_eq_none this] at hb

set_option maxHeartbeats 2000000 in
set_option maxRecDepth 1000000 in
theorem tr_any (s : ByteArray) (b : Nat) (w : World) (hs : s.size ≤ 9223372036854775807) (hset : ∀ x : UInt8, w.cell? ⟨b, x.toNat, none⟩ = some (.bool (csetL.contains x))) :
    Calls Tryd.prog 77 #[.string s, .pointer (some ⟨b, 0, none⟩)] w fun e w' => TrE s e ∧ w = w' := by
  have HS := Lib.hid hset
  clear hset
  go_enter Tryd.func77, Tryd.ntmps77
  go_wp2
  go_loop [0] (fun v => ∃ k : Nat, k ≤ s.size ∧ v = .string ⟨(s.data.toList.take k).toArray⟩ ∧ ∀ (j : Nat) b, k ≤ j → s.data.toList[j]? = some b → csetL.contains b = true) (fun v => Lib.strSize v)
  case atStart =>
    refine ⟨s.size, Nat.le_refl _, ?_, fun j b hj hb => ?_⟩
    · rw [Lib.size_eq, List.take_length, Lib.mk_data]
    · have : s.data.toList.length ≤ j := by rw [← Lib.size_eq]; exact hj
      simp [List.getElem?_eq_none this] at hb
  case round =>
    obtain ⟨k, hk, rfl, hc⟩ := hrel
    have hkl : k ≤ s.data.toList.length := by rw [← Lib.size_eq]; exact hk
    have hts : (⟨(s.data.toList.take k).toArray⟩ : ByteArray).size = k := by rw [Lib.size_mk, List.length_take]; omega
    have hb0 : ∀ h, s.data.toList[k - 1]? = some ((⟨(s.data.toList.take k).toArray⟩ : ByteArray)[k - 1]'h) := by
      intro h
      rw [← Lib.getElem_mk (s.data.toList.take k) (k - 1) h, List.getElem?_take]
      rw [hts] at h
      rw [if_pos h]
    have hx1 : (⟨(s.data.toList.take k).toArray⟩ : ByteArray).extract 0 (k - 1) = ⟨(s.data.toList.take (k - 1)).toArray⟩ := by
      rw [Lib.extract_mk, List.drop_zero, List.take_take]
      congr 3
      omega
    have hK := Lib.hid hc
    clear hc
    have hkl' := Lib.hid hkl
    clear hkl
    obtain ⟨t, ht⟩ : ∃ t, (⟨(s.data.toList.take k).toArray⟩ : ByteArray) = t := ⟨_, rfl⟩
    rw [ht] at hts hb0 hx1 ⊢
    have hK3 := Lib.hid ht
    clear ht
    by_cases h0 : 0 < k
    · have h1 : k - 1 < t.size := by omega
      have hwr : ((k : Int) - 1 + 9223372036854775808) % 18446744073709551616 - 9223372036854775808 = ((k - 1 : Nat) : Int) := by omega
      have hbk := hb0 h1
      clear hb0
      have hK2 := Lib.hid hbk
      clear hbk
      have hcx := HS.out (t[k - 1]'h1)
      cases hin : csetL.contains (t[k - 1]'h1) <;> rw [hin] at hcx
      · have HI := Lib.hid hin
        clear hin
        go_wp2_with (go_at_call 85; refine (Tryd.asciiSet_contains _ (t[k - 1]'h1) _ _ hcx).mono ?_; rintro e w' ⟨rfl, hw⟩; rw [hw])
        go_ret
        refine ⟨⟨t, rfl, k, hk, hK3.out.symm, hK.out, fun b _ hb => ?_⟩, rfl⟩
        rw [hK2.out] at hb
        rw [← Option.some.inj hb]
        exact HI.out
      · have HI := Lib.hid hin
        clear hin
        go_wp2_with (go_at_call 85; refine (Tryd.asciiSet_contains _ (t[k - 1]'h1) _ _ hcx).mono ?_; rintro e w' ⟨rfl, hw⟩; rw [hw])
        refine ⟨⟨k - 1, by omega, rfl, fun j b hj hb => ?_⟩, ?_⟩
        · by_cases e : j = k - 1
          · subst e
            have h3 : s.data.toList[k - 1]? = some b := by simpa using hb
            rw [hK2.out] at h3
            rw [← Option.some.inj h3]
            exact HI.out
          · exact hK.out j b (by omega) (by simpa using hb)
        · have hkl := hkl'.out
          rw [Lib.strSize_string, Lib.strSize_string, Lib.size_mk, List.length_take]
          omega
    · clear hb0
      go_wp2
      go_ret
      exact ⟨⟨t, rfl, k, hk, hK3.out.symm, hK.out, fun b hk0 _ => absurd hk0 h0⟩, rfl⟩

theorem trim_empty {s t : ByteArray} {e : Ending} (h1 : TrE s (.returned (.string t))) (h2 : TlE t e) : ∃ u : ByteArray, e = .returned (.string u) ∧ (u.size = 0 ↔ s.data.toList.all okc = true) := by
  obtain ⟨t', e1, k, hk, ht, ha, hb⟩ := h1
  injection e1 with e1
  injection e1 with e1
  subst e1
  obtain ⟨u, rfl, j, hj, hu, hc, hd⟩ := h2
  have htl : t.data.toList = s.data.toList.take k := by rw [ht]
  have hkl : k ≤ s.data.toList.length := by rw [← Lib.size_eq]; exact hk
  have hts : t.size = k := by rw [Lib.size_eq, htl, List.length_take]; omega
  rw [htl] at hc hd hu
  refine ⟨u, rfl, ?_⟩
  have hus : u.size = k - j := by rw [hu, Lib.size_mk, List.length_drop, List.length_take]; omega
  rw [hus]
  constructor
  · intro h0
    rw [List.all_eq_true]
    intro b hb'
    obtain ⟨i, hi⟩ := List.getElem?_of_mem hb'
    rw [← cset_okc]
    rcases Nat.lt_or_ge i k with h | h
    · exact hc i b (by omega) (by rw [List.getElem?_take, if_pos h]; exact hi)
    · exact ha i b h hi
  · intro hall
    rcases Nat.eq_zero_or_pos k with h | h
    · omega
    · have hlt : k - 1 < s.data.toList.length := by omega
      have h3 := hb _ h (List.getElem?_eq_getElem hlt)
      rw [cset_okc, List.all_eq_true.1 hall _ (List.getElem_mem hlt)] at h3
      cases h3

theorem info_set : (Tryd.prog.info? 94).map (·.size) = some 256 := by kernel_rfl

set_option maxHeartbeats 8000000 in
set_option maxRecDepth 1000000 in
theorem trim_any (s : ByteArray) (w : World) (h0 : 0 < s.size) (hs : s.size ≤ 9223372036854775807) :
    Calls Tryd.prog 61 #[.string s, .string csetB] w fun e w' => (∃ u : ByteArray, e = .returned (.string u) ∧ (u.size = 0 ↔ s.data.toList.all okc = true)) ∧ Below w.heap.size w w' := by
  have hM := Tryd.strings_makeASCIISet Tryd.zeroValue94 csetB w (by decide) cset_ascii
  have hemp : csetB.toList.isEmpty = false := by rw [Lib.toList_data]; rfl
  have hemps : s.toList.isEmpty = false := by
    rw [Lib.toList_data]
    cases h : s.data.toList with
    | nil => have := Lib.size_eq s; rw [h, List.length_nil] at this; omega
    | cons _ _ => rfl
  have hn1 : ((csetB.size : Int) == 1) = false := by decide
  have hcd : csetB.data.toList = csetL := rfl
  have hsc : (storeCells ⟨w.heap.size + 1, 0, none⟩ (Lib.setCells csetB.data.toList).toList 0).run Tryd.prog ((w.alloc (.cells (Lib.setCells csetB.data.toList) 94)).alloc (.cells Tryd.zeroCells94 94)) = .ok () ((w.alloc (.cells (Lib.setCells csetB.data.toList) 94)).alloc (.cells (Lib.setCells csetB.data.toList) 94)) := by
    have := run_storeCells_new (P := Tryd.prog) (w.alloc (.cells (Lib.setCells csetB.data.toList) 94)) 94 Tryd.zeroCells94 (Lib.setCells csetB.data.toList) (by rw [Lib.setCells_size]; exact info_set) (by rw [Lib.setCells_size]; kernel_rfl) (Lib.setCells_one _)
    simpa using this
  have hsz := Lib.setCells_size csetB.data.toList
  have hcellAt : ∀ x : UInt8, ((w.alloc (.cells (Lib.setCells csetB.data.toList) 94)).alloc (.cells (Lib.setCells csetB.data.toList) 94)).cell? ⟨w.heap.size + 1, x.toNat, none⟩ = some (.bool (csetL.contains x)) := fun x => by
    rw [World.cell?_alloc_at _ _ _ _ (by simp), Lib.setCells_at]
    rfl
  have HC := Lib.hid hcellAt
  clear hcellAt hcd
  obtain ⟨cb, hcb⟩ : ∃ cb, csetB = cb := ⟨_, rfl⟩
  rw [hcb] at hM hemp hn1 hsc hsz HC ⊢
  obtain ⟨cs, hcs⟩ : ∃ cs, Lib.setCells cb.data.toList = cs := ⟨_, rfl⟩
  rw [hcs] at hM hsc hsz HC
  clear hcs hcb
  go_enter Tryd.func61, Tryd.ntmps61
  go_wp2_with (go_at_call 75; refine hM.mono ?_; rintro e w' ⟨rfl, hw⟩; rw [hw])
  clear hM hsc
  refine (tr_any s (w.heap.size + 1) _ hs HC.out).mono ?_
  rintro e w' ⟨hte, rfl⟩
  obtain ⟨t, rfl, hk⟩ := hte
  have HT := Lib.hid (show TrE s (.returned (.string t)) from ⟨t, rfl, hk⟩)
  clear hk
  go_wp2_with fail
  refine (tl_any t (w.heap.size + 1) _ HC.out).mono ?_
  rintro e w' ⟨hle, rfl⟩
  obtain ⟨u, rfl, hu⟩ := trim_empty HT.out hle
  have HU := Lib.hid hu
  clear hu hle
  go_wp2_with fail
  go_ret
  exact ⟨⟨u, rfl, HU.out⟩, ((Below.refl _ _).alloc (Nat.le_refl _) _).alloc (by simp) _⟩
end Go.Proofs.YtjhajlfkiafhgaaDoor
