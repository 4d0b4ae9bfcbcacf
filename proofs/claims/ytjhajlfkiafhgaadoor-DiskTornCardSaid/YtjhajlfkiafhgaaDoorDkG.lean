/-
  Disk: the names, in order.
-/
import Derived.Test.YtjhajlfkiafhgaaDoorDkE
import Derived.Test.YtjhajlfkiafhgaaDoorApp2
import Derived.Test.YtjhajlfkiafhgaaDoorGen
import Derived.Sort.OwnSorted
import Derived.Lib.OwnBridge
namespace Go.Proofs.YtjhajlfkiafhgaaDoor
open Go.RowKit Go.Maps Go.Sort Go.Shelf
variable {F G : Nat → Prop} {w w' : World} {db mb : Nat} {D D' : Dk}

theorem compare_any (a b : ByteArray) (w : World) :
    Calls Tryd.prog 38 #[.string a, .string b] w fun e w' => e = .returned (.int .i64 (Lib.compareBytes a.data.toList b.data.toList)) ∧ w = w' := by
  go_enter Tryd.func38, Tryd.ntmps38
  go_wp2_with (go_at_call 50; refine (Tryd.strings_Compare _ _ _).mono ?_; rintro e w' ⟨rfl, rfl⟩)
  go_ret
  exact ⟨rfl, rfl⟩

/-- The map as the kit's words have it. -/
def dR : Value → Option (DataW Unit × List MemPlace) := fun _ => some (.agg [], [])
def dL (m : Fm) : List (Lit × DataW Unit) := m.map (fun p => (Lit.string p.1.data.toList, DataW.agg []))
theorem map_owns {m : Fm} (h : MapL ckN cvF w mb m) (hn : ∀ p ∈ m, p.1.size ≤ maxLen) (hl : m.length ≤ maxLen) : w.ownsMap Tryd.prog 9 dR mb m.length (.map ((dL m).foldr DataW.insert [])) := by
  obtain ⟨es, clock, hb, hs, he⟩ := h
  have hsz : es.size = m.length := by
    have := congrArg List.length he
    simpa [Ents] using this
  have hrd : ∀ x ∈ es.toList, ∃ s : ByteArray, x.key = .string s ∧ s.size ≤ maxLen := fun x hx => by
    have hm : (x.key, x.val) ∈ es.toList.map (fun x => (x.key, x.val)) := List.mem_map.2 ⟨x, hx, rfl⟩
    rw [he] at hm
    obtain ⟨p, hp, e⟩ := List.mem_map.1 hm
    simp only [Prod.mk.injEq] at e
    exact ⟨p.1, e.1.symm, hn p hp⟩
  have hkey : ∀ s : ByteArray, s.size ≤ maxLen → keyOf Tryd.prog 9 (.string s) = some (.string s.data.toList) := fun s hs => by
    simp [keyOf, mapKey, Tryd.underlying9, hs]
  have hrd2 : ∀ (x : MapEntry) (s : ByteArray), x.key = .string s → s.size ≤ maxLen → WideElems.rd Tryd.prog 9 dR x = some (.string s.data.toList, .agg []) := fun x s hx hs => by
    have := WideElems.rd_mk (P := Tryd.prog) (k := 9) (R := dR) (key := x.key) (val := x.val) (born := x.born) (by rw [hx]; exact hkey s hs) (yv := (DataW.agg [], [])) rfl
    exact this
  refine ⟨es, clock, hb, ⟨by rw [hsz]; exact hl, hs, fun x hx => ?_⟩, by rw [hsz]; exact Nat.le_refl _, ?_⟩
  · obtain ⟨s, h1, h2⟩ := hrd x hx
    exact ⟨_, hrd2 x s h1 h2⟩
  · congr 2
    unfold dL
    have h5 : es.toList.map (WideElems.rg Tryd.prog 9 dR) = (es.toList.map (fun x => (x.key, x.val))).map (fun p => (match p.1 with | .string s => (Lit.string s.data.toList, DataW.agg []) | _ => (Lit.bool false, DataW.nil))) := by
      rw [List.map_map]
      refine List.map_congr_left (fun x hx => ?_)
      obtain ⟨s, h1, h2⟩ := hrd x hx
      rw [WideElems.rg_of (hrd2 x s h1 h2)]
      simp [h1]
    rw [h5, he, List.map_map]
    rfl
theorem strKeys_dL (m : Fm) : (strKeys (.map ((dL m).foldr DataW.insert [])) : List (List UInt8)).Perm ((m.map (·.1)).map (·.data.toList)) := by
  have h := (WideShapes.sorted_perm (dL m)).map (fun p => strOf p.1)
  refine h.trans ?_
  unfold dL
  rw [List.map_map, List.map_map]
  exact .refl _

theorem keys_any (mb : Option Nat) (w : World) : Calls Tryd.prog 37 #[.map mb] w fun e w' =>
    e = .returned (.func (.func 49) #[] #[.pointer (some ⟨w.heap.size, 0, none⟩)]) ∧ w' = w.alloc (.cells #[.map mb] 44) :=
  (callsIn_wide (n := 5)).1 (AnyZ.keys_in Tryd.gl_keys Fence.wide 5 trivial rfl mb w)

theorem collect_any {m : Fm} {Bm : Nat} (h : MapL ckN cvF w mb m) (hn : ∀ p ∈ m, p.1.size ≤ 64) (hl : m.length ≤ 20000) (hB : w.cell? ⟨Bm, 0, none⟩ = some (.map (some mb))) :
    Calls Tryd.prog 47 #[.func (.func 49) #[] #[.pointer (some ⟨Bm, 0, none⟩)]] w fun e w' =>
      ∃ (v : Value) (ss : List (List UInt8)), e = .returned v ∧ ss.Perm ((m.map (·.1)).map (·.data.toList)) ∧ w'.ownsRow w.heap.size 9 1 v ss.length (ss.map encStr) ∧ (v = .slice none 0 0 ↔ ss = []) ∧ Below w.heap.size w w' := by
  have hown := map_owns h (fun p hp => by have := hn p hp; unfold maxLen; omega) (by unfold maxLen; omega)
  have hsz : Maps.size (DataW.map ((dL m).foldr DataW.insert []) : DataW Unit) = m.length := by
    show ((dL m).foldr DataW.insert []).length = m.length
    rw [length_sorted]; unfold dL; rw [List.length_map]
  have hseq : SeqGives Fence.wide 3 Tryd.prog 49 #[.pointer (some ⟨Bm, 0, none⟩)] encStr (fun ss => ss.Perm (strKeys (.map ((dL m).foldr DataW.insert []) : DataW Unit))) (Maps.size (DataW.map ((dL m).foldr DataW.insert []) : DataW Unit)) w :=
    AnyZ.keys_gives (ρ := Tryd.gl_keys_ren) { Tryd.gl_keys with } Fence.wide _ trivial rfl (by omega) Bm mb _ _ _ (World.block_lt_of_cell? _ _ hB) hB hown
  have hc := AnyZ.collect_in Tryd.gl_collect Fence.wide 5 trivial trivial rfl (by omega) 49 #[.pointer (some ⟨Bm, 0, none⟩)] trivial (enters_of Tryd.func49 (by kernel_rfl) rfl) _ _ (by rw [hsz]; unfold maxLen; omega) (by rw [hsz]; omega) w hseq
  refine ((callsIn_wide (n := 5)).1 hc).mono ?_
  rintro e w' ⟨v, ss, rfl, hp, hrow, hnil, hb⟩
  exact ⟨v, ss, rfl, hp.trans (strKeys_dL m), hrow, hnil, hb⟩

def cmpL (x y : List UInt8) : Int := Lib.compareBytes x y
theorem lt_t (x y : List UInt8) : ltOf cmpL x y = true ↔ Lib.compareBytes x y < 0 := decide_eq_true_iff
theorem lt_f (x y : List UInt8) : ltOf cmpL x y = false ↔ ¬ Lib.compareBytes x y < 0 := decide_eq_false_iff_not
theorem cmpL_swo : SWO (ltOf cmpL) := by
  refine ⟨fun x => ?_, fun x y z h1 h2 => ?_, fun x y z h1 h2 => ?_⟩
  · rw [lt_f, cmp_self]; omega
  · rw [lt_t] at h1 h2 ⊢
    exact (cmp_trans x y z (by omega) (by omega)).2 (.inl h1)
  · rw [lt_f] at h1 h2 ⊢
    have a1 := cmp_neg x y
    have a2 := cmp_neg y z
    have a3 := cmp_neg x z
    have := (cmp_trans z y x (by omega) (by omega)).1
    omega
theorem encStr_of (s : ByteArray) : encStr s.data.toList = .string s := by
  show Value.string ⟨s.data.toList.toArray⟩ = _
  rw [Lib.mk_data]
abbrev toB (l : List UInt8) : ByteArray := ⟨l.toArray⟩

theorem tT_info : (Tryd.prog.info? 9).map (fun i => (i.zero, i.size, i.bytes)) = some (some (.string ByteArray.empty), 1, 16) := by kernel_rfl
theorem eStr : Elm Tryd.prog 36 9 1 16 (fun s : ByteArray => [.string s]) where
  und := Tryd.underlying36
  info := by
    obtain ⟨i0, hi0, hz0, hs0, hy0⟩ := info_parts tT_info
    exact ⟨i0, _, hi0, hz0, hs0, hy0, rfl⟩
  pos := by decide
  few := by decide
  len _ := rfl
  one := by
    intro x u hu
    rw [List.mem_singleton] at hu
    subst hu
    rfl
theorem ownStr {w : World} {B : Nat} {v : Value} {ts : List (List UInt8)} (h : w.ownsRow B 9 1 v ts.length (ts.map encStr)) : Own eStr w B v (ts.map toB) := by
  show World.ownsRow _ _ _ _ _ _ _
  rw [List.length_map, ← List.map_eq_flatMap, List.map_map]
  exact h
theorem ownStr' {w : World} {B : Nat} {v : Value} {l : List ByteArray} (h : Own eStr w B v l) : w.ownsRow B 9 1 v l.length ((l.map (·.data.toList)).map encStr) := by
  have h2 : w.ownsRow B 9 1 v l.length (l.flatMap (fun s : ByteArray => [Value.string s])) := h
  rw [← List.map_eq_flatMap] at h2
  rw [List.map_map]
  have e : (encStr ∘ fun s : ByteArray => s.data.toList) = Value.string := by funext s; exact encStr_of s
  rw [e]
  exact h2

set_option maxRecDepth 100000 in
theorem sort_any {B g cap : Nat} {ss : List (List UInt8)} (h : w.ownsRow B 9 1 (.slice (some ⟨g, 0, none⟩) ss.length cap) ss.length (ss.map encStr)) (hl : ss.length ≤ 20000) :
    Calls Tryd.prog 48 #[.slice (some ⟨g, 0, none⟩) ss.length cap, .func (.func 38) #[] #[]] w fun e w' => e = .returned (.tuple #[]) ∧
      ∃ ts : List (List UInt8), ts.Perm ss ∧ ts.map toB = sortB (ss.map toB) ∧ w'.ownsRow B 9 1 (.slice (some ⟨g, 0, none⟩) ts.length cap) ts.length (ts.map encStr) ∧ w.grownBy w' (some g) := by
  obtain ⟨h1, h2⟩ := h
  rcases h2 with ⟨h2, _⟩ | ⟨g', cap', cur, hv, hg, hh, hn, hc, hcl, htk⟩
  · cases h2
  · injection hv with e1 e2 e3
    injection e1 with e1
    injection e1 with e1
    subst e1 e3
    have hlt : g < w.heap.size := (Array.getElem?_eq_some_iff.1 hh).1
    have hH : Holds encStr w g 0 ss.toArray := fun j hj => by
      have hj' : j < ss.length := by simpa using hj
      refine ⟨?_, by simp [World.frozen?, hh]⟩
      have e : (cur.toList.take (ss.length * 1))[j]? = (ss.map encStr)[j]? := by rw [htk]
      rw [List.getElem?_take, if_pos (by omega), Array.getElem?_toList, List.getElem?_map, List.getElem?_eq_getElem hj'] at e
      simp only [World.cell?, hh, Nat.zero_add, Option.isSome_none, Bool.false_eq_true, if_false]
      rw [e]
      simp [getElem!_pos, hj']
    have hcmp : CmpReads Tryd.prog 38 #[] encStr cmpL g 0 ss.toArray.size w := fun n os dk _ x y =>
      (compare_any (toB x) (toB y) _).mono fun e w' ⟨he, hw⟩ => ⟨he, 0, hw.symm⟩
    have hcon := Any.slices_SortFunc Tryd.gl_sort encStr (fun _ => rfl) cmpL cmpL_swo 38 #[] g 0 cap ss.toArray w (enters_of Tryd.func38 (by kernel_rfl) rfl) hcmp.lays hH hlt (by simp; omega)
    refine hcon.mono ?_
    rintro e w' ⟨rfl, d', n, os, hp, hso, rfl⟩
    obtain ⟨p1, _, p3⟩ := hp
    have p1' : d'.toList.length = ss.length := by simpa using p1
    have hperm : d'.toList.Perm ss := by
      have e1 : d'.extract 0 ss.toArray.size = d' := by rw [← p1]; exact Array.extract_size
      have e2 : ss.toArray.extract 0 ss.toArray.size = ss.toArray := Array.extract_size
      rw [e1, e2] at p3
      simpa using p3
    refine ⟨rfl, d'.toList, hperm, sortB_eq (hperm.map toB) ?_, ?_, ?_⟩
    · rw [List.pairwise_map, List.pairwise_iff_getElem]
      intro i j hi hj hij
      have hj2 : j < ss.toArray.size := by rw [← p1]; simpa using hj
      have := hso i j (Nat.zero_le _) hij hj2
      have hi3 : i < d'.size := by simpa using hi
      have hj3 : j < d'.size := by simpa using hj
      rw [lt_f, getElem!_pos d' i hi3, getElem!_pos d' j hj3] at this
      have a := cmp_neg d'[j] d'[i]
      show decide (Lib.compareBytes d'[i] d'[j] ≤ 0) = true
      rw [decide_eq_true_iff]
      omega
    · rw [p1']
      have := ownsRow_sorted (n := n) (os := os) (ss := ss) (ts := d'.toList) p1' hg hh hn hc (by simpa using hcl)
      exact this
    · exact grownBy_sorted d'
end Go.Proofs.YtjhajlfkiafhgaaDoor
