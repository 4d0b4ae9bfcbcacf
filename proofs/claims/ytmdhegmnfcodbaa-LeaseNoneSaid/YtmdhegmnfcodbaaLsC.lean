/-
  Lease: how leases lie; their ids, sorted.
-/
import Derived.Test.YtmdhegmnfcodbaaLsB
import Derived.Test.YtmdhegmnfcodbaaGen
import Derived.Sort.OwnSorted
import Derived.Lib.OwnBridge
namespace Go.Proofs.Ytmdhegmnfcodbaa
open Go.RowKit Go.Maps Go.Sort Go.Shelf

/-- A lease, with the slice that its vector lies in. -/
structure Lv where
  id : Int
  sa : Option Addr
  sc : Nat
  vs : List Int
  till : Int
abbrev Lv.sl (x : Lv) : Value := .slice x.sa x.vs.length x.sc
def cvL (x : Lv) : Value := .agg #[.int .i64 x.id, x.sl, .int .i64 x.till]
def ckZ (k : Int) : Value := .int .i64 k
abbrev Lm := List (Int × Lv)
theorem keyZ : KeyT Try.prog 3 ckZ (.int .i64) := key_int Try.underlying3
abbrev tMap : TypeId := 51
theorem und_map : Try.prog.underlying tMap = some (.map 3 35) := Try.underlying51

variable {w w' : World} {mb lb : Nat} {ob : Option Nat} {m : Lm} {last : Int}
def dR : Value → Option (DataW Unit × List MemPlace) := fun _ => some (.agg [], [])
def dL (m : Lm) : List (Lit × DataW Unit) := m.map (fun p => (Lit.int .i64 p.1, DataW.agg []))
theorem map_owns (h : MapL ckZ cvL w mb m) (hn : ∀ p ∈ m, 1 ≤ p.1 ∧ p.1 ≤ 72057594037927936) (hl : m.length ≤ maxLen) : w.ownsMap Try.prog 3 dR mb m.length (.map ((dL m).foldr DataW.insert [])) := by
  obtain ⟨es, clock, hb, hs, he⟩ := h
  have hsz : es.size = m.length := by
    have := congrArg List.length he
    simpa [Ents] using this
  have hrd : ∀ x ∈ es.toList, ∃ s : Int, x.key = .int .i64 s ∧ 1 ≤ s ∧ s ≤ 72057594037927936 := fun x hx => by
    have hm : (x.key, x.val) ∈ es.toList.map (fun x => (x.key, x.val)) := List.mem_map.2 ⟨x, hx, rfl⟩
    rw [he] at hm
    obtain ⟨p, hp, e⟩ := List.mem_map.1 hm
    simp only [Prod.mk.injEq] at e
    exact ⟨p.1, e.1.symm, hn p hp⟩
  have hkey : ∀ s : Int, 1 ≤ s ∧ s ≤ 72057594037927936 → keyOf Try.prog 3 (.int .i64 s) = some (.int .i64 s) := fun s hs => by
    have hw : (Lit.int .i64 s).wf = true := by
      simp only [Lit.wf, Bool.and_eq_true, decide_eq_true_eq]
      exact ⟨by show (-9223372036854775808 : Int) ≤ s; omega, by show s ≤ (9223372036854775807 : Int); omega⟩
    simp [keyOf, mapKey, Try.underlying3, hw]
  have hrd2 : ∀ (x : MapEntry) (s : Int), x.key = .int .i64 s → 1 ≤ s ∧ s ≤ 72057594037927936 → WideElems.rd Try.prog 3 dR x = some (.int .i64 s, .agg []) := fun x s hx hs => by
    have := WideElems.rd_mk (P := Try.prog) (k := 3) (R := dR) (key := x.key) (val := x.val) (born := x.born) (by rw [hx]; exact hkey s hs) (yv := (DataW.agg [], [])) rfl
    exact this
  refine ⟨es, clock, hb, ⟨by rw [hsz]; exact hl, hs, fun x hx => ?_⟩, by rw [hsz]; exact Nat.le_refl _, ?_⟩
  · obtain ⟨s, h1, h2⟩ := hrd x hx
    exact ⟨_, hrd2 x s h1 h2⟩
  · congr 2
    unfold dL
    have h5 : es.toList.map (WideElems.rg Try.prog 3 dR) = (es.toList.map (fun x => (x.key, x.val))).map (fun p => (match p.1 with | .int _ s => (Lit.int .i64 s, DataW.agg []) | _ => (Lit.bool false, DataW.nil))) := by
      rw [List.map_map]
      refine List.map_congr_left (fun x hx => ?_)
      obtain ⟨s, h1, h2⟩ := hrd x hx
      rw [WideElems.rg_of (hrd2 x s h1 h2)]
      simp [h1]
    rw [h5, he, List.map_map]
    rfl
theorem intKeys_dL (m : Lm) : (intKeys (.map ((dL m).foldr DataW.insert []) : DataW Unit)).Perm (m.map (·.1)) := by
  have h := (WideShapes.sorted_perm (dL m)).map (fun p => Go.intOf p.1)
  refine h.trans ?_
  unfold dL
  rw [List.map_map]
  exact .refl _
theorem keys_any (mb : Option Nat) (w : World) : Calls Try.prog 32 #[.map mb] w fun e w' =>
    e = .returned (.func (.func 46) #[] #[.pointer (some ⟨w.heap.size, 0, none⟩)]) ∧ w' = w.alloc (.cells #[.map mb] 51) :=
  (callsIn_wide (n := 5)).1 (AnyZI.keys_in Try.gl_keys Fence.wide 5 trivial rfl mb w)
theorem sortsZ (m : Nat) : AnyZI.SortsIn Try.prog Try.gl_sorted_ren Fence.wide m :=
  ⟨fun blk off cap ss W hH hblk hsz => callsIn_wide.2 (AnyM.slices_Sort_int Try.gl_sort blk off cap ss W hH hblk hsz),
   fun p cap W => callsIn_wide.2 (AnyM.slices_Sort_int_none Try.gl_sort p cap W)⟩
/-- Ids in order. -/
def sortZ (l : List Int) : List Int := l.mergeSort (fun x y => decide (x ≤ y))
theorem sorted_any {Bm : Nat} (h : MapV ckZ cvL w ob m) (hn : ∀ p ∈ m, 1 ≤ p.1 ∧ p.1 ≤ 72057594037927936) (hl : m.length ≤ 20000) (hB : w.cell? ⟨Bm, 0, none⟩ = some (.map ob)) :
    Calls Try.prog 31 #[.func (.func 46) #[] #[.pointer (some ⟨Bm, 0, none⟩)]] w fun e w' =>
      ∃ (v : Value), e = .returned v ∧ w'.ownsRow w.heap.size 3 1 v m.length ((sortZ (m.map (·.1))).map encZ) ∧ Below w.heap.size w w' := by
  cases ob with
  | none =>
    have hm : m = [] := h
    subst hm
    have hseq : SeqGives Fence.wide 2 Try.prog 46 #[.pointer (some ⟨Bm, 0, none⟩)] encZ (fun ss : List Int => ss = []) 0 w :=
      AnyZI.keys_gives_nil (ρ := Try.gl_keys_ren) { Try.gl_keys with } Fence.wide _ trivial rfl Bm _ (World.block_lt_of_cell? _ _ hB) hB
    have cS := AnyZI.sorted_in Try.gl_sorted Fence.wide 5 trivial trivial trivial trivial rfl (by omega) (sortsZ _) (enters_of Try.func45 (by kernel_rfl) rfl) 46 #[.pointer (some ⟨Bm, 0, none⟩)] trivial (enters_of Try.func46 (by kernel_rfl) rfl) _ 0 (Nat.zero_le _) (by omega) _ hseq
    refine ((callsIn_wide (n := 5)).1 cS).mono ?_
    rintro e w' ⟨v, ss, rfl, rfl, hrow, hnil, hb⟩
    exact ⟨v, rfl, hrow, hb⟩
  | some mb =>
    have hown := map_owns h hn (by unfold maxLen; omega)
    have hsz : Maps.size (DataW.map ((dL m).foldr DataW.insert []) : DataW Unit) = m.length := by
      show ((dL m).foldr DataW.insert []).length = m.length
      rw [length_sorted]; unfold dL; rw [List.length_map]
    have hseq : SeqGives Fence.wide 2 Try.prog 46 #[.pointer (some ⟨Bm, 0, none⟩)] encZ (fun ss => ss.Perm (intKeys (.map ((dL m).foldr DataW.insert []) : DataW Unit))) (Maps.size (DataW.map ((dL m).foldr DataW.insert []) : DataW Unit)) w :=
      AnyZI.keys_gives (ρ := Try.gl_keys_ren) { Try.gl_keys with } Fence.wide _ trivial rfl (by omega) Bm mb _ _ _ (World.block_lt_of_cell? _ _ hB) hB hown
    have cS := AnyZI.sorted_in Try.gl_sorted Fence.wide 5 trivial trivial trivial trivial rfl (by omega) (sortsZ _) (enters_of Try.func45 (by kernel_rfl) rfl) 46 #[.pointer (some ⟨Bm, 0, none⟩)] trivial (enters_of Try.func46 (by kernel_rfl) rfl) _ _ (by rw [hsz]; unfold maxLen; omega) (by rw [hsz]; omega) _ hseq
    refine ((callsIn_wide (n := 5)).1 cS).mono ?_
    rintro e w' ⟨v, ss, rfl, hp, hrow, hnil, hb⟩
    have hp2 := hp.trans (intKeys_dL m)
    have hlen : ss.length = m.length := by rw [hp2.length_eq, List.length_map]
    rw [hlen, show (ss.mergeSort (fun x y => decide (x ≤ y))) = sortZ (m.map (·.1)) from mergeSort_of_perm_i hp2] at hrow
    exact ⟨v, rfl, hrow, hb⟩
end Go.Proofs.Ytmdhegmnfcodbaa
