/-
  New, Count, Bytes, Freeze, Frozen, Last.
-/
import Derived.Test.YtmodgjjlgobjcaaGreatSkA
namespace Go.Proofs.YtmodgjjlgobjcaaGreat
open Go.RowKit

theorem zeroList (w : World) : (zeroValue 35).run Tryz.prog w = .ok (.agg #[.string ⟨#[]⟩, .string ⟨#[]⟩, .int .i64 0, .pointer none, .pointer none, .pointer none, .pointer none, .pointer none, .pointer none, .pointer none, .pointer none, .pointer none, .pointer none, .pointer none, .pointer none, .int .i64 0, .int .i64 0, .bool false]) w := by kernel_rfl

def freshCells : Array Value := #[.string ⟨#[]⟩, .string ⟨#[]⟩, .int .i64 0, .pointer none, .pointer none, .pointer none, .pointer none, .pointer none, .pointer none, .pointer none, .pointer none, .pointer none, .pointer none, .pointer none, .pointer none, .int .i64 0, .int .i64 0, .bool false]

theorem fresh_list (w : World) : SkAt (w.alloc (.cells freshCells 35)) w.heap.size [] false := by
  refine ⟨fun h hh => ?_, ?_, ?_, ?_, fun j => ?_, fun i hi => by simp at hi, fun i hi => by simp at hi, List.Pairwise.nil, by simp, by simp, by simp, by simp, PlainB.alloc _ _ _, by simp⟩
  · rw [World.cell?_alloc_mark]
    have : h = 0 ∨ h = 1 ∨ h = 2 ∨ h = 3 ∨ h = 4 ∨ h = 5 ∨ h = 6 ∨ h = 7 ∨ h = 8 ∨ h = 9 ∨ h = 10 ∨ h = 11 := by omega
    rcases this with rfl | rfl | rfl | rfl | rfl | rfl | rfl | rfl | rfl | rfl | rfl | rfl <;> rfl
  · rw [World.cell?_alloc_mark]; rfl
  · rw [World.cell?_alloc_mark]; rfl
  · rw [World.cell?_alloc_mark]; rfl
  · simp [go_sem]

set_option maxRecDepth 100000 in
theorem newl_any (w : World) : Calls Tryz.prog 5 #[] w fun e w' => e = .returned (.pointer (some ⟨w.heap.size, 0, none⟩)) ∧ SkAt w' w.heap.size [] false ∧ Below w.heap.size w w' := by
  have hz := zeroList
  have hf := Lib.hid (fresh_list w)
  obtain ⟨W1, hW1⟩ : ∃ W1, w.alloc (.cells freshCells 35) = W1 := ⟨_, rfl⟩
  have hb : Below w.heap.size w W1 := by rw [← hW1]; exact (Below.refl _ _).alloc (Nat.le_refl _) _
  rw [hW1] at hf
  have HB := Lib.hid hb
  unfold freshCells at hW1
  clear hb
  go_enter Tryz.func5, Tryz.ntmps5
  go_wp2
  refine ⟨rfl, _, ?_, rfl, hf.out, HB.out⟩
  simp [results, Tryz.results5, go_sem]

theorem count_any {w : World} {sb : Nat} {L : List Nd} {fr : Bool} (s : SkAt w sb L fr) : Calls Tryz.prog 19 #[.pointer (some ⟨sb, 0, none⟩)] w fun e w' => e = .returned (.int .i64 (L.length : Int)) ∧ w = w' := by
  have h := s.cnt
  clear s
  go_enter Tryz.func19, Tryz.ntmps19
  go_wp2
  go_ret
  exact ⟨rfl, rfl⟩
theorem bytes_any {w : World} {sb : Nat} {L : List Nd} {fr : Bool} (s : SkAt w sb L fr) : Calls Tryz.prog 25 #[.pointer (some ⟨sb, 0, none⟩)] w fun e w' => e = .returned (.int .i64 (bytesOf L : Int)) ∧ w = w' := by
  have h := s.byt
  clear s
  go_enter Tryz.func25, Tryz.ntmps25
  go_wp2
  go_ret
  exact ⟨rfl, rfl⟩
theorem frozen_any {w : World} {sb : Nat} {L : List Nd} {fr : Bool} (s : SkAt w sb L fr) : Calls Tryz.prog 20 #[.pointer (some ⟨sb, 0, none⟩)] w fun e w' => e = .returned (.bool fr) ∧ w = w' := by
  have h := s.frz
  clear s
  go_enter Tryz.func20, Tryz.ntmps20
  go_wp2
  go_ret
  exact ⟨rfl, rfl⟩
theorem nilcount_any (w : World) : Calls Tryz.prog 19 #[.pointer none] w fun e w' => e = .returned (.int .i64 0) ∧ w = w' := by
  go_enter Tryz.func19, Tryz.ntmps19
  go_wp2
  go_ret
  exact ⟨rfl, rfl⟩
theorem nilbytes_any (w : World) : Calls Tryz.prog 25 #[.pointer none] w fun e w' => e = .returned (.int .i64 0) ∧ w = w' := by
  go_enter Tryz.func25, Tryz.ntmps25
  go_wp2
  go_ret
  exact ⟨rfl, rfl⟩
theorem nilfrozen_any (w : World) : Calls Tryz.prog 20 #[.pointer none] w fun e w' => e = .returned (.bool false) ∧ w = w' := by
  go_enter Tryz.func20, Tryz.ntmps20
  go_wp2
  go_ret
  exact ⟨rfl, rfl⟩
theorem nilfreeze_any (w : World) : Calls Tryz.prog 16 #[.pointer none] w fun e w' => e = .returned (.tuple #[]) ∧ w = w' := by
  go_enter Tryz.func16, Tryz.ntmps16
  go_wp2
  go_end0
  exact ⟨rfl, rfl⟩
theorem nillanes_any (w : World) : Calls Tryz.prog 21 #[.pointer none] w fun e w' => e = .returned (.slice none 0 0) ∧ w = w' := by
  go_enter Tryz.func21, Tryz.ntmps21
  go_wp2
  go_ret
  exact ⟨rfl, rfl⟩
theorem nilsteps_any (k : ByteArray) (w : World) : Calls Tryz.prog 17 #[.pointer none, .string k] w fun e w' => e = .returned (.int .i64 0) ∧ w = w' := by
  go_enter Tryz.func17, Tryz.ntmps17
  go_wp2
  go_ret
  exact ⟨rfl, rfl⟩
theorem nillast_any (k : ByteArray) (w : World) : Calls Tryz.prog 14 #[.pointer none, .string k] w fun e w' => e = .returned (.tuple #[.string ⟨#[]⟩, .string ⟨#[]⟩, .bool false]) ∧ w = w' := by
  go_enter Tryz.func14, Tryz.ntmps14
  go_wp2
  refine ⟨rfl, _, ?_, rfl, rfl⟩
  simp [results, Tryz.results14, go_sem]

theorem SkAt.freeze {w : World} {sb : Nat} {L : List Nd} {fr : Bool} (s : SkAt w sb L fr) : SkAt (w.setCell ⟨sb, 17, none⟩ (.bool true)) sb L true := by
  have ne : ∀ j, j ≠ 17 → (⟨sb, 17, none⟩ : Addr) ≠ ⟨sb, j, none⟩ := fun j hj e => hj (by injection e with _ e2; exact e2.symm)
  have nd : ∀ n ∈ L, n.b ≠ sb := fun n hn e => (List.nodup_cons.1 s.nod).1 (e ▸ List.mem_map_of_mem hn)
  have ht : Tn (fun q => q = sb) w (w.setCell ⟨sb, 17, none⟩ (.bool true)) := Tn.setCell _ _ _ rfl
  refine ⟨fun h hh => ?_, ?_, ?_, World.cell?_setCell_same _ _ _ s.frz, fun j => by rw [World.frozen?_setCell]; exact s.fz j, fun i hi => ?_, fun i hi h hh => ?_, s.sorted, s.hts, s.sizes, s.nod, s.len, s.pl.1.setCell _ _, fun n hn => (s.pl.2 n hn).setCell _ _⟩
  · rw [World.cell?_setCell_other _ _ _ _ (ne _ (by omega))]; exact s.head h hh
  · rw [World.cell?_setCell_other _ _ _ _ (ne _ (by decide))]; exact s.cnt
  · rw [World.cell?_setCell_other _ _ _ _ (ne _ (by decide))]; exact s.byt
  · have hF := nd _ (List.getElem_mem hi)
    have hn := s.node i hi
    exact ⟨ht.cell hn.c0 hF, ht.cell hn.c1 hF, ht.cell hn.c2 hF, fun j => (ht.frozen (s.node_lt (List.getElem_mem hi)) hF).trans (hn.fz j)⟩
  · exact ht.cell (s.lane i hi h hh) (nd _ (List.getElem_mem hi))

theorem freeze_any {w : World} {sb : Nat} {L : List Nd} {fr : Bool} (s : SkAt w sb L fr) : Calls Tryz.prog 16 #[.pointer (some ⟨sb, 0, none⟩)] w fun e w' => e = .returned (.tuple #[]) ∧ SkAt w' sb L true ∧ Tn (fun q => q = sb) w w' := by
  have h := s.frz
  have hf := s.fz 17
  have HS := Lib.hid s
  clear s
  go_enter Tryz.func16, Tryz.ntmps16
  go_wp2
  go_end0
  exact ⟨rfl, HS.out.freeze, Tn.setCell _ _ _ rfl⟩
end Go.Proofs.YtmodgjjlgobjcaaGreat
