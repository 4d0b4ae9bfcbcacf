/-
  WalNone: its walk.
-/
import Derived.Test.YtlheihhhfajpkaaGreatDoorWm9
namespace Go.Proofs.YtlheihhhfajpkaaGreatDoor
open Go.RowKit

set_option maxRecDepth 100000 in
set_option maxHeartbeats 4000000 in
theorem none_walk (dir s : ByteArray) (size : Int) (_ : dir.size ≤ maxLen) (_ : s.size ≤ maxLen) (_ : (Lit.int IntKind.i64 size).wf = true) (w : World) :
    Calls Tryz.prog 8 #[.string dir, .string s, .int .i64 size] w fun e w' => e = .returned (.bool true) ∧ Below w.heap.size w w' := by
  obtain ⟨W1, hW1⟩ : ∃ W1, w.alloc (.cells #[.pointer none, .string ⟨#[]⟩, .int .i64 0, .map none, .int .i64 0, .int .i64 0, .bool false, .string ⟨#[]⟩] 52) = W1 := ⟨_, rfl⟩
  have hb1 : Below w.heap.size w W1 := by rw [← hW1]; exact (Below.refl _ _).alloc (Nat.le_refl _) _
  have hc1 : W1.cell? ⟨w.heap.size, 0, none⟩ = some (.pointer none) := by rw [← hW1]; simp [go_sem]
  have hx : ∀ W, Noned W (.pointer none) := fun _ => .inl rfl
  have HW := Lib.hid hW1
  have HB := Lib.hid hb1
  clear hb1
  go_enter Tryz.func8, Tryz.ntmps8
  go_wp2_with (go_at_call 12; go_loud (refine (n_open _ _).mono ?_); rintro e w2 ⟨rfl, rfl⟩)
  refine (alive_any _).mono ?_
  rintro e w2 ⟨rfl, hb2⟩
  have hz : Noned w2 (.pointer (some ⟨w.heap.size, 0, none⟩)) := .inr ⟨_, rfl, (hb2.cell (p := ⟨w.heap.size, 0, none⟩) (World.block_lt_of_cell? _ _ hc1)).trans hc1⟩
  have H2 := Lib.hid (HB.out.trans (hb2.mono HB.out.size))
  have HZ := Lib.hid hz
  have HX := Lib.hid (hx w2)
  clear hb2 hc1 hW1 hx hz
  go_wp2_with (first
    | (go_at_call 13; with_reducible refine (n_append HX.out s).mono ?_; rintro e v ⟨rfl, rfl⟩)
    | (go_at_call 13; with_reducible refine (n_append HZ.out s).mono ?_; rintro e v ⟨rfl, rfl⟩)
    | (go_at_call 20; with_reducible refine (n_sync HX.out).mono ?_; rintro e v ⟨rfl, rfl⟩)
    | (go_at_call 29; with_reducible refine (n_rotate HZ.out).mono ?_; rintro e v ⟨rfl, rfl⟩)
    | (go_at_call 30; with_reducible refine (n_drop HX.out _).mono ?_; rintro e v ⟨rfl, rfl⟩)
    | (go_at_call 17; with_reducible refine (n_records HX.out _).mono ?_; rintro e v ⟨rfl, rfl⟩)
    | (go_at_call 17; with_reducible refine (n_records HZ.out _).mono ?_; rintro e v ⟨rfl, rfl⟩)
    | (go_at_call 31; with_reducible refine (n_first HX.out).mono ?_; rintro e v ⟨rfl, rfl⟩)
    | (go_at_call 14; with_reducible refine (n_last HZ.out).mono ?_; rintro e v ⟨rfl, rfl⟩))
  go_ret
  exact ⟨rfl, H2.out⟩
end Go.Proofs.YtlheihhhfajpkaaGreatDoor
