/-
  DiskNone: its walk.
-/
import Derived.Test.YtjhajlfkiafhgaaDoorLSynced
namespace Go.Proofs.YtjhajlfkiafhgaaDoor
open Go.RowKit
variable {w w' w0 : World} {z : Nat}

set_option maxRecDepth 100000 in
theorem used_zero (h : w.cell? ⟨z, 0, none⟩ = some (.map none)) : Calls Tryd.prog 16 #[.pointer (some ⟨z, 0, none⟩)] w fun e w' => e = .returned (.int .i64 0) ∧ Below w.heap.size w w' := by
  go_enter Tryd.func16, Tryd.ntmps16
  go_wp2_with (at_range; refine wpl_range rfl _ rfl und_map rfl (show MapV ckN cvF _ none [] from rfl) ?_; intro w1 hr hb1 hz1; have H1 := Lib.hid (And.intro hr hb1); clear hr hb1)
  go_frame
  go_loopw [3, 5] (fun nv _ wr => RngV ckN cvF wr none w.heap.size [] [] ∧ nv = .int .i64 0 ∧ Below w.heap.size w wr) (fun _ _ wr => leftN wr none w.heap.size)
  case atStart => exact ⟨H1.out.1, rfl, H1.out.2⟩
  case round =>
    obtain ⟨hr, rfl, hb⟩ := hrel
    have HR := Lib.hid (And.intro hr hb)
    clear hr hb
    go_wp2_with (at_next; refine wpl_next rfl _ rfl rfl HR.out.1 ?_ ?_)
    go_ret
    exact ⟨rfl, HR.out.2⟩

/-- The disk &Disk{}. -/
structure ZAt (w0 w : World) (z : Nat) : Prop where
  c0 : w.cell? ⟨z, 0, none⟩ = some (.map none)
  c1 : w.cell? ⟨z, 1, none⟩ = some (.bool false)
  c4 : w.cell? ⟨z, 4, none⟩ = some (.int .i64 0)
  b : Below w0.heap.size w0 w
  hz : w0.heap.size ≤ w.heap.size
theorem ZAt.stay (h : ZAt w0 w z) (t : Below w.heap.size w w') : ZAt w0 w' z :=
  ⟨(t.cell (p := ⟨z, 0, none⟩) (World.block_lt_of_cell? _ _ h.c0)).trans h.c0, (t.cell (p := ⟨z, 1, none⟩) (World.block_lt_of_cell? _ _ h.c1)).trans h.c1, (t.cell (p := ⟨z, 4, none⟩) (World.block_lt_of_cell? _ _ h.c4)).trans h.c4, h.b.trans (t.mono h.hz), Nat.le_trans h.hz t.size⟩
theorem ZAt.on (h : ZAt w0 w z) : OnAt w (some ⟨z, 0, none⟩) false := .inr ⟨z, rfl, h.c1⟩

set_option maxRecDepth 100000 in
set_option maxHeartbeats 4000000 in
theorem none_walk (s t : ByteArray) (ys : s.size ≤ 140737488351232) (yt : t.size ≤ 140737488351232) (w : World) :
    Calls Tryd.prog 9 #[.string s, .string t] w fun e w' => e = .returned (.bool true) ∧ Below w.heap.size w w' := by
  have h0 : ZAt w (w.alloc (.cells #[.map none, .bool false, .int .i64 0, .pointer none, .int .i64 0] 47)) w.heap.size := ⟨by simp [go_sem], by simp [go_sem], by simp [go_sem], (Below.refl _ _).alloc (Nat.le_refl _) _, by simp⟩
  obtain ⟨v0, hv0⟩ : ∃ v0, w.alloc (.cells #[.map none, .bool false, .int .i64 0, .pointer none, .int .i64 0] 47) = v0 := ⟨_, rfl⟩
  rw [hv0] at h0
  have H0 := Lib.hid h0
  clear h0
  go_enter Tryd.func9, Tryd.ntmps9
  go_wp2_with (first
    | (go_at_call 24; refine (twin_nil _).mono ?_; rintro e v22 ⟨rfl, rfl⟩; have H22 := Lib.hid H21.out)
    | (go_at_call 26; refine (on_at H20.out.on).mono ?_; rintro e v21 ⟨rfl, rfl⟩; have H21 := Lib.hid H20.out)
    | (go_at_call 26; refine (on_at (o := none) (b := false) (.inl ⟨rfl, rfl⟩)).mono ?_; rintro e v20 ⟨rfl, rfl⟩; have H20 := Lib.hid H19.out)
    | (go_at_call 16; refine (used_zero H18.out.c0).mono ?_; rintro e v19 ⟨rfl, b2⟩; have H19 := Lib.hid (H18.out.stay b2); clear b2)
    | (go_at_call 16; refine (used_nil _).mono ?_; rintro e v18 ⟨rfl, rfl⟩; have H18 := Lib.hid H17.out)
    | (go_at_call 27; refine (acts_at H16.out.c4).mono ?_; rintro e v17 ⟨rfl, rfl⟩; have H17 := Lib.hid H16.out)
    | (go_at_call 27; refine (acts_nil _).mono ?_; rintro e v16 ⟨rfl, rfl⟩; have H16 := Lib.hid H15.out)
    | (go_at_call 23; refine (list_off H14.out.on ByteArray.empty).mono ?_; rintro e v15 ⟨rfl, b2⟩; have H15 := Lib.hid (H14.out.stay b2); clear b2)
    | (go_at_call 23; refine (list_off (.inl ⟨rfl, rfl⟩) ByteArray.empty).mono ?_; rintro e v14 ⟨rfl, b2⟩; have H14 := Lib.hid (H13.out.stay b2); clear b2)
    | (go_at_call 17; refine (remove_off H12.out.on s ys).mono ?_; rintro e v13 ⟨rfl, b2⟩; have H13 := Lib.hid (H12.out.stay b2); clear b2)
    | (go_at_call 22; refine (rename_off (.inl ⟨rfl, rfl⟩) s t ys yt).mono ?_; rintro e v12 ⟨rfl, b2⟩; have H12 := Lib.hid (H11.out.stay b2); clear b2)
    | (go_at_call 20; refine (sync_off H10.out.on s ys).mono ?_; rintro e v11 ⟨rfl, b2⟩; have H11 := Lib.hid (H10.out.stay b2); clear b2)
    | (go_at_call 14; refine (append_off (.inl ⟨rfl, rfl⟩) s t ys yt).mono ?_; rintro e v10 ⟨rfl, b2⟩; have H10 := Lib.hid (H9.out.stay b2); clear b2)
    | (go_at_call 12; refine (create_off H8.out.on s ys).mono ?_; rintro e v9 ⟨rfl, b2⟩; have H9 := Lib.hid (H8.out.stay b2); clear b2)
    | (go_at_call 12; refine (create_off (.inl ⟨rfl, rfl⟩) s ys).mono ?_; rintro e v8 ⟨rfl, b2⟩; have H8 := Lib.hid (H7.out.stay b2); clear b2)
    | (go_at_call 10; refine (alive_any _).mono ?_; rintro e v7 ⟨rfl, b2⟩; have H7 := Lib.hid (H6.out.stay b2); clear b2)
    | (go_at_call 25; refine (fuse_nil _ 1 _ 1).mono ?_; rintro e v6 ⟨rfl, rfl⟩; have H6 := Lib.hid H5.out)
    | (go_at_call 13; refine (quota_nil _ 1).mono ?_; rintro e v5 ⟨rfl, rfl⟩; have H5 := Lib.hid H4.out)
    | (go_at_call 19; refine (restore_nil _).mono ?_; rintro e v4 ⟨rfl, rfl⟩; have H4 := Lib.hid H3.out)
    | (go_at_call 18; have hs := H2.out.stay ((Below.refl _ _).alloc (Nat.le_refl _) (.cells #[.int .i64 1] 3)); refine (crash_off (.inl ⟨rfl, rfl⟩) _ 1).mono ?_; rintro e v3 ⟨rfl, rfl⟩; have H3 := Lib.hid hs; clear hs)
    | (go_at_call 15; refine (read_off H1.out.on s ys).mono ?_; rintro e v2 ⟨rfl, b2⟩; have H2 := Lib.hid (H1.out.stay b2); clear b2)
    | (go_at_call 15; refine (read_off (.inl ⟨rfl, rfl⟩) s ys).mono ?_; rintro e v1 ⟨rfl, b2⟩; have H1 := Lib.hid (H0.out.stay b2); clear b2))
  go_ret
  exact ⟨rfl, H22.out.b⟩
end Go.Proofs.YtjhajlfkiafhgaaDoor
