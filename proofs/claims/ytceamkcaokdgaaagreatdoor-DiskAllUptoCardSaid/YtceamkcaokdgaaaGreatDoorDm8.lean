import Derived.Test.YtceamkcaokdgaaaGreatDoorDm1
import Derived.Test.YtceamkcaokdgaaaGreatDoorShelf
import Derived.Test.YtceamkcaokdgaaaGreatDoorDm7
set_option linter.unusedSimpArgs false
set_option linter.unusedVariables false
/-
  Book: of the kinds of which nothing was kept.
-/
namespace Go.Proofs.YtceamkcaokdgaaaGreatDoor
open Go.RowKit


theorem still_Ints {w : World} {bk : Nat} (h : w.cell? ⟨bk, 2, none⟩ = some (.slice none 0 0)) : Calls Tryz.prog 44 #[.pointer (some ⟨bk, 0, none⟩)] w fun e w' => e = .returned (.bool true) ∧ w = w' := by
  go_enter Tryz.func44, Tryz.ntmps44
  go_wp2
  go_loop [3] (fun y => y = .int .i64 0) (fun _ => 0)
  case atStart => rfl
  case round =>
    subst hrel
    go_wp2
    go_ret
    exact ⟨rfl, rfl⟩
theorem put_Ints {w : World} {bk : Nat} (h : w.cell? ⟨bk, 2, none⟩ = some (.slice none 0 0)) : Calls Tryz.prog 64 #[.pointer (some ⟨bk, 0, none⟩)] w fun e w' => e = .returned (.tuple #[]) ∧ w = w' := by
  go_enter Tryz.func64, Tryz.ntmps64
  go_wp2
  go_loop [2] (fun y => y = .int .i64 0) (fun _ => 0)
  case atStart => rfl
  case round =>
    subst hrel
    go_wp2
    go_end0
    exact ⟨rfl, rfl⟩
theorem grow_Ints {w : World} {bk : Nat} (h : w.cell? ⟨bk, 2, none⟩ = some (.slice none 0 0)) : Calls Tryz.prog 74 #[.pointer (some ⟨bk, 0, none⟩)] w fun e w' => e = .returned (.slice none 0 0) ∧ w = w' := by
  go_enter Tryz.func74, Tryz.ntmps74
  go_wp2
  go_loop [3, 4] (fun v y => v = .slice none 0 0 ∧ y = .int .i64 0) (fun _ _ => 0)
  case atStart => exact ⟨rfl, rfl⟩
  case round =>
    obtain ⟨rfl, rfl⟩ := hrel
    go_wp2
    go_ret
    exact ⟨rfl, rfl⟩
theorem marked_Ints (w : World) : Calls Tryz.prog 89 #[.slice none 0 0] w fun e w' => e = .returned (.bool true) ∧ w = w' := by
  go_enter Tryz.func89, Tryz.ntmps89
  go_wp2
  go_loop [3] (fun y => y = .int .i64 0) (fun _ => 0)
  case atStart => rfl
  case round =>
    subst hrel
    go_wp2
    go_ret
    exact ⟨rfl, rfl⟩

theorem still_Vecs {w : World} {bk : Nat} (h : w.cell? ⟨bk, 4, none⟩ = some (.slice none 0 0)) : Calls Tryz.prog 45 #[.pointer (some ⟨bk, 0, none⟩)] w fun e w' => e = .returned (.bool true) ∧ w = w' := by
  go_enter Tryz.func45, Tryz.ntmps45
  go_wp2
  go_loop [3] (fun y => y = .int .i64 0) (fun _ => 0)
  case atStart => rfl
  case round =>
    subst hrel
    go_wp2
    go_ret
    exact ⟨rfl, rfl⟩
theorem put_Vecs {w : World} {bk : Nat} (h : w.cell? ⟨bk, 4, none⟩ = some (.slice none 0 0)) : Calls Tryz.prog 65 #[.pointer (some ⟨bk, 0, none⟩)] w fun e w' => e = .returned (.tuple #[]) ∧ w = w' := by
  go_enter Tryz.func65, Tryz.ntmps65
  go_wp2
  go_loop [2] (fun y => y = .int .i64 0) (fun _ => 0)
  case atStart => rfl
  case round =>
    subst hrel
    go_wp2
    go_end0
    exact ⟨rfl, rfl⟩
theorem grow_Vecs {w : World} {bk : Nat} (h : w.cell? ⟨bk, 4, none⟩ = some (.slice none 0 0)) : Calls Tryz.prog 75 #[.pointer (some ⟨bk, 0, none⟩)] w fun e w' => e = .returned (.slice none 0 0) ∧ w = w' := by
  go_enter Tryz.func75, Tryz.ntmps75
  go_wp2
  go_loop [3, 4] (fun v y => v = .slice none 0 0 ∧ y = .int .i64 0) (fun _ _ => 0)
  case atStart => exact ⟨rfl, rfl⟩
  case round =>
    obtain ⟨rfl, rfl⟩ := hrel
    go_wp2
    go_ret
    exact ⟨rfl, rfl⟩
theorem marked_Vecs (w : World) : Calls Tryz.prog 90 #[.slice none 0 0] w fun e w' => e = .returned (.bool true) ∧ w = w' := by
  go_enter Tryz.func90, Tryz.ntmps90
  go_wp2
  go_loop [3] (fun y => y = .int .i64 0) (fun _ => 0)
  case atStart => rfl
  case round =>
    subst hrel
    go_wp2
    go_ret
    exact ⟨rfl, rfl⟩

theorem still_Keys {w : World} {bk : Nat} (h : w.cell? ⟨bk, 6, none⟩ = some (.slice none 0 0)) : Calls Tryz.prog 46 #[.pointer (some ⟨bk, 0, none⟩)] w fun e w' => e = .returned (.bool true) ∧ w = w' := by
  go_enter Tryz.func46, Tryz.ntmps46
  go_wp2
  go_loop [3] (fun y => y = .int .i64 0) (fun _ => 0)
  case atStart => rfl
  case round =>
    subst hrel
    go_wp2
    go_ret
    exact ⟨rfl, rfl⟩
theorem put_Keys {w : World} {bk : Nat} (h : w.cell? ⟨bk, 6, none⟩ = some (.slice none 0 0)) : Calls Tryz.prog 66 #[.pointer (some ⟨bk, 0, none⟩)] w fun e w' => e = .returned (.tuple #[]) ∧ w = w' := by
  go_enter Tryz.func66, Tryz.ntmps66
  go_wp2
  go_loop [2] (fun y => y = .int .i64 0) (fun _ => 0)
  case atStart => rfl
  case round =>
    subst hrel
    go_wp2
    go_end0
    exact ⟨rfl, rfl⟩
theorem grow_Keys {w : World} {bk : Nat} (h : w.cell? ⟨bk, 6, none⟩ = some (.slice none 0 0)) : Calls Tryz.prog 76 #[.pointer (some ⟨bk, 0, none⟩)] w fun e w' => e = .returned (.slice none 0 0) ∧ w = w' := by
  go_enter Tryz.func76, Tryz.ntmps76
  go_wp2
  go_loop [3, 4] (fun v y => v = .slice none 0 0 ∧ y = .int .i64 0) (fun _ _ => 0)
  case atStart => exact ⟨rfl, rfl⟩
  case round =>
    obtain ⟨rfl, rfl⟩ := hrel
    go_wp2
    go_ret
    exact ⟨rfl, rfl⟩
theorem marked_Keys (w : World) : Calls Tryz.prog 91 #[.slice none 0 0] w fun e w' => e = .returned (.bool true) ∧ w = w' := by
  go_enter Tryz.func91, Tryz.ntmps91
  go_wp2
  go_loop [3] (fun y => y = .int .i64 0) (fun _ => 0)
  case atStart => rfl
  case round =>
    subst hrel
    go_wp2
    go_ret
    exact ⟨rfl, rfl⟩

theorem still_Pairs {w : World} {bk : Nat} (h : w.cell? ⟨bk, 8, none⟩ = some (.slice none 0 0)) : Calls Tryz.prog 47 #[.pointer (some ⟨bk, 0, none⟩)] w fun e w' => e = .returned (.bool true) ∧ w = w' := by
  go_enter Tryz.func47, Tryz.ntmps47
  go_wp2
  go_loop [3] (fun y => y = .int .i64 0) (fun _ => 0)
  case atStart => rfl
  case round =>
    subst hrel
    go_wp2
    go_ret
    exact ⟨rfl, rfl⟩
theorem put_Pairs {w : World} {bk : Nat} (h : w.cell? ⟨bk, 8, none⟩ = some (.slice none 0 0)) : Calls Tryz.prog 67 #[.pointer (some ⟨bk, 0, none⟩)] w fun e w' => e = .returned (.tuple #[]) ∧ w = w' := by
  go_enter Tryz.func67, Tryz.ntmps67
  go_wp2
  go_loop [2] (fun y => y = .int .i64 0) (fun _ => 0)
  case atStart => rfl
  case round =>
    subst hrel
    go_wp2
    go_end0
    exact ⟨rfl, rfl⟩
theorem grow_Pairs {w : World} {bk : Nat} (h : w.cell? ⟨bk, 8, none⟩ = some (.slice none 0 0)) : Calls Tryz.prog 77 #[.pointer (some ⟨bk, 0, none⟩)] w fun e w' => e = .returned (.slice none 0 0) ∧ w = w' := by
  go_enter Tryz.func77, Tryz.ntmps77
  go_wp2
  go_loop [3, 4] (fun v y => v = .slice none 0 0 ∧ y = .int .i64 0) (fun _ _ => 0)
  case atStart => exact ⟨rfl, rfl⟩
  case round =>
    obtain ⟨rfl, rfl⟩ := hrel
    go_wp2
    go_ret
    exact ⟨rfl, rfl⟩
theorem marked_Pairs (w : World) : Calls Tryz.prog 92 #[.slice none 0 0] w fun e w' => e = .returned (.bool true) ∧ w = w' := by
  go_enter Tryz.func92, Tryz.ntmps92
  go_wp2
  go_loop [3] (fun y => y = .int .i64 0) (fun _ => 0)
  case atStart => rfl
  case round =>
    subst hrel
    go_wp2
    go_ret
    exact ⟨rfl, rfl⟩

theorem still_Versions {w : World} {bk : Nat} (h : w.cell? ⟨bk, 10, none⟩ = some (.slice none 0 0)) : Calls Tryz.prog 48 #[.pointer (some ⟨bk, 0, none⟩)] w fun e w' => e = .returned (.bool true) ∧ w = w' := by
  go_enter Tryz.func48, Tryz.ntmps48
  go_wp2
  go_loop [3] (fun y => y = .int .i64 0) (fun _ => 0)
  case atStart => rfl
  case round =>
    subst hrel
    go_wp2
    go_ret
    exact ⟨rfl, rfl⟩
theorem put_Versions {w : World} {bk : Nat} (h : w.cell? ⟨bk, 10, none⟩ = some (.slice none 0 0)) : Calls Tryz.prog 58 #[.pointer (some ⟨bk, 0, none⟩)] w fun e w' => e = .returned (.tuple #[]) ∧ w = w' := by
  go_enter Tryz.func58, Tryz.ntmps58
  go_wp2
  go_loop [2] (fun y => y = .int .i64 0) (fun _ => 0)
  case atStart => rfl
  case round =>
    subst hrel
    go_wp2
    go_end0
    exact ⟨rfl, rfl⟩
theorem grow_Versions {w : World} {bk : Nat} (h : w.cell? ⟨bk, 10, none⟩ = some (.slice none 0 0)) : Calls Tryz.prog 78 #[.pointer (some ⟨bk, 0, none⟩)] w fun e w' => e = .returned (.slice none 0 0) ∧ w = w' := by
  go_enter Tryz.func78, Tryz.ntmps78
  go_wp2
  go_loop [3, 4] (fun v y => v = .slice none 0 0 ∧ y = .int .i64 0) (fun _ _ => 0)
  case atStart => exact ⟨rfl, rfl⟩
  case round =>
    obtain ⟨rfl, rfl⟩ := hrel
    go_wp2
    go_ret
    exact ⟨rfl, rfl⟩
theorem marked_Versions (w : World) : Calls Tryz.prog 93 #[.slice none 0 0] w fun e w' => e = .returned (.bool true) ∧ w = w' := by
  go_enter Tryz.func93, Tryz.ntmps93
  go_wp2
  go_loop [3] (fun y => y = .int .i64 0) (fun _ => 0)
  case atStart => rfl
  case round =>
    subst hrel
    go_wp2
    go_ret
    exact ⟨rfl, rfl⟩

theorem still_Writes {w : World} {bk : Nat} (h : w.cell? ⟨bk, 12, none⟩ = some (.slice none 0 0)) : Calls Tryz.prog 49 #[.pointer (some ⟨bk, 0, none⟩)] w fun e w' => e = .returned (.bool true) ∧ w = w' := by
  go_enter Tryz.func49, Tryz.ntmps49
  go_wp2
  go_loop [3] (fun y => y = .int .i64 0) (fun _ => 0)
  case atStart => rfl
  case round =>
    subst hrel
    go_wp2
    go_ret
    exact ⟨rfl, rfl⟩
theorem put_Writes {w : World} {bk : Nat} (h : w.cell? ⟨bk, 12, none⟩ = some (.slice none 0 0)) : Calls Tryz.prog 68 #[.pointer (some ⟨bk, 0, none⟩)] w fun e w' => e = .returned (.tuple #[]) ∧ w = w' := by
  go_enter Tryz.func68, Tryz.ntmps68
  go_wp2
  go_loop [2] (fun y => y = .int .i64 0) (fun _ => 0)
  case atStart => rfl
  case round =>
    subst hrel
    go_wp2
    go_end0
    exact ⟨rfl, rfl⟩
theorem grow_Writes {w : World} {bk : Nat} (h : w.cell? ⟨bk, 12, none⟩ = some (.slice none 0 0)) : Calls Tryz.prog 79 #[.pointer (some ⟨bk, 0, none⟩)] w fun e w' => e = .returned (.slice none 0 0) ∧ w = w' := by
  go_enter Tryz.func79, Tryz.ntmps79
  go_wp2
  go_loop [3, 4] (fun v y => v = .slice none 0 0 ∧ y = .int .i64 0) (fun _ _ => 0)
  case atStart => exact ⟨rfl, rfl⟩
  case round =>
    obtain ⟨rfl, rfl⟩ := hrel
    go_wp2
    go_ret
    exact ⟨rfl, rfl⟩
theorem marked_Writes (w : World) : Calls Tryz.prog 94 #[.slice none 0 0] w fun e w' => e = .returned (.bool true) ∧ w = w' := by
  go_enter Tryz.func94, Tryz.ntmps94
  go_wp2
  go_loop [3] (fun y => y = .int .i64 0) (fun _ => 0)
  case atStart => rfl
  case round =>
    subst hrel
    go_wp2
    go_ret
    exact ⟨rfl, rfl⟩

theorem still_Txns {w : World} {bk : Nat} (h : w.cell? ⟨bk, 14, none⟩ = some (.slice none 0 0)) : Calls Tryz.prog 50 #[.pointer (some ⟨bk, 0, none⟩)] w fun e w' => e = .returned (.bool true) ∧ w = w' := by
  go_enter Tryz.func50, Tryz.ntmps50
  go_wp2
  go_loop [3] (fun y => y = .int .i64 0) (fun _ => 0)
  case atStart => rfl
  case round =>
    subst hrel
    go_wp2
    go_ret
    exact ⟨rfl, rfl⟩
theorem put_Txns {w : World} {bk : Nat} (h : w.cell? ⟨bk, 14, none⟩ = some (.slice none 0 0)) : Calls Tryz.prog 59 #[.pointer (some ⟨bk, 0, none⟩)] w fun e w' => e = .returned (.tuple #[]) ∧ w = w' := by
  go_enter Tryz.func59, Tryz.ntmps59
  go_wp2
  go_loop [2] (fun y => y = .int .i64 0) (fun _ => 0)
  case atStart => rfl
  case round =>
    subst hrel
    go_wp2
    go_end0
    exact ⟨rfl, rfl⟩
theorem grow_Txns {w : World} {bk : Nat} (h : w.cell? ⟨bk, 14, none⟩ = some (.slice none 0 0)) : Calls Tryz.prog 80 #[.pointer (some ⟨bk, 0, none⟩)] w fun e w' => e = .returned (.slice none 0 0) ∧ w = w' := by
  go_enter Tryz.func80, Tryz.ntmps80
  go_wp2
  go_loop [3, 4] (fun v y => v = .slice none 0 0 ∧ y = .int .i64 0) (fun _ _ => 0)
  case atStart => exact ⟨rfl, rfl⟩
  case round =>
    obtain ⟨rfl, rfl⟩ := hrel
    go_wp2
    go_ret
    exact ⟨rfl, rfl⟩
theorem marked_Txns (w : World) : Calls Tryz.prog 95 #[.slice none 0 0] w fun e w' => e = .returned (.bool true) ∧ w = w' := by
  go_enter Tryz.func95, Tryz.ntmps95
  go_wp2
  go_loop [3] (fun y => y = .int .i64 0) (fun _ => 0)
  case atStart => rfl
  case round =>
    subst hrel
    go_wp2
    go_ret
    exact ⟨rfl, rfl⟩

theorem still_Files {w : World} {bk : Nat} (h : w.cell? ⟨bk, 16, none⟩ = some (.slice none 0 0)) : Calls Tryz.prog 51 #[.pointer (some ⟨bk, 0, none⟩)] w fun e w' => e = .returned (.bool true) ∧ w = w' := by
  go_enter Tryz.func51, Tryz.ntmps51
  go_wp2
  go_loop [3] (fun y => y = .int .i64 0) (fun _ => 0)
  case atStart => rfl
  case round =>
    subst hrel
    go_wp2
    go_ret
    exact ⟨rfl, rfl⟩
theorem put_Files {w : World} {bk : Nat} (h : w.cell? ⟨bk, 16, none⟩ = some (.slice none 0 0)) : Calls Tryz.prog 69 #[.pointer (some ⟨bk, 0, none⟩)] w fun e w' => e = .returned (.tuple #[]) ∧ w = w' := by
  go_enter Tryz.func69, Tryz.ntmps69
  go_wp2
  go_loop [2] (fun y => y = .int .i64 0) (fun _ => 0)
  case atStart => rfl
  case round =>
    subst hrel
    go_wp2
    go_end0
    exact ⟨rfl, rfl⟩
theorem grow_Files {w : World} {bk : Nat} (h : w.cell? ⟨bk, 16, none⟩ = some (.slice none 0 0)) : Calls Tryz.prog 81 #[.pointer (some ⟨bk, 0, none⟩)] w fun e w' => e = .returned (.slice none 0 0) ∧ w = w' := by
  go_enter Tryz.func81, Tryz.ntmps81
  go_wp2
  go_loop [3, 4] (fun v y => v = .slice none 0 0 ∧ y = .int .i64 0) (fun _ _ => 0)
  case atStart => exact ⟨rfl, rfl⟩
  case round =>
    obtain ⟨rfl, rfl⟩ := hrel
    go_wp2
    go_ret
    exact ⟨rfl, rfl⟩
theorem marked_Files (w : World) : Calls Tryz.prog 96 #[.slice none 0 0] w fun e w' => e = .returned (.bool true) ∧ w = w' := by
  go_enter Tryz.func96, Tryz.ntmps96
  go_wp2
  go_loop [3] (fun y => y = .int .i64 0) (fun _ => 0)
  case atStart => rfl
  case round =>
    subst hrel
    go_wp2
    go_ret
    exact ⟨rfl, rfl⟩

theorem still_Notes {w : World} {bk : Nat} (h : w.cell? ⟨bk, 18, none⟩ = some (.slice none 0 0)) : Calls Tryz.prog 52 #[.pointer (some ⟨bk, 0, none⟩)] w fun e w' => e = .returned (.bool true) ∧ w = w' := by
  go_enter Tryz.func52, Tryz.ntmps52
  go_wp2
  go_loop [3] (fun y => y = .int .i64 0) (fun _ => 0)
  case atStart => rfl
  case round =>
    subst hrel
    go_wp2
    go_ret
    exact ⟨rfl, rfl⟩
theorem put_Notes {w : World} {bk : Nat} (h : w.cell? ⟨bk, 18, none⟩ = some (.slice none 0 0)) : Calls Tryz.prog 70 #[.pointer (some ⟨bk, 0, none⟩)] w fun e w' => e = .returned (.tuple #[]) ∧ w = w' := by
  go_enter Tryz.func70, Tryz.ntmps70
  go_wp2
  go_loop [2] (fun y => y = .int .i64 0) (fun _ => 0)
  case atStart => rfl
  case round =>
    subst hrel
    go_wp2
    go_end0
    exact ⟨rfl, rfl⟩
theorem grow_Notes {w : World} {bk : Nat} (h : w.cell? ⟨bk, 18, none⟩ = some (.slice none 0 0)) : Calls Tryz.prog 82 #[.pointer (some ⟨bk, 0, none⟩)] w fun e w' => e = .returned (.slice none 0 0) ∧ w = w' := by
  go_enter Tryz.func82, Tryz.ntmps82
  go_wp2
  go_loop [3, 4] (fun v y => v = .slice none 0 0 ∧ y = .int .i64 0) (fun _ _ => 0)
  case atStart => exact ⟨rfl, rfl⟩
  case round =>
    obtain ⟨rfl, rfl⟩ := hrel
    go_wp2
    go_ret
    exact ⟨rfl, rfl⟩
theorem marked_Notes (w : World) : Calls Tryz.prog 97 #[.slice none 0 0] w fun e w' => e = .returned (.bool true) ∧ w = w' := by
  go_enter Tryz.func97, Tryz.ntmps97
  go_wp2
  go_loop [3] (fun y => y = .int .i64 0) (fun _ => 0)
  case atStart => rfl
  case round =>
    subst hrel
    go_wp2
    go_ret
    exact ⟨rfl, rfl⟩

theorem still_Leases {w : World} {bk : Nat} (h : w.cell? ⟨bk, 20, none⟩ = some (.slice none 0 0)) : Calls Tryz.prog 53 #[.pointer (some ⟨bk, 0, none⟩)] w fun e w' => e = .returned (.bool true) ∧ w = w' := by
  go_enter Tryz.func53, Tryz.ntmps53
  go_wp2
  go_loop [3] (fun y => y = .int .i64 0) (fun _ => 0)
  case atStart => rfl
  case round =>
    subst hrel
    go_wp2
    go_ret
    exact ⟨rfl, rfl⟩
theorem put_Leases {w : World} {bk : Nat} (h : w.cell? ⟨bk, 20, none⟩ = some (.slice none 0 0)) : Calls Tryz.prog 60 #[.pointer (some ⟨bk, 0, none⟩)] w fun e w' => e = .returned (.tuple #[]) ∧ w = w' := by
  go_enter Tryz.func60, Tryz.ntmps60
  go_wp2
  go_loop [2] (fun y => y = .int .i64 0) (fun _ => 0)
  case atStart => rfl
  case round =>
    subst hrel
    go_wp2
    go_end0
    exact ⟨rfl, rfl⟩
theorem grow_Leases {w : World} {bk : Nat} (h : w.cell? ⟨bk, 20, none⟩ = some (.slice none 0 0)) : Calls Tryz.prog 83 #[.pointer (some ⟨bk, 0, none⟩)] w fun e w' => e = .returned (.slice none 0 0) ∧ w = w' := by
  go_enter Tryz.func83, Tryz.ntmps83
  go_wp2
  go_loop [3, 4] (fun v y => v = .slice none 0 0 ∧ y = .int .i64 0) (fun _ _ => 0)
  case atStart => exact ⟨rfl, rfl⟩
  case round =>
    obtain ⟨rfl, rfl⟩ := hrel
    go_wp2
    go_ret
    exact ⟨rfl, rfl⟩
theorem marked_Leases (w : World) : Calls Tryz.prog 98 #[.slice none 0 0] w fun e w' => e = .returned (.bool true) ∧ w = w' := by
  go_enter Tryz.func98, Tryz.ntmps98
  go_wp2
  go_loop [3] (fun y => y = .int .i64 0) (fun _ => 0)
  case atStart => rfl
  case round =>
    subst hrel
    go_wp2
    go_ret
    exact ⟨rfl, rfl⟩

theorem still_Letters {w : World} {bk : Nat} (h : w.cell? ⟨bk, 22, none⟩ = some (.slice none 0 0)) : Calls Tryz.prog 54 #[.pointer (some ⟨bk, 0, none⟩)] w fun e w' => e = .returned (.bool true) ∧ w = w' := by
  go_enter Tryz.func54, Tryz.ntmps54
  go_wp2
  go_loop [3] (fun y => y = .int .i64 0) (fun _ => 0)
  case atStart => rfl
  case round =>
    subst hrel
    go_wp2
    go_ret
    exact ⟨rfl, rfl⟩
theorem put_Letters {w : World} {bk : Nat} (h : w.cell? ⟨bk, 22, none⟩ = some (.slice none 0 0)) : Calls Tryz.prog 71 #[.pointer (some ⟨bk, 0, none⟩)] w fun e w' => e = .returned (.tuple #[]) ∧ w = w' := by
  go_enter Tryz.func71, Tryz.ntmps71
  go_wp2
  go_loop [2] (fun y => y = .int .i64 0) (fun _ => 0)
  case atStart => rfl
  case round =>
    subst hrel
    go_wp2
    go_end0
    exact ⟨rfl, rfl⟩
theorem grow_Letters {w : World} {bk : Nat} (h : w.cell? ⟨bk, 22, none⟩ = some (.slice none 0 0)) : Calls Tryz.prog 84 #[.pointer (some ⟨bk, 0, none⟩)] w fun e w' => e = .returned (.slice none 0 0) ∧ w = w' := by
  go_enter Tryz.func84, Tryz.ntmps84
  go_wp2
  go_loop [3, 4] (fun v y => v = .slice none 0 0 ∧ y = .int .i64 0) (fun _ _ => 0)
  case atStart => exact ⟨rfl, rfl⟩
  case round =>
    obtain ⟨rfl, rfl⟩ := hrel
    go_wp2
    go_ret
    exact ⟨rfl, rfl⟩
theorem marked_Letters (w : World) : Calls Tryz.prog 99 #[.slice none 0 0] w fun e w' => e = .returned (.bool true) ∧ w = w' := by
  go_enter Tryz.func99, Tryz.ntmps99
  go_wp2
  go_loop [3] (fun y => y = .int .i64 0) (fun _ => 0)
  case atStart => rfl
  case round =>
    subst hrel
    go_wp2
    go_ret
    exact ⟨rfl, rfl⟩

theorem still_Steps {w : World} {bk : Nat} (h : w.cell? ⟨bk, 24, none⟩ = some (.slice none 0 0)) : Calls Tryz.prog 55 #[.pointer (some ⟨bk, 0, none⟩)] w fun e w' => e = .returned (.bool true) ∧ w = w' := by
  go_enter Tryz.func55, Tryz.ntmps55
  go_wp2
  go_loop [3] (fun y => y = .int .i64 0) (fun _ => 0)
  case atStart => rfl
  case round =>
    subst hrel
    go_wp2
    go_ret
    exact ⟨rfl, rfl⟩
theorem put_Steps {w : World} {bk : Nat} (h : w.cell? ⟨bk, 24, none⟩ = some (.slice none 0 0)) : Calls Tryz.prog 61 #[.pointer (some ⟨bk, 0, none⟩)] w fun e w' => e = .returned (.tuple #[]) ∧ w = w' := by
  go_enter Tryz.func61, Tryz.ntmps61
  go_wp2
  go_loop [2] (fun y => y = .int .i64 0) (fun _ => 0)
  case atStart => rfl
  case round =>
    subst hrel
    go_wp2
    go_end0
    exact ⟨rfl, rfl⟩
theorem grow_Steps {w : World} {bk : Nat} (h : w.cell? ⟨bk, 24, none⟩ = some (.slice none 0 0)) : Calls Tryz.prog 85 #[.pointer (some ⟨bk, 0, none⟩)] w fun e w' => e = .returned (.slice none 0 0) ∧ w = w' := by
  go_enter Tryz.func85, Tryz.ntmps85
  go_wp2
  go_loop [3, 4] (fun v y => v = .slice none 0 0 ∧ y = .int .i64 0) (fun _ _ => 0)
  case atStart => exact ⟨rfl, rfl⟩
  case round =>
    obtain ⟨rfl, rfl⟩ := hrel
    go_wp2
    go_ret
    exact ⟨rfl, rfl⟩
theorem marked_Steps (w : World) : Calls Tryz.prog 100 #[.slice none 0 0] w fun e w' => e = .returned (.bool true) ∧ w = w' := by
  go_enter Tryz.func100, Tryz.ntmps100
  go_wp2
  go_loop [3] (fun y => y = .int .i64 0) (fun _ => 0)
  case atStart => rfl
  case round =>
    subst hrel
    go_wp2
    go_ret
    exact ⟨rfl, rfl⟩

theorem still_Reals {w : World} {bk : Nat} (h : w.cell? ⟨bk, 26, none⟩ = some (.slice none 0 0)) : Calls Tryz.prog 56 #[.pointer (some ⟨bk, 0, none⟩)] w fun e w' => e = .returned (.bool true) ∧ w = w' := by
  go_enter Tryz.func56, Tryz.ntmps56
  go_wp2
  go_loop [3] (fun y => y = .int .i64 0) (fun _ => 0)
  case atStart => rfl
  case round =>
    subst hrel
    go_wp2
    go_ret
    exact ⟨rfl, rfl⟩
theorem put_Reals {w : World} {bk : Nat} (h : w.cell? ⟨bk, 26, none⟩ = some (.slice none 0 0)) : Calls Tryz.prog 72 #[.pointer (some ⟨bk, 0, none⟩)] w fun e w' => e = .returned (.tuple #[]) ∧ w = w' := by
  go_enter Tryz.func72, Tryz.ntmps72
  go_wp2
  go_loop [2] (fun y => y = .int .i64 0) (fun _ => 0)
  case atStart => rfl
  case round =>
    subst hrel
    go_wp2
    go_end0
    exact ⟨rfl, rfl⟩
theorem grow_Reals {w : World} {bk : Nat} (h : w.cell? ⟨bk, 26, none⟩ = some (.slice none 0 0)) : Calls Tryz.prog 86 #[.pointer (some ⟨bk, 0, none⟩)] w fun e w' => e = .returned (.slice none 0 0) ∧ w = w' := by
  go_enter Tryz.func86, Tryz.ntmps86
  go_wp2
  go_loop [3, 4] (fun v y => v = .slice none 0 0 ∧ y = .int .i64 0) (fun _ _ => 0)
  case atStart => exact ⟨rfl, rfl⟩
  case round =>
    obtain ⟨rfl, rfl⟩ := hrel
    go_wp2
    go_ret
    exact ⟨rfl, rfl⟩
theorem marked_Reals (w : World) : Calls Tryz.prog 101 #[.slice none 0 0] w fun e w' => e = .returned (.bool true) ∧ w = w' := by
  go_enter Tryz.func101, Tryz.ntmps101
  go_wp2
  go_loop [3] (fun y => y = .int .i64 0) (fun _ => 0)
  case atStart => rfl
  case round =>
    subst hrel
    go_wp2
    go_ret
    exact ⟨rfl, rfl⟩

theorem still_Lists {w : World} {bk : Nat} (h : w.cell? ⟨bk, 28, none⟩ = some (.slice none 0 0)) : Calls Tryz.prog 57 #[.pointer (some ⟨bk, 0, none⟩)] w fun e w' => e = .returned (.bool true) ∧ w = w' := by
  go_enter Tryz.func57, Tryz.ntmps57
  go_wp2
  go_loop [3] (fun y => y = .int .i64 0) (fun _ => 0)
  case atStart => rfl
  case round =>
    subst hrel
    go_wp2
    go_ret
    exact ⟨rfl, rfl⟩
theorem put_Lists {w : World} {bk : Nat} (h : w.cell? ⟨bk, 28, none⟩ = some (.slice none 0 0)) : Calls Tryz.prog 62 #[.pointer (some ⟨bk, 0, none⟩)] w fun e w' => e = .returned (.tuple #[]) ∧ w = w' := by
  go_enter Tryz.func62, Tryz.ntmps62
  go_wp2
  go_loop [2] (fun y => y = .int .i64 0) (fun _ => 0)
  case atStart => rfl
  case round =>
    subst hrel
    go_wp2
    go_end0
    exact ⟨rfl, rfl⟩
theorem grow_Lists {w : World} {bk : Nat} (h : w.cell? ⟨bk, 28, none⟩ = some (.slice none 0 0)) : Calls Tryz.prog 87 #[.pointer (some ⟨bk, 0, none⟩)] w fun e w' => e = .returned (.slice none 0 0) ∧ w = w' := by
  go_enter Tryz.func87, Tryz.ntmps87
  go_wp2
  go_loop [3, 4] (fun v y => v = .slice none 0 0 ∧ y = .int .i64 0) (fun _ _ => 0)
  case atStart => exact ⟨rfl, rfl⟩
  case round =>
    obtain ⟨rfl, rfl⟩ := hrel
    go_wp2
    go_ret
    exact ⟨rfl, rfl⟩
theorem marked_Lists (w : World) : Calls Tryz.prog 102 #[.slice none 0 0] w fun e w' => e = .returned (.bool true) ∧ w = w' := by
  go_enter Tryz.func102, Tryz.ntmps102
  go_wp2
  go_loop [3] (fun y => y = .int .i64 0) (fun _ => 0)
  case atStart => rfl
  case round =>
    subst hrel
    go_wp2
    go_ret
    exact ⟨rfl, rfl⟩
end Go.Proofs.YtceamkcaokdgaaaGreatDoor
/-
  Book: Apart, where lists of these kinds were kept: Texts.
-/
namespace Go.Proofs.YtceamkcaokdgaaaGreatDoor
open Go.RowKit

/-- Of the other kinds nothing was kept. -/
def ApN (bk : Nat) (w : World) : Prop := ∀ o, o < 30 → o ≠ 0 → o ≠ 1 → w.cell? ⟨bk, o, none⟩ = some (.slice none 0 0)
theorem mset_foot {α : Type} {mk : Nat → Nat → α} {vo : Value} {S : List (Sl × List α)} {n q : Nat} (h : footL vo (mset mk n S) q) : footL vo S q := footL_congr (mset_fst mk n S) q h
theorem grow_foot {P : Program} {T E TS : TypeId} {k by_ : Nat} {α : Type} {cell : α → List Value} {e : Elm P T E k by_ cell} {eS : Elm P TS T 1 24 sCell} {mk : Nat → Nat → α} {w0 wr : World} {B : Nat} {vo outv : Value} {S Sg : List (Sl × List α)} {i q : Nat} (h : Grow e eS mk w0 wr B vo S outv Sg i) (hq : footL outv Sg q) : footL vo S q ∨ w0.heap.size ≤ q := by
  rcases hq with hq | ⟨j, hj, hq⟩
  · exact .inr (h.freshO q hq)
  · exact (h.freshE j hj q hq).imp (fun ⟨hj', h2⟩ => .inr ⟨j, hj', h2⟩) id
theorem mset_lens {α : Type} {mk : Nat → Nat → α} {S : List (Sl × List α)} {M : Nat} (h : ∀ i (hi : i < S.length), S[i].2.length ≤ M) : ∀ i (hi : i < (mset mk S.length S).length), (mset mk S.length S)[i].2.length ≤ M := by
  intro i hi
  have hi' : i < S.length := by rwa [mset_len] at hi
  rw [mset_get mk S.length i S hi hi', if_pos hi', marks_len]
  exact h i hi'
theorem grow_lens {P : Program} {T E TS : TypeId} {k by_ : Nat} {α : Type} {cell : α → List Value} {e : Elm P T E k by_ cell} {eS : Elm P TS T 1 24 sCell} {mk : Nat → Nat → α} {w0 wr : World} {B : Nat} {vo outv : Value} {S Sg : List (Sl × List α)} {M : Nat} (g : Grow e eS mk w0 wr B vo S outv Sg S.length) (h : ∀ i (hi : i < S.length), S[i].2.length ≤ M) : ∀ i (hi : i < Sg.length), Sg[i].2.length ≤ M + 72 := by
  intro i hi
  have hi' : i < S.length := g.len ▸ hi
  rw [g.mkd i hi hi', marks_len]
  have := h i hi'
  omega

set_option maxRecDepth 100000 in
set_option maxHeartbeats 8000000 in
theorem apart_any {w : World} {bk B : Nat} {v0 u0 : Value} {S0 T0 : List (Sl × List ByteArray)} (hB : B ≤ w.heap.size) (hbk : bk < B) (hn : ApN bk w) (k0 : Kd kTexts kTextsS w bk 0 B v0 u0 S0 T0) (n0 : S0.length ≤ 250) (l0 : ∀ i (hi : i < S0.length), S0[i].2.length ≤ 50000) :
    Calls Tryz.prog 13 #[.pointer (some ⟨bk, 0, none⟩)] w fun e w' => e = .returned (.bool true) ∧ Tn (fun q => footL v0 S0 q) w w' := by
  have Hn0 := Lib.hid n0
  have Hl0 := Lib.hid l0
  have Hb0 := Lib.hid (show ¬ footL v0 S0 bk from fun hq => by have := (k0.l.lt hq).1; omega)
  have HB := Lib.hid (And.intro hB hbk)
  have A0 := Lib.hid (And.intro hn k0)
  clear hn hB hbk k0 n0 l0
  go_enter Tryz.func13, Tryz.ntmps13
  go_wp2_with fail
  refine (still_Texts (A0.out.2) (by have := Hn0.out; omega) (fun i hi => by have := Hl0.out i hi; omega)).mono ?_
  rintro e x1 ⟨rfl, a1, hw⟩
  have tn : Tn (fun _ => False) w x1 := by rw [hw]; exact tn_drewN _ _
  have A1 := Lib.hid (And.intro (fun o h0 h1 h2 => tn.cell (A0.out.1 o h0 h1 h2) (fun e => e) : ApN bk x1) ((A0.out.2).tn tn (fun e => e) (fun _ _ e => e)))
  have Z1 := Lib.hid (tn)
  clear hw tn
  go_wp2_with fail
  refine (still_Ints (A1.out.1 2 (by decide) (by decide) (by decide))).mono ?_
  rintro e w' ⟨rfl, rfl⟩
  go_wp2_with fail
  refine (still_Vecs (A1.out.1 4 (by decide) (by decide) (by decide))).mono ?_
  rintro e w' ⟨rfl, rfl⟩
  go_wp2_with fail
  refine (still_Keys (A1.out.1 6 (by decide) (by decide) (by decide))).mono ?_
  rintro e w' ⟨rfl, rfl⟩
  go_wp2_with fail
  refine (still_Pairs (A1.out.1 8 (by decide) (by decide) (by decide))).mono ?_
  rintro e w' ⟨rfl, rfl⟩
  go_wp2_with fail
  refine (still_Versions (A1.out.1 10 (by decide) (by decide) (by decide))).mono ?_
  rintro e w' ⟨rfl, rfl⟩
  go_wp2_with fail
  refine (still_Writes (A1.out.1 12 (by decide) (by decide) (by decide))).mono ?_
  rintro e w' ⟨rfl, rfl⟩
  go_wp2_with fail
  refine (still_Txns (A1.out.1 14 (by decide) (by decide) (by decide))).mono ?_
  rintro e w' ⟨rfl, rfl⟩
  go_wp2_with fail
  refine (still_Files (A1.out.1 16 (by decide) (by decide) (by decide))).mono ?_
  rintro e w' ⟨rfl, rfl⟩
  go_wp2_with fail
  refine (still_Notes (A1.out.1 18 (by decide) (by decide) (by decide))).mono ?_
  rintro e w' ⟨rfl, rfl⟩
  go_wp2_with fail
  refine (still_Leases (A1.out.1 20 (by decide) (by decide) (by decide))).mono ?_
  rintro e w' ⟨rfl, rfl⟩
  go_wp2_with fail
  refine (still_Letters (A1.out.1 22 (by decide) (by decide) (by decide))).mono ?_
  rintro e w' ⟨rfl, rfl⟩
  go_wp2_with fail
  refine (still_Steps (A1.out.1 24 (by decide) (by decide) (by decide))).mono ?_
  rintro e w' ⟨rfl, rfl⟩
  go_wp2_with fail
  refine (still_Reals (A1.out.1 26 (by decide) (by decide) (by decide))).mono ?_
  rintro e w' ⟨rfl, rfl⟩
  go_wp2_with fail
  refine (still_Lists (A1.out.1 28 (by decide) (by decide) (by decide))).mono ?_
  rintro e w' ⟨rfl, rfl⟩
  have hs0 := Z1.out.size
  have B0 := Lib.hid (And.intro A1.out.1 (And.intro (Z1.out.mono (fun _ e => e.elim) : Tn (fun q => footL v0 S0 q) w x1) (And.intro A1.out.2.c0 A1.out.2.l)))
  go_wp2_with fail
  refine (put_Versions (B0.out.1 10 (by decide) (by decide) (by decide))).mono ?_
  rintro e w' ⟨rfl, rfl⟩
  go_wp2_with fail
  refine (put_Txns (B0.out.1 14 (by decide) (by decide) (by decide))).mono ?_
  rintro e w' ⟨rfl, rfl⟩
  go_wp2_with fail
  refine (put_Leases (B0.out.1 20 (by decide) (by decide) (by decide))).mono ?_
  rintro e w' ⟨rfl, rfl⟩
  go_wp2_with fail
  refine (put_Steps (B0.out.1 24 (by decide) (by decide) (by decide))).mono ?_
  rintro e w' ⟨rfl, rfl⟩
  go_wp2_with fail
  refine (put_Lists (B0.out.1 28 (by decide) (by decide) (by decide))).mono ?_
  rintro e w' ⟨rfl, rfl⟩
  go_wp2_with fail
  refine (put_Texts B0.out.2.2.1 HB.out.2 B0.out.2.2.2 (by have := Hn0.out; omega) (fun i hi => by have := Hl0.out i hi; omega)).mono ?_
  rintro e y1 ⟨rfl, hl, ht⟩
  have B1 := Lib.hid (And.intro (fun o h0 h1 h2 => ht.cell (B0.out.1 o h0 h1 h2) Hb0.out : ApN bk y1) (And.intro (B0.out.2.1.trans (ht.mono (fun q hq => (by first | exact .inl hq | exact .inr hq | exact hq)))) (And.intro (ht.cell B0.out.2.2.1 Hb0.out) hl)))
  clear hl ht
  go_wp2_with fail
  refine (put_Ints (B1.out.1 2 (by decide) (by decide) (by decide))).mono ?_
  rintro e w' ⟨rfl, rfl⟩
  go_wp2_with fail
  refine (put_Vecs (B1.out.1 4 (by decide) (by decide) (by decide))).mono ?_
  rintro e w' ⟨rfl, rfl⟩
  go_wp2_with fail
  refine (put_Keys (B1.out.1 6 (by decide) (by decide) (by decide))).mono ?_
  rintro e w' ⟨rfl, rfl⟩
  go_wp2_with fail
  refine (put_Pairs (B1.out.1 8 (by decide) (by decide) (by decide))).mono ?_
  rintro e w' ⟨rfl, rfl⟩
  go_wp2_with fail
  refine (put_Writes (B1.out.1 12 (by decide) (by decide) (by decide))).mono ?_
  rintro e w' ⟨rfl, rfl⟩
  go_wp2_with fail
  refine (put_Files (B1.out.1 16 (by decide) (by decide) (by decide))).mono ?_
  rintro e w' ⟨rfl, rfl⟩
  go_wp2_with fail
  refine (put_Notes (B1.out.1 18 (by decide) (by decide) (by decide))).mono ?_
  rintro e w' ⟨rfl, rfl⟩
  go_wp2_with fail
  refine (put_Letters (B1.out.1 22 (by decide) (by decide) (by decide))).mono ?_
  rintro e w' ⟨rfl, rfl⟩
  go_wp2_with fail
  refine (put_Reals (B1.out.1 26 (by decide) (by decide) (by decide))).mono ?_
  rintro e w' ⟨rfl, rfl⟩
  go_wp2_with fail
  have hml : (mset mkTexts S0.length S0).length = S0.length := mset_len _ _ _
  refine (grow_Texts B1.out.2.2.1 HB.out.2 B1.out.2.2.2 (by rw [hml]; have := Hn0.out; omega) (fun i hi => by have := mset_lens (mk := mkTexts) Hl0.out i hi; omega) (mset_all mkTexts S0) (Nat.le_trans HB.out.1 B1.out.2.1.size)).mono ?_
  rintro e y2 ⟨g0, Sg0, rfl, hg⟩
  have hg0 := hg
  rw [hml] at hg
  have ht : Tn (footL v0 S0) _ y2 := hg.tn.mono (fun q hq => mset_foot hq)
  have B2 := Lib.hid (And.intro (fun o h0 h1 h2 => ht.cell (B1.out.1 o h0 h1 h2) Hb0.out : ApN bk y2) (And.intro (B1.out.2.1.trans (ht.mono (fun q hq => (by first | exact .inl hq | exact .inr hq | exact hq)))) (And.intro (ht.cell B1.out.2.2.1 Hb0.out) hg.l)))
  have hfar : ∀ q, footL g0 Sg0 q → ¬ (False) := fun q hq h2 => h2
  have G0 := Lib.hid (And.intro hg.g (And.intro (mset_len mkTexts S0.length S0 ▸ hg.len : Sg0.length = S0.length) (And.intro (grow_lens hg0 (mset_lens (mk := mkTexts) Hl0.out)) (And.intro (Grow.mkd_all hg0) hfar))))
  clear hg hg0 ht hfar hml
  go_wp2_with fail
  refine (grow_Ints (B2.out.1 2 (by decide) (by decide) (by decide))).mono ?_
  rintro e w' ⟨rfl, rfl⟩
  go_wp2_with fail
  refine (grow_Vecs (B2.out.1 4 (by decide) (by decide) (by decide))).mono ?_
  rintro e w' ⟨rfl, rfl⟩
  go_wp2_with fail
  refine (grow_Keys (B2.out.1 6 (by decide) (by decide) (by decide))).mono ?_
  rintro e w' ⟨rfl, rfl⟩
  go_wp2_with fail
  refine (grow_Pairs (B2.out.1 8 (by decide) (by decide) (by decide))).mono ?_
  rintro e w' ⟨rfl, rfl⟩
  go_wp2_with fail
  refine (grow_Versions (B2.out.1 10 (by decide) (by decide) (by decide))).mono ?_
  rintro e w' ⟨rfl, rfl⟩
  go_wp2_with fail
  refine (grow_Writes (B2.out.1 12 (by decide) (by decide) (by decide))).mono ?_
  rintro e w' ⟨rfl, rfl⟩
  go_wp2_with fail
  refine (grow_Txns (B2.out.1 14 (by decide) (by decide) (by decide))).mono ?_
  rintro e w' ⟨rfl, rfl⟩
  go_wp2_with fail
  refine (grow_Files (B2.out.1 16 (by decide) (by decide) (by decide))).mono ?_
  rintro e w' ⟨rfl, rfl⟩
  go_wp2_with fail
  refine (grow_Notes (B2.out.1 18 (by decide) (by decide) (by decide))).mono ?_
  rintro e w' ⟨rfl, rfl⟩
  go_wp2_with fail
  refine (grow_Leases (B2.out.1 20 (by decide) (by decide) (by decide))).mono ?_
  rintro e w' ⟨rfl, rfl⟩
  go_wp2_with fail
  refine (grow_Letters (B2.out.1 22 (by decide) (by decide) (by decide))).mono ?_
  rintro e w' ⟨rfl, rfl⟩
  go_wp2_with fail
  refine (grow_Steps (B2.out.1 24 (by decide) (by decide) (by decide))).mono ?_
  rintro e w' ⟨rfl, rfl⟩
  go_wp2_with fail
  refine (grow_Reals (B2.out.1 26 (by decide) (by decide) (by decide))).mono ?_
  rintro e w' ⟨rfl, rfl⟩
  go_wp2_with fail
  refine (grow_Lists (B2.out.1 28 (by decide) (by decide) (by decide))).mono ?_
  rintro e w' ⟨rfl, rfl⟩
  have M0 := Lib.hid (Below.refl y2.heap.size y2)
  go_wp2_with fail
  refine (marked_Texts (G0.out.1.below M0.out) (by rw [G0.out.2.1]; have := Hn0.out; omega) (fun i hi => by have := G0.out.2.2.1 i hi; omega) G0.out.2.2.2.1).mono ?_
  rintro e z1 ⟨rfl, hb⟩
  have M1 := Lib.hid (M0.out.trans (hb.mono M0.out.size))
  clear hb
  have cc := (M1.out.cell (p := ⟨bk, 0, none⟩) (World.block_lt_of_cell? _ _ B2.out.2.2.1)).trans B2.out.2.2.1
  go_wp2_with fail
  clear cc
  refine (marked_Texts (B2.out.2.2.2.below M1.out) (by rw [mset_len]; have := Hn0.out; omega) (fun i hi => by have := mset_lens (mk := mkTexts) Hl0.out i hi; omega) (mset_all mkTexts S0)).mono ?_
  rintro e z2 ⟨rfl, hb⟩
  have M2 := Lib.hid (M1.out.trans (hb.mono M1.out.size))
  clear hb
  go_wp2_with fail
  refine (marked_Ints _).mono ?_
  rintro e w' ⟨rfl, rfl⟩
  have cc := (M2.out.cell (p := ⟨bk, 2, none⟩) (World.block_lt_of_cell? _ _ (B2.out.1 2 (by decide) (by decide) (by decide)))).trans (B2.out.1 2 (by decide) (by decide) (by decide))
  go_wp2_with fail
  clear cc
  refine (marked_Ints _).mono ?_
  rintro e w' ⟨rfl, rfl⟩
  go_wp2_with fail
  refine (marked_Vecs _).mono ?_
  rintro e w' ⟨rfl, rfl⟩
  have cc := (M2.out.cell (p := ⟨bk, 4, none⟩) (World.block_lt_of_cell? _ _ (B2.out.1 4 (by decide) (by decide) (by decide)))).trans (B2.out.1 4 (by decide) (by decide) (by decide))
  go_wp2_with fail
  clear cc
  refine (marked_Vecs _).mono ?_
  rintro e w' ⟨rfl, rfl⟩
  go_wp2_with fail
  refine (marked_Keys _).mono ?_
  rintro e w' ⟨rfl, rfl⟩
  have cc := (M2.out.cell (p := ⟨bk, 6, none⟩) (World.block_lt_of_cell? _ _ (B2.out.1 6 (by decide) (by decide) (by decide)))).trans (B2.out.1 6 (by decide) (by decide) (by decide))
  go_wp2_with fail
  clear cc
  refine (marked_Keys _).mono ?_
  rintro e w' ⟨rfl, rfl⟩
  go_wp2_with fail
  refine (marked_Pairs _).mono ?_
  rintro e w' ⟨rfl, rfl⟩
  have cc := (M2.out.cell (p := ⟨bk, 8, none⟩) (World.block_lt_of_cell? _ _ (B2.out.1 8 (by decide) (by decide) (by decide)))).trans (B2.out.1 8 (by decide) (by decide) (by decide))
  go_wp2_with fail
  clear cc
  refine (marked_Pairs _).mono ?_
  rintro e w' ⟨rfl, rfl⟩
  go_wp2_with fail
  refine (marked_Versions _).mono ?_
  rintro e w' ⟨rfl, rfl⟩
  have cc := (M2.out.cell (p := ⟨bk, 10, none⟩) (World.block_lt_of_cell? _ _ (B2.out.1 10 (by decide) (by decide) (by decide)))).trans (B2.out.1 10 (by decide) (by decide) (by decide))
  go_wp2_with fail
  clear cc
  refine (marked_Versions _).mono ?_
  rintro e w' ⟨rfl, rfl⟩
  go_wp2_with fail
  refine (marked_Writes _).mono ?_
  rintro e w' ⟨rfl, rfl⟩
  have cc := (M2.out.cell (p := ⟨bk, 12, none⟩) (World.block_lt_of_cell? _ _ (B2.out.1 12 (by decide) (by decide) (by decide)))).trans (B2.out.1 12 (by decide) (by decide) (by decide))
  go_wp2_with fail
  clear cc
  refine (marked_Writes _).mono ?_
  rintro e w' ⟨rfl, rfl⟩
  go_wp2_with fail
  refine (marked_Txns _).mono ?_
  rintro e w' ⟨rfl, rfl⟩
  have cc := (M2.out.cell (p := ⟨bk, 14, none⟩) (World.block_lt_of_cell? _ _ (B2.out.1 14 (by decide) (by decide) (by decide)))).trans (B2.out.1 14 (by decide) (by decide) (by decide))
  go_wp2_with fail
  clear cc
  refine (marked_Txns _).mono ?_
  rintro e w' ⟨rfl, rfl⟩
  go_wp2_with fail
  refine (marked_Files _).mono ?_
  rintro e w' ⟨rfl, rfl⟩
  have cc := (M2.out.cell (p := ⟨bk, 16, none⟩) (World.block_lt_of_cell? _ _ (B2.out.1 16 (by decide) (by decide) (by decide)))).trans (B2.out.1 16 (by decide) (by decide) (by decide))
  go_wp2_with fail
  clear cc
  refine (marked_Files _).mono ?_
  rintro e w' ⟨rfl, rfl⟩
  go_wp2_with fail
  refine (marked_Notes _).mono ?_
  rintro e w' ⟨rfl, rfl⟩
  have cc := (M2.out.cell (p := ⟨bk, 18, none⟩) (World.block_lt_of_cell? _ _ (B2.out.1 18 (by decide) (by decide) (by decide)))).trans (B2.out.1 18 (by decide) (by decide) (by decide))
  go_wp2_with fail
  clear cc
  refine (marked_Notes _).mono ?_
  rintro e w' ⟨rfl, rfl⟩
  go_wp2_with fail
  refine (marked_Leases _).mono ?_
  rintro e w' ⟨rfl, rfl⟩
  have cc := (M2.out.cell (p := ⟨bk, 20, none⟩) (World.block_lt_of_cell? _ _ (B2.out.1 20 (by decide) (by decide) (by decide)))).trans (B2.out.1 20 (by decide) (by decide) (by decide))
  go_wp2_with fail
  clear cc
  refine (marked_Leases _).mono ?_
  rintro e w' ⟨rfl, rfl⟩
  go_wp2_with fail
  refine (marked_Letters _).mono ?_
  rintro e w' ⟨rfl, rfl⟩
  have cc := (M2.out.cell (p := ⟨bk, 22, none⟩) (World.block_lt_of_cell? _ _ (B2.out.1 22 (by decide) (by decide) (by decide)))).trans (B2.out.1 22 (by decide) (by decide) (by decide))
  go_wp2_with fail
  clear cc
  refine (marked_Letters _).mono ?_
  rintro e w' ⟨rfl, rfl⟩
  go_wp2_with fail
  refine (marked_Steps _).mono ?_
  rintro e w' ⟨rfl, rfl⟩
  have cc := (M2.out.cell (p := ⟨bk, 24, none⟩) (World.block_lt_of_cell? _ _ (B2.out.1 24 (by decide) (by decide) (by decide)))).trans (B2.out.1 24 (by decide) (by decide) (by decide))
  go_wp2_with fail
  clear cc
  refine (marked_Steps _).mono ?_
  rintro e w' ⟨rfl, rfl⟩
  go_wp2_with fail
  refine (marked_Reals _).mono ?_
  rintro e w' ⟨rfl, rfl⟩
  have cc := (M2.out.cell (p := ⟨bk, 26, none⟩) (World.block_lt_of_cell? _ _ (B2.out.1 26 (by decide) (by decide) (by decide)))).trans (B2.out.1 26 (by decide) (by decide) (by decide))
  go_wp2_with fail
  clear cc
  refine (marked_Reals _).mono ?_
  rintro e w' ⟨rfl, rfl⟩
  go_wp2_with fail
  refine (marked_Lists _).mono ?_
  rintro e w' ⟨rfl, rfl⟩
  have cc := (M2.out.cell (p := ⟨bk, 28, none⟩) (World.block_lt_of_cell? _ _ (B2.out.1 28 (by decide) (by decide) (by decide)))).trans (B2.out.1 28 (by decide) (by decide) (by decide))
  go_wp2_with fail
  clear cc
  refine (marked_Lists _).mono ?_
  rintro e w' ⟨rfl, rfl⟩
  go_wp2_with fail
  go_ret
  exact ⟨rfl, B2.out.2.1.trans (Tn.ofBelow M2.out)⟩
end Go.Proofs.YtceamkcaokdgaaaGreatDoor
