import Derived.Test.YtnegappgdpeabaaGreatLe1
import Derived.Test.YtnegappgdpeabaaGreatShelf
import Derived.Test.YtnegappgdpeabaaGreatLe11
import Derived.Test.YtnegappgdpeabaaGreatLe12
import Derived.Test.YtnegappgdpeabaaGreatLe13
set_option linter.unusedSimpArgs false
set_option linter.unusedVariables false
/-
  Book: of the kinds of which nothing was kept.
-/
namespace Go.Proofs.YtnegappgdpeabaaGreat
open Go.RowKit


theorem still_Texts {w : World} {bk : Nat} (h : w.cell? ⟨bk, 0, none⟩ = some (.slice none 0 0)) : Calls Tryz.prog 50 #[.pointer (some ⟨bk, 0, none⟩)] w fun e w' => e = .returned (.bool true) ∧ w = w' := by
  go_enter Tryz.func50, Tryz.ntmps50
  go_wp2
  go_loop [3] (fun y => y = .int .i64 0) (fun _ => 0)
  case atStart => rfl
  case round =>
    subst hrel
    go_wp2
    go_ret
    exact ⟨rfl, rfl⟩
theorem put_Texts {w : World} {bk : Nat} (h : w.cell? ⟨bk, 0, none⟩ = some (.slice none 0 0)) : Calls Tryz.prog 70 #[.pointer (some ⟨bk, 0, none⟩)] w fun e w' => e = .returned (.tuple #[]) ∧ w = w' := by
  go_enter Tryz.func70, Tryz.ntmps70
  go_wp2
  go_loop [2] (fun y => y = .int .i64 0) (fun _ => 0)
  case atStart => rfl
  case round =>
    subst hrel
    go_wp2
    go_end0
    exact ⟨rfl, rfl⟩
theorem grow_Texts {w : World} {bk : Nat} (h : w.cell? ⟨bk, 0, none⟩ = some (.slice none 0 0)) : Calls Tryz.prog 80 #[.pointer (some ⟨bk, 0, none⟩)] w fun e w' => e = .returned (.slice none 0 0) ∧ w = w' := by
  go_enter Tryz.func80, Tryz.ntmps80
  go_wp2
  go_loop [3, 4] (fun v y => v = .slice none 0 0 ∧ y = .int .i64 0) (fun _ _ => 0)
  case atStart => exact ⟨rfl, rfl⟩
  case round =>
    obtain ⟨rfl, rfl⟩ := hrel
    go_wp2
    go_ret
    exact ⟨rfl, rfl⟩
theorem marked_Texts (w : World) : Calls Tryz.prog 95 #[.slice none 0 0] w fun e w' => e = .returned (.bool true) ∧ w = w' := by
  go_enter Tryz.func95, Tryz.ntmps95
  go_wp2
  go_loop [3] (fun y => y = .int .i64 0) (fun _ => 0)
  case atStart => rfl
  case round =>
    subst hrel
    go_wp2
    go_ret
    exact ⟨rfl, rfl⟩

theorem still_Keys {w : World} {bk : Nat} (h : w.cell? ⟨bk, 6, none⟩ = some (.slice none 0 0)) : Calls Tryz.prog 53 #[.pointer (some ⟨bk, 0, none⟩)] w fun e w' => e = .returned (.bool true) ∧ w = w' := by
  go_enter Tryz.func53, Tryz.ntmps53
  go_wp2
  go_loop [3] (fun y => y = .int .i64 0) (fun _ => 0)
  case atStart => rfl
  case round =>
    subst hrel
    go_wp2
    go_ret
    exact ⟨rfl, rfl⟩
theorem put_Keys {w : World} {bk : Nat} (h : w.cell? ⟨bk, 6, none⟩ = some (.slice none 0 0)) : Calls Tryz.prog 73 #[.pointer (some ⟨bk, 0, none⟩)] w fun e w' => e = .returned (.tuple #[]) ∧ w = w' := by
  go_enter Tryz.func73, Tryz.ntmps73
  go_wp2
  go_loop [2] (fun y => y = .int .i64 0) (fun _ => 0)
  case atStart => rfl
  case round =>
    subst hrel
    go_wp2
    go_end0
    exact ⟨rfl, rfl⟩
theorem grow_Keys {w : World} {bk : Nat} (h : w.cell? ⟨bk, 6, none⟩ = some (.slice none 0 0)) : Calls Tryz.prog 83 #[.pointer (some ⟨bk, 0, none⟩)] w fun e w' => e = .returned (.slice none 0 0) ∧ w = w' := by
  go_enter Tryz.func83, Tryz.ntmps83
  go_wp2
  go_loop [3, 4] (fun v y => v = .slice none 0 0 ∧ y = .int .i64 0) (fun _ _ => 0)
  case atStart => exact ⟨rfl, rfl⟩
  case round =>
    obtain ⟨rfl, rfl⟩ := hrel
    go_wp2
    go_ret
    exact ⟨rfl, rfl⟩
theorem marked_Keys (w : World) : Calls Tryz.prog 98 #[.slice none 0 0] w fun e w' => e = .returned (.bool true) ∧ w = w' := by
  go_enter Tryz.func98, Tryz.ntmps98
  go_wp2
  go_loop [3] (fun y => y = .int .i64 0) (fun _ => 0)
  case atStart => rfl
  case round =>
    subst hrel
    go_wp2
    go_ret
    exact ⟨rfl, rfl⟩

theorem still_Pairs {w : World} {bk : Nat} (h : w.cell? ⟨bk, 8, none⟩ = some (.slice none 0 0)) : Calls Tryz.prog 54 #[.pointer (some ⟨bk, 0, none⟩)] w fun e w' => e = .returned (.bool true) ∧ w = w' := by
  go_enter Tryz.func54, Tryz.ntmps54
  go_wp2
  go_loop [3] (fun y => y = .int .i64 0) (fun _ => 0)
  case atStart => rfl
  case round =>
    subst hrel
    go_wp2
    go_ret
    exact ⟨rfl, rfl⟩
theorem put_Pairs {w : World} {bk : Nat} (h : w.cell? ⟨bk, 8, none⟩ = some (.slice none 0 0)) : Calls Tryz.prog 74 #[.pointer (some ⟨bk, 0, none⟩)] w fun e w' => e = .returned (.tuple #[]) ∧ w = w' := by
  go_enter Tryz.func74, Tryz.ntmps74
  go_wp2
  go_loop [2] (fun y => y = .int .i64 0) (fun _ => 0)
  case atStart => rfl
  case round =>
    subst hrel
    go_wp2
    go_end0
    exact ⟨rfl, rfl⟩
theorem grow_Pairs {w : World} {bk : Nat} (h : w.cell? ⟨bk, 8, none⟩ = some (.slice none 0 0)) : Calls Tryz.prog 84 #[.pointer (some ⟨bk, 0, none⟩)] w fun e w' => e = .returned (.slice none 0 0) ∧ w = w' := by
  go_enter Tryz.func84, Tryz.ntmps84
  go_wp2
  go_loop [3, 4] (fun v y => v = .slice none 0 0 ∧ y = .int .i64 0) (fun _ _ => 0)
  case atStart => exact ⟨rfl, rfl⟩
  case round =>
    obtain ⟨rfl, rfl⟩ := hrel
    go_wp2
    go_ret
    exact ⟨rfl, rfl⟩
theorem marked_Pairs (w : World) : Calls Tryz.prog 99 #[.slice none 0 0] w fun e w' => e = .returned (.bool true) ∧ w = w' := by
  go_enter Tryz.func99, Tryz.ntmps99
  go_wp2
  go_loop [3] (fun y => y = .int .i64 0) (fun _ => 0)
  case atStart => rfl
  case round =>
    subst hrel
    go_wp2
    go_ret
    exact ⟨rfl, rfl⟩

theorem still_Versions {w : World} {bk : Nat} (h : w.cell? ⟨bk, 10, none⟩ = some (.slice none 0 0)) : Calls Tryz.prog 55 #[.pointer (some ⟨bk, 0, none⟩)] w fun e w' => e = .returned (.bool true) ∧ w = w' := by
  go_enter Tryz.func55, Tryz.ntmps55
  go_wp2
  go_loop [3] (fun y => y = .int .i64 0) (fun _ => 0)
  case atStart => rfl
  case round =>
    subst hrel
    go_wp2
    go_ret
    exact ⟨rfl, rfl⟩
theorem put_Versions {w : World} {bk : Nat} (h : w.cell? ⟨bk, 10, none⟩ = some (.slice none 0 0)) : Calls Tryz.prog 65 #[.pointer (some ⟨bk, 0, none⟩)] w fun e w' => e = .returned (.tuple #[]) ∧ w = w' := by
  go_enter Tryz.func65, Tryz.ntmps65
  go_wp2
  go_loop [2] (fun y => y = .int .i64 0) (fun _ => 0)
  case atStart => rfl
  case round =>
    subst hrel
    go_wp2
    go_end0
    exact ⟨rfl, rfl⟩
theorem grow_Versions {w : World} {bk : Nat} (h : w.cell? ⟨bk, 10, none⟩ = some (.slice none 0 0)) : Calls Tryz.prog 85 #[.pointer (some ⟨bk, 0, none⟩)] w fun e w' => e = .returned (.slice none 0 0) ∧ w = w' := by
  go_enter Tryz.func85, Tryz.ntmps85
  go_wp2
  go_loop [3, 4] (fun v y => v = .slice none 0 0 ∧ y = .int .i64 0) (fun _ _ => 0)
  case atStart => exact ⟨rfl, rfl⟩
  case round =>
    obtain ⟨rfl, rfl⟩ := hrel
    go_wp2
    go_ret
    exact ⟨rfl, rfl⟩
theorem marked_Versions (w : World) : Calls Tryz.prog 100 #[.slice none 0 0] w fun e w' => e = .returned (.bool true) ∧ w = w' := by
  go_enter Tryz.func100, Tryz.ntmps100
  go_wp2
  go_loop [3] (fun y => y = .int .i64 0) (fun _ => 0)
  case atStart => rfl
  case round =>
    subst hrel
    go_wp2
    go_ret
    exact ⟨rfl, rfl⟩

theorem still_Writes {w : World} {bk : Nat} (h : w.cell? ⟨bk, 12, none⟩ = some (.slice none 0 0)) : Calls Tryz.prog 56 #[.pointer (some ⟨bk, 0, none⟩)] w fun e w' => e = .returned (.bool true) ∧ w = w' := by
  go_enter Tryz.func56, Tryz.ntmps56
  go_wp2
  go_loop [3] (fun y => y = .int .i64 0) (fun _ => 0)
  case atStart => rfl
  case round =>
    subst hrel
    go_wp2
    go_ret
    exact ⟨rfl, rfl⟩
theorem put_Writes {w : World} {bk : Nat} (h : w.cell? ⟨bk, 12, none⟩ = some (.slice none 0 0)) : Calls Tryz.prog 75 #[.pointer (some ⟨bk, 0, none⟩)] w fun e w' => e = .returned (.tuple #[]) ∧ w = w' := by
  go_enter Tryz.func75, Tryz.ntmps75
  go_wp2
  go_loop [2] (fun y => y = .int .i64 0) (fun _ => 0)
  case atStart => rfl
  case round =>
    subst hrel
    go_wp2
    go_end0
    exact ⟨rfl, rfl⟩
theorem grow_Writes {w : World} {bk : Nat} (h : w.cell? ⟨bk, 12, none⟩ = some (.slice none 0 0)) : Calls Tryz.prog 86 #[.pointer (some ⟨bk, 0, none⟩)] w fun e w' => e = .returned (.slice none 0 0) ∧ w = w' := by
  go_enter Tryz.func86, Tryz.ntmps86
  go_wp2
  go_loop [3, 4] (fun v y => v = .slice none 0 0 ∧ y = .int .i64 0) (fun _ _ => 0)
  case atStart => exact ⟨rfl, rfl⟩
  case round =>
    obtain ⟨rfl, rfl⟩ := hrel
    go_wp2
    go_ret
    exact ⟨rfl, rfl⟩
theorem marked_Writes (w : World) : Calls Tryz.prog 101 #[.slice none 0 0] w fun e w' => e = .returned (.bool true) ∧ w = w' := by
  go_enter Tryz.func101, Tryz.ntmps101
  go_wp2
  go_loop [3] (fun y => y = .int .i64 0) (fun _ => 0)
  case atStart => rfl
  case round =>
    subst hrel
    go_wp2
    go_ret
    exact ⟨rfl, rfl⟩

theorem still_Txns {w : World} {bk : Nat} (h : w.cell? ⟨bk, 14, none⟩ = some (.slice none 0 0)) : Calls Tryz.prog 57 #[.pointer (some ⟨bk, 0, none⟩)] w fun e w' => e = .returned (.bool true) ∧ w = w' := by
  go_enter Tryz.func57, Tryz.ntmps57
  go_wp2
  go_loop [3] (fun y => y = .int .i64 0) (fun _ => 0)
  case atStart => rfl
  case round =>
    subst hrel
    go_wp2
    go_ret
    exact ⟨rfl, rfl⟩
theorem put_Txns {w : World} {bk : Nat} (h : w.cell? ⟨bk, 14, none⟩ = some (.slice none 0 0)) : Calls Tryz.prog 66 #[.pointer (some ⟨bk, 0, none⟩)] w fun e w' => e = .returned (.tuple #[]) ∧ w = w' := by
  go_enter Tryz.func66, Tryz.ntmps66
  go_wp2
  go_loop [2] (fun y => y = .int .i64 0) (fun _ => 0)
  case atStart => rfl
  case round =>
    subst hrel
    go_wp2
    go_end0
    exact ⟨rfl, rfl⟩
theorem grow_Txns {w : World} {bk : Nat} (h : w.cell? ⟨bk, 14, none⟩ = some (.slice none 0 0)) : Calls Tryz.prog 87 #[.pointer (some ⟨bk, 0, none⟩)] w fun e w' => e = .returned (.slice none 0 0) ∧ w = w' := by
  go_enter Tryz.func87, Tryz.ntmps87
  go_wp2
  go_loop [3, 4] (fun v y => v = .slice none 0 0 ∧ y = .int .i64 0) (fun _ _ => 0)
  case atStart => exact ⟨rfl, rfl⟩
  case round =>
    obtain ⟨rfl, rfl⟩ := hrel
    go_wp2
    go_ret
    exact ⟨rfl, rfl⟩
theorem marked_Txns (w : World) : Calls Tryz.prog 102 #[.slice none 0 0] w fun e w' => e = .returned (.bool true) ∧ w = w' := by
  go_enter Tryz.func102, Tryz.ntmps102
  go_wp2
  go_loop [3] (fun y => y = .int .i64 0) (fun _ => 0)
  case atStart => rfl
  case round =>
    subst hrel
    go_wp2
    go_ret
    exact ⟨rfl, rfl⟩

theorem still_Files {w : World} {bk : Nat} (h : w.cell? ⟨bk, 16, none⟩ = some (.slice none 0 0)) : Calls Tryz.prog 58 #[.pointer (some ⟨bk, 0, none⟩)] w fun e w' => e = .returned (.bool true) ∧ w = w' := by
  go_enter Tryz.func58, Tryz.ntmps58
  go_wp2
  go_loop [3] (fun y => y = .int .i64 0) (fun _ => 0)
  case atStart => rfl
  case round =>
    subst hrel
    go_wp2
    go_ret
    exact ⟨rfl, rfl⟩
theorem put_Files {w : World} {bk : Nat} (h : w.cell? ⟨bk, 16, none⟩ = some (.slice none 0 0)) : Calls Tryz.prog 76 #[.pointer (some ⟨bk, 0, none⟩)] w fun e w' => e = .returned (.tuple #[]) ∧ w = w' := by
  go_enter Tryz.func76, Tryz.ntmps76
  go_wp2
  go_loop [2] (fun y => y = .int .i64 0) (fun _ => 0)
  case atStart => rfl
  case round =>
    subst hrel
    go_wp2
    go_end0
    exact ⟨rfl, rfl⟩
theorem grow_Files {w : World} {bk : Nat} (h : w.cell? ⟨bk, 16, none⟩ = some (.slice none 0 0)) : Calls Tryz.prog 88 #[.pointer (some ⟨bk, 0, none⟩)] w fun e w' => e = .returned (.slice none 0 0) ∧ w = w' := by
  go_enter Tryz.func88, Tryz.ntmps88
  go_wp2
  go_loop [3, 4] (fun v y => v = .slice none 0 0 ∧ y = .int .i64 0) (fun _ _ => 0)
  case atStart => exact ⟨rfl, rfl⟩
  case round =>
    obtain ⟨rfl, rfl⟩ := hrel
    go_wp2
    go_ret
    exact ⟨rfl, rfl⟩
theorem marked_Files (w : World) : Calls Tryz.prog 103 #[.slice none 0 0] w fun e w' => e = .returned (.bool true) ∧ w = w' := by
  go_enter Tryz.func103, Tryz.ntmps103
  go_wp2
  go_loop [3] (fun y => y = .int .i64 0) (fun _ => 0)
  case atStart => rfl
  case round =>
    subst hrel
    go_wp2
    go_ret
    exact ⟨rfl, rfl⟩

theorem still_Notes {w : World} {bk : Nat} (h : w.cell? ⟨bk, 18, none⟩ = some (.slice none 0 0)) : Calls Tryz.prog 59 #[.pointer (some ⟨bk, 0, none⟩)] w fun e w' => e = .returned (.bool true) ∧ w = w' := by
  go_enter Tryz.func59, Tryz.ntmps59
  go_wp2
  go_loop [3] (fun y => y = .int .i64 0) (fun _ => 0)
  case atStart => rfl
  case round =>
    subst hrel
    go_wp2
    go_ret
    exact ⟨rfl, rfl⟩
theorem put_Notes {w : World} {bk : Nat} (h : w.cell? ⟨bk, 18, none⟩ = some (.slice none 0 0)) : Calls Tryz.prog 77 #[.pointer (some ⟨bk, 0, none⟩)] w fun e w' => e = .returned (.tuple #[]) ∧ w = w' := by
  go_enter Tryz.func77, Tryz.ntmps77
  go_wp2
  go_loop [2] (fun y => y = .int .i64 0) (fun _ => 0)
  case atStart => rfl
  case round =>
    subst hrel
    go_wp2
    go_end0
    exact ⟨rfl, rfl⟩
theorem grow_Notes {w : World} {bk : Nat} (h : w.cell? ⟨bk, 18, none⟩ = some (.slice none 0 0)) : Calls Tryz.prog 89 #[.pointer (some ⟨bk, 0, none⟩)] w fun e w' => e = .returned (.slice none 0 0) ∧ w = w' := by
  go_enter Tryz.func89, Tryz.ntmps89
  go_wp2
  go_loop [3, 4] (fun v y => v = .slice none 0 0 ∧ y = .int .i64 0) (fun _ _ => 0)
  case atStart => exact ⟨rfl, rfl⟩
  case round =>
    obtain ⟨rfl, rfl⟩ := hrel
    go_wp2
    go_ret
    exact ⟨rfl, rfl⟩
theorem marked_Notes (w : World) : Calls Tryz.prog 104 #[.slice none 0 0] w fun e w' => e = .returned (.bool true) ∧ w = w' := by
  go_enter Tryz.func104, Tryz.ntmps104
  go_wp2
  go_loop [3] (fun y => y = .int .i64 0) (fun _ => 0)
  case atStart => rfl
  case round =>
    subst hrel
    go_wp2
    go_ret
    exact ⟨rfl, rfl⟩

theorem still_Letters {w : World} {bk : Nat} (h : w.cell? ⟨bk, 22, none⟩ = some (.slice none 0 0)) : Calls Tryz.prog 61 #[.pointer (some ⟨bk, 0, none⟩)] w fun e w' => e = .returned (.bool true) ∧ w = w' := by
  go_enter Tryz.func61, Tryz.ntmps61
  go_wp2
  go_loop [3] (fun y => y = .int .i64 0) (fun _ => 0)
  case atStart => rfl
  case round =>
    subst hrel
    go_wp2
    go_ret
    exact ⟨rfl, rfl⟩
theorem put_Letters {w : World} {bk : Nat} (h : w.cell? ⟨bk, 22, none⟩ = some (.slice none 0 0)) : Calls Tryz.prog 78 #[.pointer (some ⟨bk, 0, none⟩)] w fun e w' => e = .returned (.tuple #[]) ∧ w = w' := by
  go_enter Tryz.func78, Tryz.ntmps78
  go_wp2
  go_loop [2] (fun y => y = .int .i64 0) (fun _ => 0)
  case atStart => rfl
  case round =>
    subst hrel
    go_wp2
    go_end0
    exact ⟨rfl, rfl⟩
theorem grow_Letters {w : World} {bk : Nat} (h : w.cell? ⟨bk, 22, none⟩ = some (.slice none 0 0)) : Calls Tryz.prog 91 #[.pointer (some ⟨bk, 0, none⟩)] w fun e w' => e = .returned (.slice none 0 0) ∧ w = w' := by
  go_enter Tryz.func91, Tryz.ntmps91
  go_wp2
  go_loop [3, 4] (fun v y => v = .slice none 0 0 ∧ y = .int .i64 0) (fun _ _ => 0)
  case atStart => exact ⟨rfl, rfl⟩
  case round =>
    obtain ⟨rfl, rfl⟩ := hrel
    go_wp2
    go_ret
    exact ⟨rfl, rfl⟩
theorem marked_Letters (w : World) : Calls Tryz.prog 106 #[.slice none 0 0] w fun e w' => e = .returned (.bool true) ∧ w = w' := by
  go_enter Tryz.func106, Tryz.ntmps106
  go_wp2
  go_loop [3] (fun y => y = .int .i64 0) (fun _ => 0)
  case atStart => rfl
  case round =>
    subst hrel
    go_wp2
    go_ret
    exact ⟨rfl, rfl⟩

theorem still_Steps {w : World} {bk : Nat} (h : w.cell? ⟨bk, 24, none⟩ = some (.slice none 0 0)) : Calls Tryz.prog 62 #[.pointer (some ⟨bk, 0, none⟩)] w fun e w' => e = .returned (.bool true) ∧ w = w' := by
  go_enter Tryz.func62, Tryz.ntmps62
  go_wp2
  go_loop [3] (fun y => y = .int .i64 0) (fun _ => 0)
  case atStart => rfl
  case round =>
    subst hrel
    go_wp2
    go_ret
    exact ⟨rfl, rfl⟩
theorem put_Steps {w : World} {bk : Nat} (h : w.cell? ⟨bk, 24, none⟩ = some (.slice none 0 0)) : Calls Tryz.prog 68 #[.pointer (some ⟨bk, 0, none⟩)] w fun e w' => e = .returned (.tuple #[]) ∧ w = w' := by
  go_enter Tryz.func68, Tryz.ntmps68
  go_wp2
  go_loop [2] (fun y => y = .int .i64 0) (fun _ => 0)
  case atStart => rfl
  case round =>
    subst hrel
    go_wp2
    go_end0
    exact ⟨rfl, rfl⟩
theorem grow_Steps {w : World} {bk : Nat} (h : w.cell? ⟨bk, 24, none⟩ = some (.slice none 0 0)) : Calls Tryz.prog 92 #[.pointer (some ⟨bk, 0, none⟩)] w fun e w' => e = .returned (.slice none 0 0) ∧ w = w' := by
  go_enter Tryz.func92, Tryz.ntmps92
  go_wp2
  go_loop [3, 4] (fun v y => v = .slice none 0 0 ∧ y = .int .i64 0) (fun _ _ => 0)
  case atStart => exact ⟨rfl, rfl⟩
  case round =>
    obtain ⟨rfl, rfl⟩ := hrel
    go_wp2
    go_ret
    exact ⟨rfl, rfl⟩
theorem marked_Steps (w : World) : Calls Tryz.prog 107 #[.slice none 0 0] w fun e w' => e = .returned (.bool true) ∧ w = w' := by
  go_enter Tryz.func107, Tryz.ntmps107
  go_wp2
  go_loop [3] (fun y => y = .int .i64 0) (fun _ => 0)
  case atStart => rfl
  case round =>
    subst hrel
    go_wp2
    go_ret
    exact ⟨rfl, rfl⟩

theorem still_Reals {w : World} {bk : Nat} (h : w.cell? ⟨bk, 26, none⟩ = some (.slice none 0 0)) : Calls Tryz.prog 63 #[.pointer (some ⟨bk, 0, none⟩)] w fun e w' => e = .returned (.bool true) ∧ w = w' := by
  go_enter Tryz.func63, Tryz.ntmps63
  go_wp2
  go_loop [3] (fun y => y = .int .i64 0) (fun _ => 0)
  case atStart => rfl
  case round =>
    subst hrel
    go_wp2
    go_ret
    exact ⟨rfl, rfl⟩
theorem put_Reals {w : World} {bk : Nat} (h : w.cell? ⟨bk, 26, none⟩ = some (.slice none 0 0)) : Calls Tryz.prog 79 #[.pointer (some ⟨bk, 0, none⟩)] w fun e w' => e = .returned (.tuple #[]) ∧ w = w' := by
  go_enter Tryz.func79, Tryz.ntmps79
  go_wp2
  go_loop [2] (fun y => y = .int .i64 0) (fun _ => 0)
  case atStart => rfl
  case round =>
    subst hrel
    go_wp2
    go_end0
    exact ⟨rfl, rfl⟩
theorem grow_Reals {w : World} {bk : Nat} (h : w.cell? ⟨bk, 26, none⟩ = some (.slice none 0 0)) : Calls Tryz.prog 93 #[.pointer (some ⟨bk, 0, none⟩)] w fun e w' => e = .returned (.slice none 0 0) ∧ w = w' := by
  go_enter Tryz.func93, Tryz.ntmps93
  go_wp2
  go_loop [3, 4] (fun v y => v = .slice none 0 0 ∧ y = .int .i64 0) (fun _ _ => 0)
  case atStart => exact ⟨rfl, rfl⟩
  case round =>
    obtain ⟨rfl, rfl⟩ := hrel
    go_wp2
    go_ret
    exact ⟨rfl, rfl⟩
theorem marked_Reals (w : World) : Calls Tryz.prog 108 #[.slice none 0 0] w fun e w' => e = .returned (.bool true) ∧ w = w' := by
  go_enter Tryz.func108, Tryz.ntmps108
  go_wp2
  go_loop [3] (fun y => y = .int .i64 0) (fun _ => 0)
  case atStart => rfl
  case round =>
    subst hrel
    go_wp2
    go_ret
    exact ⟨rfl, rfl⟩

theorem still_Lists {w : World} {bk : Nat} (h : w.cell? ⟨bk, 28, none⟩ = some (.slice none 0 0)) : Calls Tryz.prog 64 #[.pointer (some ⟨bk, 0, none⟩)] w fun e w' => e = .returned (.bool true) ∧ w = w' := by
  go_enter Tryz.func64, Tryz.ntmps64
  go_wp2
  go_loop [3] (fun y => y = .int .i64 0) (fun _ => 0)
  case atStart => rfl
  case round =>
    subst hrel
    go_wp2
    go_ret
    exact ⟨rfl, rfl⟩
theorem put_Lists {w : World} {bk : Nat} (h : w.cell? ⟨bk, 28, none⟩ = some (.slice none 0 0)) : Calls Tryz.prog 69 #[.pointer (some ⟨bk, 0, none⟩)] w fun e w' => e = .returned (.tuple #[]) ∧ w = w' := by
  go_enter Tryz.func69, Tryz.ntmps69
  go_wp2
  go_loop [2] (fun y => y = .int .i64 0) (fun _ => 0)
  case atStart => rfl
  case round =>
    subst hrel
    go_wp2
    go_end0
    exact ⟨rfl, rfl⟩
theorem grow_Lists {w : World} {bk : Nat} (h : w.cell? ⟨bk, 28, none⟩ = some (.slice none 0 0)) : Calls Tryz.prog 94 #[.pointer (some ⟨bk, 0, none⟩)] w fun e w' => e = .returned (.slice none 0 0) ∧ w = w' := by
  go_enter Tryz.func94, Tryz.ntmps94
  go_wp2
  go_loop [3, 4] (fun v y => v = .slice none 0 0 ∧ y = .int .i64 0) (fun _ _ => 0)
  case atStart => exact ⟨rfl, rfl⟩
  case round =>
    obtain ⟨rfl, rfl⟩ := hrel
    go_wp2
    go_ret
    exact ⟨rfl, rfl⟩
theorem marked_Lists (w : World) : Calls Tryz.prog 109 #[.slice none 0 0] w fun e w' => e = .returned (.bool true) ∧ w = w' := by
  go_enter Tryz.func109, Tryz.ntmps109
  go_wp2
  go_loop [3] (fun y => y = .int .i64 0) (fun _ => 0)
  case atStart => rfl
  case round =>
    subst hrel
    go_wp2
    go_ret
    exact ⟨rfl, rfl⟩
end Go.Proofs.YtnegappgdpeabaaGreat
/-
  Book: Apart, where lists of these kinds were kept: Ints Vecs Leases.
-/
namespace Go.Proofs.YtnegappgdpeabaaGreat
open Go.RowKit

/-- Of the other kinds nothing was kept. -/
def ApN (bk : Nat) (w : World) : Prop := ∀ o, o < 30 → o ≠ 2 → o ≠ 3 → o ≠ 4 → o ≠ 5 → o ≠ 20 → o ≠ 21 → w.cell? ⟨bk, o, none⟩ = some (.slice none 0 0)
theorem mset_foot {α : Type} {mk : Nat → Nat → α} {vo : Value} {S : List (Sl × List α)} {n q : Nat} (h : footL vo (mset mk n S) q) : footL vo S q := footL_congr (mset_fst mk n S) q h
theorem grow_foot {P : Program} {T E TS : TypeId} {k by_ : Nat} {α : Type} {cell : α → List Value} {e : Elm P T E k by_ cell} {eS : Elm P TS T 1 24 sCell} {mk : Nat → Nat → α} {w0 wr : World} {B : Nat} {vo outv : Value} {S Sg : List (Sl × List α)} {i q : Nat} (h : Grow e eS mk w0 wr B vo S outv Sg i) (hq : footL outv Sg q) : footL vo S q ∨ w0.heap.size ≤ q := by
  rcases hq with hq | ⟨j, hj, hq⟩
  · exact .inr (h.freshO q hq)
  · exact (h.freshE j hj q hq).imp (fun ⟨hj', h2⟩ => .inr ⟨j, hj', h2⟩) id
theorem mset_lens {α : Type} {mk : Nat → Nat → α} {S : List (Sl × List α)} {M : Nat} (h : ∀ i (hi : i < S.length), S[i].2.length ≤ M) : ∀ i (hi : i < (mset mk S.length S).length), (mset mk S.length S)[i].2.length ≤ M := by
  intro i hi
  have hi' : i < S.length := by rwa [mset_len] at hi
  rw [mset_get mk S.length i S hi hi', if_pos hi', marks_len]
  exact h i hi'
theorem grow_lens {P : Program} {T E TS : TypeId} {k by_ : Nat} {α : Type} {cell : α → List Value} {e : Elm P T E k by_ cell} {eS : Elm P TS T 1 24 sCell} {mk : Nat → Nat → α} {w0 wr : World} {B : Nat} {vo outv : Value} {S Sg : List (Sl × List α)} {M : Nat} (g : Grow e eS mk w0 wr B vo S outv Sg S.length) (h : ∀ i (hi : i < S.length), S[i].2.length ≤ M) : ∀ i (hi : i < Sg.length), Sg[i].2.length ≤ M + 72 := by
  intro i hi
  have hi' : i < S.length := g.len ▸ hi
  rw [g.mkd i hi hi', marks_len]
  have := h i hi'
  omega

theorem tn_drewN {F : Nat → Prop} (w : World) (n : Nat) : Tn F w (w.drewN n) := .ofBelow (drewN_below w n)
theorem rdI_tn {w w' : World} {x : Value} {l : List Int} (h : RdI w x l) (ht : Tn (fun _ => False) w w') : RdI w' x l := by
  obtain ⟨a, c, hx, h⟩ := h
  refine ⟨a, c, hx, h.imp id ?_⟩
  rintro ⟨b, off, ha, hlt, hc⟩
  exact ⟨b, off, ha, Nat.lt_of_lt_of_le hlt ht.size, fun i hi => ht.cell (hc i hi) (fun e => e)⟩

set_option maxRecDepth 100000 in
set_option maxHeartbeats 8000000 in
theorem apart_any {w : World} {bk B : Nat} {v0 u0 : Value} {S0 T0 : List (Sl × List Int)} {v1 u1 : Value} {S1 T1 : List (Sl × List Int)} {v2 u2 : Value} {S2 T2 : List (Sl × List Lv)} (hB : B ≤ w.heap.size) (hbk : bk < B) (hn : ApN bk w) (k0 : Kd kInts kIntsS w bk 2 B v0 u0 S0 T0) (k1 : Kd kVecs kVecsS w bk 4 B v1 u1 S1 T1) (k2 : KdL kLeases kLeasesS w bk 20 B v2 u2 S2 T2) (r2 : ∀ i (hi : i < S2.length), ∀ x ∈ S2[i].2, RdI w x.sl x.vs ∧ x.vs.length ≤ 1000000) (t2 : ∀ i (hi : i < T2.length), ∀ x ∈ T2[i].2, RdI w x.sl x.vs) (d01 : ∀ q, footL v0 S0 q → ¬ footL v1 S1 q) (d02 : ∀ q, footL v0 S0 q → ¬ footL v2 S2 q) (d12 : ∀ q, footL v1 S1 q → ¬ footL v2 S2 q) (n0 : S0.length ≤ 250) (l0 : ∀ i (hi : i < S0.length), S0[i].2.length ≤ 50000) (n1 : S1.length ≤ 250) (l1 : ∀ i (hi : i < S1.length), S1[i].2.length ≤ 50000) (n2 : S2.length ≤ 250) (l2 : ∀ i (hi : i < S2.length), S2[i].2.length ≤ 50000) :
    Calls Tryz.prog 24 #[.pointer (some ⟨bk, 0, none⟩)] w fun e w' => e = .returned (.bool true) ∧ Tn (fun q => footL v0 S0 q ∨ footL v1 S1 q ∨ footL v2 S2 q) w w' := by
  have Hd01 := Lib.hid d01
  have Hd02 := Lib.hid d02
  have Hd12 := Lib.hid d12
  have Hn0 := Lib.hid n0
  have Hl0 := Lib.hid l0
  have Hn1 := Lib.hid n1
  have Hl1 := Lib.hid l1
  have Hn2 := Lib.hid n2
  have Hl2 := Lib.hid l2
  have Hr2 := Lib.hid r2
  have Ht2 := Lib.hid t2
  have Hb0 := Lib.hid (show ¬ footL v0 S0 bk from fun hq => by have := (k0.l.lt hq).1; omega)
  have Hb1 := Lib.hid (show ¬ footL v1 S1 bk from fun hq => by have := (k1.l.lt hq).1; omega)
  have Hb2 := Lib.hid (show ¬ footL v2 S2 bk from fun hq => by have := (k2.l.lt hq).1; omega)
  have HB := Lib.hid (And.intro hB hbk)
  have A0 := Lib.hid (And.intro hn (And.intro k0 (And.intro k1 k2)))
  clear hn hB hbk k0 k1 k2 d01 d02 d12 n0 l0 n1 l1 n2 l2 r2 t2
  go_enter Tryz.func24, Tryz.ntmps24
  go_wp2_with fail
  refine (still_Texts (A0.out.1 0 (by decide) (by decide) (by decide) (by decide) (by decide) (by decide) (by decide))).mono ?_
  rintro e w' ⟨rfl, rfl⟩
  go_wp2_with fail
  refine (still_Ints (A0.out.2.1) (by have := Hn0.out; omega) (fun i hi => by have := Hl0.out i hi; omega)).mono ?_
  rintro e x1 ⟨rfl, a1, hw⟩
  have tn : Tn (fun _ => False) w x1 := by rw [hw]; exact tn_drewN _ _
  have A1 := Lib.hid (And.intro (fun o h0 h1 h2 h3 h4 h5 h6 => tn.cell (A0.out.1 o h0 h1 h2 h3 h4 h5 h6) (fun e => e) : ApN bk x1) (And.intro ((A0.out.2.1).tn tn (fun e => e) (fun _ _ e => e)) (And.intro ((A0.out.2.2.1).tn tn (fun e => e) (fun _ _ e => e)) ((A0.out.2.2.2).tn tn (fun e => e) (fun _ _ e => e)))))
  have Z1 := Lib.hid (tn)
  clear hw tn
  go_wp2_with fail
  refine (still_Vecs (A1.out.2.2.1) (by have := Hn1.out; omega) (fun i hi => by have := Hl1.out i hi; omega)).mono ?_
  rintro e x2 ⟨rfl, a2, hw⟩
  have tn : Tn (fun _ => False) x1 x2 := by rw [hw]; exact tn_drewN _ _
  have A2 := Lib.hid (And.intro (fun o h0 h1 h2 h3 h4 h5 h6 => tn.cell (A1.out.1 o h0 h1 h2 h3 h4 h5 h6) (fun e => e) : ApN bk x2) (And.intro ((A1.out.2.1).tn tn (fun e => e) (fun _ _ e => e)) (And.intro ((A1.out.2.2.1).tn tn (fun e => e) (fun _ _ e => e)) ((A1.out.2.2.2).tn tn (fun e => e) (fun _ _ e => e)))))
  have Z2 := Lib.hid (Z1.out.trans tn)
  clear hw tn
  go_wp2_with fail
  refine (still_Keys (A2.out.1 6 (by decide) (by decide) (by decide) (by decide) (by decide) (by decide) (by decide))).mono ?_
  rintro e w' ⟨rfl, rfl⟩
  go_wp2_with fail
  refine (still_Pairs (A2.out.1 8 (by decide) (by decide) (by decide) (by decide) (by decide) (by decide) (by decide))).mono ?_
  rintro e w' ⟨rfl, rfl⟩
  go_wp2_with fail
  refine (still_Versions (A2.out.1 10 (by decide) (by decide) (by decide) (by decide) (by decide) (by decide) (by decide))).mono ?_
  rintro e w' ⟨rfl, rfl⟩
  go_wp2_with fail
  refine (still_Writes (A2.out.1 12 (by decide) (by decide) (by decide) (by decide) (by decide) (by decide) (by decide))).mono ?_
  rintro e w' ⟨rfl, rfl⟩
  go_wp2_with fail
  refine (still_Txns (A2.out.1 14 (by decide) (by decide) (by decide) (by decide) (by decide) (by decide) (by decide))).mono ?_
  rintro e w' ⟨rfl, rfl⟩
  go_wp2_with fail
  refine (still_Files (A2.out.1 16 (by decide) (by decide) (by decide) (by decide) (by decide) (by decide) (by decide))).mono ?_
  rintro e w' ⟨rfl, rfl⟩
  go_wp2_with fail
  refine (still_Notes (A2.out.1 18 (by decide) (by decide) (by decide) (by decide) (by decide) (by decide) (by decide))).mono ?_
  rintro e w' ⟨rfl, rfl⟩
  go_wp2_with fail
  refine (still_Leases (A2.out.2.2.2) (by have := Hn2.out; omega) (fun i hi => by have := Hl2.out i hi; omega) (fun i hi x hx => ⟨rdI_tn (Hr2.out i hi x hx).1 (Z2.out), (Hr2.out i hi x hx).2⟩) (fun i hi x hx => rdI_tn (Ht2.out i hi x hx) (Z2.out))).mono ?_
  rintro e x3 ⟨rfl, hw⟩
  have tn : Tn (fun _ => False) x2 x3 := Tn.ofBelow hw
  have A3 := Lib.hid (And.intro (fun o h0 h1 h2 h3 h4 h5 h6 => tn.cell (A2.out.1 o h0 h1 h2 h3 h4 h5 h6) (fun e => e) : ApN bk x3) (And.intro ((A2.out.2.1).tn tn (fun e => e) (fun _ _ e => e)) (And.intro ((A2.out.2.2.1).tn tn (fun e => e) (fun _ _ e => e)) ((A2.out.2.2.2).tn tn (fun e => e) (fun _ _ e => e)))))
  have Z3 := Lib.hid (Z2.out.trans tn)
  clear hw tn
  go_wp2_with fail
  refine (still_Letters (A3.out.1 22 (by decide) (by decide) (by decide) (by decide) (by decide) (by decide) (by decide))).mono ?_
  rintro e w' ⟨rfl, rfl⟩
  go_wp2_with fail
  refine (still_Steps (A3.out.1 24 (by decide) (by decide) (by decide) (by decide) (by decide) (by decide) (by decide))).mono ?_
  rintro e w' ⟨rfl, rfl⟩
  go_wp2_with fail
  refine (still_Reals (A3.out.1 26 (by decide) (by decide) (by decide) (by decide) (by decide) (by decide) (by decide))).mono ?_
  rintro e w' ⟨rfl, rfl⟩
  go_wp2_with fail
  refine (still_Lists (A3.out.1 28 (by decide) (by decide) (by decide) (by decide) (by decide) (by decide) (by decide))).mono ?_
  rintro e w' ⟨rfl, rfl⟩
  have hs0 := Z3.out.size
  have B0 := Lib.hid (And.intro A3.out.1 (And.intro (Z3.out.mono (fun _ e => e.elim) : Tn (fun q => footL v0 S0 q ∨ footL v1 S1 q ∨ footL v2 S2 q) w x3) (And.intro A3.out.2.1.c0 (And.intro A3.out.2.1.l (And.intro A3.out.2.2.1.c0 (And.intro A3.out.2.2.1.l (And.intro A3.out.2.2.2.c0 A3.out.2.2.2.l)))))))
  go_wp2_with fail
  refine (put_Versions (B0.out.1 10 (by decide) (by decide) (by decide) (by decide) (by decide) (by decide) (by decide))).mono ?_
  rintro e w' ⟨rfl, rfl⟩
  go_wp2_with fail
  refine (put_Txns (B0.out.1 14 (by decide) (by decide) (by decide) (by decide) (by decide) (by decide) (by decide))).mono ?_
  rintro e w' ⟨rfl, rfl⟩
  go_wp2_with fail
  refine (put_Leases B0.out.2.2.2.2.2.2.1 HB.out.2 B0.out.2.2.2.2.2.2.2 (by have := Hn2.out; omega) (fun i hi => by have := Hl2.out i hi; omega)).mono ?_
  rintro e y1 ⟨rfl, hl, ht⟩
  have B1 := Lib.hid (And.intro (fun o h0 h1 h2 h3 h4 h5 h6 => ht.cell (B0.out.1 o h0 h1 h2 h3 h4 h5 h6) Hb2.out : ApN bk y1) (And.intro (B0.out.2.1.trans (ht.mono (fun q hq => by simp [hq]))) (And.intro (ht.cell B0.out.2.2.1 Hb2.out) (And.intro (B0.out.2.2.2.1.tn ht (fun q hq h2 => (Hd02.out q hq) h2)) (And.intro (ht.cell B0.out.2.2.2.2.1 Hb2.out) (And.intro (B0.out.2.2.2.2.2.1.tn ht (fun q hq h2 => (Hd12.out q hq) h2)) (And.intro (ht.cell B0.out.2.2.2.2.2.2.1 Hb2.out) hl)))))))
  clear hl ht
  go_wp2_with fail
  refine (put_Steps (B1.out.1 24 (by decide) (by decide) (by decide) (by decide) (by decide) (by decide) (by decide))).mono ?_
  rintro e w' ⟨rfl, rfl⟩
  go_wp2_with fail
  refine (put_Lists (B1.out.1 28 (by decide) (by decide) (by decide) (by decide) (by decide) (by decide) (by decide))).mono ?_
  rintro e w' ⟨rfl, rfl⟩
  go_wp2_with fail
  refine (put_Texts (B1.out.1 0 (by decide) (by decide) (by decide) (by decide) (by decide) (by decide) (by decide))).mono ?_
  rintro e w' ⟨rfl, rfl⟩
  go_wp2_with fail
  refine (put_Ints B1.out.2.2.1 HB.out.2 B1.out.2.2.2.1 (by have := Hn0.out; omega) (fun i hi => by have := Hl0.out i hi; omega)).mono ?_
  rintro e y2 ⟨rfl, hl, ht⟩
  have B2 := Lib.hid (And.intro (fun o h0 h1 h2 h3 h4 h5 h6 => ht.cell (B1.out.1 o h0 h1 h2 h3 h4 h5 h6) Hb0.out : ApN bk y2) (And.intro (B1.out.2.1.trans (ht.mono (fun q hq => by simp [hq]))) (And.intro (ht.cell B1.out.2.2.1 Hb0.out) (And.intro hl (And.intro (ht.cell B1.out.2.2.2.2.1 Hb0.out) (And.intro (B1.out.2.2.2.2.2.1.tn ht (fun q hq h2 => (Hd01.out q h2) hq)) (And.intro (ht.cell B1.out.2.2.2.2.2.2.1 Hb0.out) (B1.out.2.2.2.2.2.2.2.tn ht (fun q hq h2 => (Hd02.out q h2) (mset_foot hq))))))))))
  clear hl ht
  go_wp2_with fail
  refine (put_Vecs B2.out.2.2.2.2.1 HB.out.2 B2.out.2.2.2.2.2.1 (by have := Hn1.out; omega) (fun i hi => by have := Hl1.out i hi; omega)).mono ?_
  rintro e y3 ⟨rfl, hl, ht⟩
  have B3 := Lib.hid (And.intro (fun o h0 h1 h2 h3 h4 h5 h6 => ht.cell (B2.out.1 o h0 h1 h2 h3 h4 h5 h6) Hb1.out : ApN bk y3) (And.intro (B2.out.2.1.trans (ht.mono (fun q hq => by simp [hq]))) (And.intro (ht.cell B2.out.2.2.1 Hb1.out) (And.intro (B2.out.2.2.2.1.tn ht (fun q hq h2 => (Hd01.out q (mset_foot hq)) h2)) (And.intro (ht.cell B2.out.2.2.2.2.1 Hb1.out) (And.intro hl (And.intro (ht.cell B2.out.2.2.2.2.2.2.1 Hb1.out) (B2.out.2.2.2.2.2.2.2.tn ht (fun q hq h2 => (Hd12.out q h2) (mset_foot hq))))))))))
  clear hl ht
  go_wp2_with fail
  refine (put_Keys (B3.out.1 6 (by decide) (by decide) (by decide) (by decide) (by decide) (by decide) (by decide))).mono ?_
  rintro e w' ⟨rfl, rfl⟩
  go_wp2_with fail
  refine (put_Pairs (B3.out.1 8 (by decide) (by decide) (by decide) (by decide) (by decide) (by decide) (by decide))).mono ?_
  rintro e w' ⟨rfl, rfl⟩
  go_wp2_with fail
  refine (put_Writes (B3.out.1 12 (by decide) (by decide) (by decide) (by decide) (by decide) (by decide) (by decide))).mono ?_
  rintro e w' ⟨rfl, rfl⟩
  go_wp2_with fail
  refine (put_Files (B3.out.1 16 (by decide) (by decide) (by decide) (by decide) (by decide) (by decide) (by decide))).mono ?_
  rintro e w' ⟨rfl, rfl⟩
  go_wp2_with fail
  refine (put_Notes (B3.out.1 18 (by decide) (by decide) (by decide) (by decide) (by decide) (by decide) (by decide))).mono ?_
  rintro e w' ⟨rfl, rfl⟩
  go_wp2_with fail
  refine (put_Letters (B3.out.1 22 (by decide) (by decide) (by decide) (by decide) (by decide) (by decide) (by decide))).mono ?_
  rintro e w' ⟨rfl, rfl⟩
  go_wp2_with fail
  refine (put_Reals (B3.out.1 26 (by decide) (by decide) (by decide) (by decide) (by decide) (by decide) (by decide))).mono ?_
  rintro e w' ⟨rfl, rfl⟩
  go_wp2_with fail
  refine (grow_Texts (B3.out.1 0 (by decide) (by decide) (by decide) (by decide) (by decide) (by decide) (by decide))).mono ?_
  rintro e w' ⟨rfl, rfl⟩
  go_wp2_with fail
  have hml : (mset mkInts S0.length S0).length = S0.length := mset_len _ _ _
  refine (grow_Ints B3.out.2.2.1 HB.out.2 B3.out.2.2.2.1 (by rw [hml]; have := Hn0.out; omega) (fun i hi => by have := mset_lens (mk := mkInts) Hl0.out i hi; omega) (mset_all mkInts S0) (Nat.le_trans HB.out.1 B3.out.2.1.size)).mono ?_
  rintro e y4 ⟨g0, Sg0, rfl, hg⟩
  have hg0 := hg
  rw [hml] at hg
  have ht : Tn (footL v0 S0) _ y4 := hg.tn.mono (fun q hq => mset_foot hq)
  have B4 := Lib.hid (And.intro (fun o h0 h1 h2 h3 h4 h5 h6 => ht.cell (B3.out.1 o h0 h1 h2 h3 h4 h5 h6) Hb0.out : ApN bk y4) (And.intro (B3.out.2.1.trans (ht.mono (fun q hq => by simp [hq]))) (And.intro (ht.cell B3.out.2.2.1 Hb0.out) (And.intro hg.l (And.intro (ht.cell B3.out.2.2.2.2.1 Hb0.out) (And.intro (B3.out.2.2.2.2.2.1.tn ht (fun q hq h2 => (Hd01.out q h2) (mset_foot hq))) (And.intro (ht.cell B3.out.2.2.2.2.2.2.1 Hb0.out) (B3.out.2.2.2.2.2.2.2.tn ht (fun q hq h2 => (Hd02.out q h2) (mset_foot hq))))))))))
  have hfar : ∀ q, footL g0 Sg0 q → ¬ (footL v1 S1 q ∨ footL v2 S2 q) := fun q hq h2 => by
    rcases grow_foot hg hq with h | h
    · rcases h2 with h2 | h2
      · exact (Hd01.out q (mset_foot h)) h2
      · exact (Hd02.out q (mset_foot h)) h2
    · rcases h2 with h2 | h2
      · have := (B3.out.2.2.2.2.2.1.lt (q := q) (footL_congr (mset_fst _ _ _).symm q h2)).2; omega
      · have := (B3.out.2.2.2.2.2.2.2.lt (q := q) (footL_congr (mset_fst _ _ _).symm q h2)).2; omega
  have G0 := Lib.hid (And.intro hg.g (And.intro (mset_len mkInts S0.length S0 ▸ hg.len : Sg0.length = S0.length) (And.intro (grow_lens hg0 (mset_lens (mk := mkInts) Hl0.out)) (And.intro (Grow.mkd_all hg0) hfar))))
  clear hg hg0 ht hfar hml
  go_wp2_with fail
  have hml : (mset mkVecs S1.length S1).length = S1.length := mset_len _ _ _
  refine (grow_Vecs B4.out.2.2.2.2.1 HB.out.2 B4.out.2.2.2.2.2.1 (by rw [hml]; have := Hn1.out; omega) (fun i hi => by have := mset_lens (mk := mkVecs) Hl1.out i hi; omega) (mset_all mkVecs S1) (Nat.le_trans HB.out.1 B4.out.2.1.size)).mono ?_
  rintro e y5 ⟨g1, Sg1, rfl, hg⟩
  have hg0 := hg
  rw [hml] at hg
  have ht : Tn (footL v1 S1) _ y5 := hg.tn.mono (fun q hq => mset_foot hq)
  have B5 := Lib.hid (And.intro (fun o h0 h1 h2 h3 h4 h5 h6 => ht.cell (B4.out.1 o h0 h1 h2 h3 h4 h5 h6) Hb1.out : ApN bk y5) (And.intro (B4.out.2.1.trans (ht.mono (fun q hq => by simp [hq]))) (And.intro (ht.cell B4.out.2.2.1 Hb1.out) (And.intro (B4.out.2.2.2.1.tn ht (fun q hq h2 => (Hd01.out q (mset_foot hq)) h2)) (And.intro (ht.cell B4.out.2.2.2.2.1 Hb1.out) (And.intro hg.l (And.intro (ht.cell B4.out.2.2.2.2.2.2.1 Hb1.out) (B4.out.2.2.2.2.2.2.2.tn ht (fun q hq h2 => (Hd12.out q h2) (mset_foot hq))))))))))
  have G0_5 := Lib.hid (And.intro (G0.out.1.tn ht (fun q hq h2 => G0.out.2.2.2.2 q hq (by first | exact .inl h2 | exact .inr h2 | exact h2))) G0.out.2)
  clear G0
  have G0 := G0_5
  clear G0_5
  have hfar : ∀ q, footL g1 Sg1 q → ¬ (footL v2 S2 q) := fun q hq h2 => by
    rcases grow_foot hg hq with h | h
    · exact (Hd12.out q (mset_foot h)) h2
    · have := (B4.out.2.2.2.2.2.2.2.lt (q := q) (footL_congr (mset_fst _ _ _).symm q h2)).2; omega
  have G1 := Lib.hid (And.intro hg.g (And.intro (mset_len mkVecs S1.length S1 ▸ hg.len : Sg1.length = S1.length) (And.intro (grow_lens hg0 (mset_lens (mk := mkVecs) Hl1.out)) (And.intro (Grow.mkd_all hg0) hfar))))
  clear hg hg0 ht hfar hml
  go_wp2_with fail
  refine (grow_Keys (B5.out.1 6 (by decide) (by decide) (by decide) (by decide) (by decide) (by decide) (by decide))).mono ?_
  rintro e w' ⟨rfl, rfl⟩
  go_wp2_with fail
  refine (grow_Pairs (B5.out.1 8 (by decide) (by decide) (by decide) (by decide) (by decide) (by decide) (by decide))).mono ?_
  rintro e w' ⟨rfl, rfl⟩
  go_wp2_with fail
  refine (grow_Versions (B5.out.1 10 (by decide) (by decide) (by decide) (by decide) (by decide) (by decide) (by decide))).mono ?_
  rintro e w' ⟨rfl, rfl⟩
  go_wp2_with fail
  refine (grow_Writes (B5.out.1 12 (by decide) (by decide) (by decide) (by decide) (by decide) (by decide) (by decide))).mono ?_
  rintro e w' ⟨rfl, rfl⟩
  go_wp2_with fail
  refine (grow_Txns (B5.out.1 14 (by decide) (by decide) (by decide) (by decide) (by decide) (by decide) (by decide))).mono ?_
  rintro e w' ⟨rfl, rfl⟩
  go_wp2_with fail
  refine (grow_Files (B5.out.1 16 (by decide) (by decide) (by decide) (by decide) (by decide) (by decide) (by decide))).mono ?_
  rintro e w' ⟨rfl, rfl⟩
  go_wp2_with fail
  refine (grow_Notes (B5.out.1 18 (by decide) (by decide) (by decide) (by decide) (by decide) (by decide) (by decide))).mono ?_
  rintro e w' ⟨rfl, rfl⟩
  go_wp2_with fail
  have hml : (mset mkLeases S2.length S2).length = S2.length := mset_len _ _ _
  refine (grow_Leases B5.out.2.2.2.2.2.2.1 HB.out.2 B5.out.2.2.2.2.2.2.2 (by rw [hml]; have := Hn2.out; omega) (fun i hi => by have := mset_lens (mk := mkLeases) Hl2.out i hi; omega) (mset_all mkLeases S2) (Nat.le_trans HB.out.1 B5.out.2.1.size)).mono ?_
  rintro e y6 ⟨g2, Sg2, rfl, hg⟩
  have hg0 := hg
  rw [hml] at hg
  have ht : Tn (footL v2 S2) _ y6 := hg.tn.mono (fun q hq => mset_foot hq)
  have B6 := Lib.hid (And.intro (fun o h0 h1 h2 h3 h4 h5 h6 => ht.cell (B5.out.1 o h0 h1 h2 h3 h4 h5 h6) Hb2.out : ApN bk y6) (And.intro (B5.out.2.1.trans (ht.mono (fun q hq => by simp [hq]))) (And.intro (ht.cell B5.out.2.2.1 Hb2.out) (And.intro (B5.out.2.2.2.1.tn ht (fun q hq h2 => (Hd02.out q (mset_foot hq)) h2)) (And.intro (ht.cell B5.out.2.2.2.2.1 Hb2.out) (And.intro (B5.out.2.2.2.2.2.1.tn ht (fun q hq h2 => (Hd12.out q (mset_foot hq)) h2)) (And.intro (ht.cell B5.out.2.2.2.2.2.2.1 Hb2.out) hg.l)))))))
  have G0_6 := Lib.hid (And.intro (G0.out.1.tn ht (fun q hq h2 => G0.out.2.2.2.2 q hq (by first | exact .inl h2 | exact .inr h2 | exact h2))) G0.out.2)
  clear G0
  have G0 := G0_6
  clear G0_6
  have G1_6 := Lib.hid (And.intro (G1.out.1.tn ht (fun q hq h2 => G1.out.2.2.2.2 q hq (by first | exact .inl h2 | exact .inr h2 | exact h2))) G1.out.2)
  clear G1
  have G1 := G1_6
  clear G1_6
  have hfar : ∀ q, footL g2 Sg2 q → ¬ (False) := fun q hq h2 => h2
  have G2 := Lib.hid (And.intro hg.g (And.intro (mset_len mkLeases S2.length S2 ▸ hg.len : Sg2.length = S2.length) (And.intro (grow_lens hg0 (mset_lens (mk := mkLeases) Hl2.out)) (And.intro (Grow.mkd_all hg0) hfar))))
  clear hg hg0 ht hfar hml
  go_wp2_with fail
  refine (grow_Letters (B6.out.1 22 (by decide) (by decide) (by decide) (by decide) (by decide) (by decide) (by decide))).mono ?_
  rintro e w' ⟨rfl, rfl⟩
  go_wp2_with fail
  refine (grow_Steps (B6.out.1 24 (by decide) (by decide) (by decide) (by decide) (by decide) (by decide) (by decide))).mono ?_
  rintro e w' ⟨rfl, rfl⟩
  go_wp2_with fail
  refine (grow_Reals (B6.out.1 26 (by decide) (by decide) (by decide) (by decide) (by decide) (by decide) (by decide))).mono ?_
  rintro e w' ⟨rfl, rfl⟩
  go_wp2_with fail
  refine (grow_Lists (B6.out.1 28 (by decide) (by decide) (by decide) (by decide) (by decide) (by decide) (by decide))).mono ?_
  rintro e w' ⟨rfl, rfl⟩
  have M0 := Lib.hid (Below.refl y6.heap.size y6)
  go_wp2_with fail
  refine (marked_Texts _).mono ?_
  rintro e w' ⟨rfl, rfl⟩
  have cc := (M0.out.cell (p := ⟨bk, 0, none⟩) (World.block_lt_of_cell? _ _ (B6.out.1 0 (by decide) (by decide) (by decide) (by decide) (by decide) (by decide) (by decide)))).trans (B6.out.1 0 (by decide) (by decide) (by decide) (by decide) (by decide) (by decide) (by decide))
  go_wp2_with fail
  clear cc
  refine (marked_Texts _).mono ?_
  rintro e w' ⟨rfl, rfl⟩
  go_wp2_with fail
  refine (marked_Ints (G0.out.1.below M0.out) (by rw [G0.out.2.1]; have := Hn0.out; omega) (fun i hi => by have := G0.out.2.2.1 i hi; omega) G0.out.2.2.2.1).mono ?_
  rintro e z1 ⟨rfl, hb⟩
  have M1 := Lib.hid (M0.out.trans (hb.mono M0.out.size))
  clear hb
  have cc := (M1.out.cell (p := ⟨bk, 2, none⟩) (World.block_lt_of_cell? _ _ B6.out.2.2.1)).trans B6.out.2.2.1
  go_wp2_with fail
  clear cc
  refine (marked_Ints (B6.out.2.2.2.1.below M1.out) (by rw [mset_len]; have := Hn0.out; omega) (fun i hi => by have := mset_lens (mk := mkInts) Hl0.out i hi; omega) (mset_all mkInts S0)).mono ?_
  rintro e z2 ⟨rfl, hb⟩
  have M2 := Lib.hid (M1.out.trans (hb.mono M1.out.size))
  clear hb
  go_wp2_with fail
  refine (marked_Vecs (G1.out.1.below M2.out) (by rw [G1.out.2.1]; have := Hn1.out; omega) (fun i hi => by have := G1.out.2.2.1 i hi; omega) G1.out.2.2.2.1).mono ?_
  rintro e z3 ⟨rfl, hb⟩
  have M3 := Lib.hid (M2.out.trans (hb.mono M2.out.size))
  clear hb
  have cc := (M3.out.cell (p := ⟨bk, 4, none⟩) (World.block_lt_of_cell? _ _ B6.out.2.2.2.2.1)).trans B6.out.2.2.2.2.1
  go_wp2_with fail
  clear cc
  refine (marked_Vecs (B6.out.2.2.2.2.2.1.below M3.out) (by rw [mset_len]; have := Hn1.out; omega) (fun i hi => by have := mset_lens (mk := mkVecs) Hl1.out i hi; omega) (mset_all mkVecs S1)).mono ?_
  rintro e z4 ⟨rfl, hb⟩
  have M4 := Lib.hid (M3.out.trans (hb.mono M3.out.size))
  clear hb
  go_wp2_with fail
  refine (marked_Keys _).mono ?_
  rintro e w' ⟨rfl, rfl⟩
  have cc := (M4.out.cell (p := ⟨bk, 6, none⟩) (World.block_lt_of_cell? _ _ (B6.out.1 6 (by decide) (by decide) (by decide) (by decide) (by decide) (by decide) (by decide)))).trans (B6.out.1 6 (by decide) (by decide) (by decide) (by decide) (by decide) (by decide) (by decide))
  go_wp2_with fail
  clear cc
  refine (marked_Keys _).mono ?_
  rintro e w' ⟨rfl, rfl⟩
  go_wp2_with fail
  refine (marked_Pairs _).mono ?_
  rintro e w' ⟨rfl, rfl⟩
  have cc := (M4.out.cell (p := ⟨bk, 8, none⟩) (World.block_lt_of_cell? _ _ (B6.out.1 8 (by decide) (by decide) (by decide) (by decide) (by decide) (by decide) (by decide)))).trans (B6.out.1 8 (by decide) (by decide) (by decide) (by decide) (by decide) (by decide) (by decide))
  go_wp2_with fail
  clear cc
  refine (marked_Pairs _).mono ?_
  rintro e w' ⟨rfl, rfl⟩
  go_wp2_with fail
  refine (marked_Versions _).mono ?_
  rintro e w' ⟨rfl, rfl⟩
  have cc := (M4.out.cell (p := ⟨bk, 10, none⟩) (World.block_lt_of_cell? _ _ (B6.out.1 10 (by decide) (by decide) (by decide) (by decide) (by decide) (by decide) (by decide)))).trans (B6.out.1 10 (by decide) (by decide) (by decide) (by decide) (by decide) (by decide) (by decide))
  go_wp2_with fail
  clear cc
  refine (marked_Versions _).mono ?_
  rintro e w' ⟨rfl, rfl⟩
  go_wp2_with fail
  refine (marked_Writes _).mono ?_
  rintro e w' ⟨rfl, rfl⟩
  have cc := (M4.out.cell (p := ⟨bk, 12, none⟩) (World.block_lt_of_cell? _ _ (B6.out.1 12 (by decide) (by decide) (by decide) (by decide) (by decide) (by decide) (by decide)))).trans (B6.out.1 12 (by decide) (by decide) (by decide) (by decide) (by decide) (by decide) (by decide))
  go_wp2_with fail
  clear cc
  refine (marked_Writes _).mono ?_
  rintro e w' ⟨rfl, rfl⟩
  go_wp2_with fail
  refine (marked_Txns _).mono ?_
  rintro e w' ⟨rfl, rfl⟩
  have cc := (M4.out.cell (p := ⟨bk, 14, none⟩) (World.block_lt_of_cell? _ _ (B6.out.1 14 (by decide) (by decide) (by decide) (by decide) (by decide) (by decide) (by decide)))).trans (B6.out.1 14 (by decide) (by decide) (by decide) (by decide) (by decide) (by decide) (by decide))
  go_wp2_with fail
  clear cc
  refine (marked_Txns _).mono ?_
  rintro e w' ⟨rfl, rfl⟩
  go_wp2_with fail
  refine (marked_Files _).mono ?_
  rintro e w' ⟨rfl, rfl⟩
  have cc := (M4.out.cell (p := ⟨bk, 16, none⟩) (World.block_lt_of_cell? _ _ (B6.out.1 16 (by decide) (by decide) (by decide) (by decide) (by decide) (by decide) (by decide)))).trans (B6.out.1 16 (by decide) (by decide) (by decide) (by decide) (by decide) (by decide) (by decide))
  go_wp2_with fail
  clear cc
  refine (marked_Files _).mono ?_
  rintro e w' ⟨rfl, rfl⟩
  go_wp2_with fail
  refine (marked_Notes _).mono ?_
  rintro e w' ⟨rfl, rfl⟩
  have cc := (M4.out.cell (p := ⟨bk, 18, none⟩) (World.block_lt_of_cell? _ _ (B6.out.1 18 (by decide) (by decide) (by decide) (by decide) (by decide) (by decide) (by decide)))).trans (B6.out.1 18 (by decide) (by decide) (by decide) (by decide) (by decide) (by decide) (by decide))
  go_wp2_with fail
  clear cc
  refine (marked_Notes _).mono ?_
  rintro e w' ⟨rfl, rfl⟩
  go_wp2_with fail
  refine (marked_Leases (G2.out.1.below M4.out) (by rw [G2.out.2.1]; have := Hn2.out; omega) (fun i hi => by have := G2.out.2.2.1 i hi; omega) G2.out.2.2.2.1).mono ?_
  rintro e z5 ⟨rfl, hb⟩
  have M5 := Lib.hid (M4.out.trans (hb.mono M4.out.size))
  clear hb
  have cc := (M5.out.cell (p := ⟨bk, 20, none⟩) (World.block_lt_of_cell? _ _ B6.out.2.2.2.2.2.2.1)).trans B6.out.2.2.2.2.2.2.1
  go_wp2_with fail
  clear cc
  refine (marked_Leases (B6.out.2.2.2.2.2.2.2.below M5.out) (by rw [mset_len]; have := Hn2.out; omega) (fun i hi => by have := mset_lens (mk := mkLeases) Hl2.out i hi; omega) (mset_all mkLeases S2)).mono ?_
  rintro e z6 ⟨rfl, hb⟩
  have M6 := Lib.hid (M5.out.trans (hb.mono M5.out.size))
  clear hb
  go_wp2_with fail
  refine (marked_Letters _).mono ?_
  rintro e w' ⟨rfl, rfl⟩
  have cc := (M6.out.cell (p := ⟨bk, 22, none⟩) (World.block_lt_of_cell? _ _ (B6.out.1 22 (by decide) (by decide) (by decide) (by decide) (by decide) (by decide) (by decide)))).trans (B6.out.1 22 (by decide) (by decide) (by decide) (by decide) (by decide) (by decide) (by decide))
  go_wp2_with fail
  clear cc
  refine (marked_Letters _).mono ?_
  rintro e w' ⟨rfl, rfl⟩
  go_wp2_with fail
  refine (marked_Steps _).mono ?_
  rintro e w' ⟨rfl, rfl⟩
  have cc := (M6.out.cell (p := ⟨bk, 24, none⟩) (World.block_lt_of_cell? _ _ (B6.out.1 24 (by decide) (by decide) (by decide) (by decide) (by decide) (by decide) (by decide)))).trans (B6.out.1 24 (by decide) (by decide) (by decide) (by decide) (by decide) (by decide) (by decide))
  go_wp2_with fail
  clear cc
  refine (marked_Steps _).mono ?_
  rintro e w' ⟨rfl, rfl⟩
  go_wp2_with fail
  refine (marked_Reals _).mono ?_
  rintro e w' ⟨rfl, rfl⟩
  have cc := (M6.out.cell (p := ⟨bk, 26, none⟩) (World.block_lt_of_cell? _ _ (B6.out.1 26 (by decide) (by decide) (by decide) (by decide) (by decide) (by decide) (by decide)))).trans (B6.out.1 26 (by decide) (by decide) (by decide) (by decide) (by decide) (by decide) (by decide))
  go_wp2_with fail
  clear cc
  refine (marked_Reals _).mono ?_
  rintro e w' ⟨rfl, rfl⟩
  go_wp2_with fail
  refine (marked_Lists _).mono ?_
  rintro e w' ⟨rfl, rfl⟩
  have cc := (M6.out.cell (p := ⟨bk, 28, none⟩) (World.block_lt_of_cell? _ _ (B6.out.1 28 (by decide) (by decide) (by decide) (by decide) (by decide) (by decide) (by decide)))).trans (B6.out.1 28 (by decide) (by decide) (by decide) (by decide) (by decide) (by decide) (by decide))
  go_wp2_with fail
  clear cc
  refine (marked_Lists _).mono ?_
  rintro e w' ⟨rfl, rfl⟩
  go_wp2_with fail
  go_ret
  exact ⟨rfl, B6.out.2.1.trans (Tn.ofBelow M6.out)⟩
end Go.Proofs.YtnegappgdpeabaaGreat
