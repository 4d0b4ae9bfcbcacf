
/-
  Merge: a key's head, by strings.Index and by the reference's own loop.
-/
import Derived.Test.YtkeggcfnoonakaaGreatMgJ
import Derived.Lib.IndexMore
import Derived.Lib.IndexLaws
set_option linter.unusedSimpArgs false
set_option linter.unusedVariables false
namespace Go.Proofs.YtkeggcfnoonakaaGreat
open Go.RowKit

def sub01 : List UInt8 := [0, 1]
def hdF (s : ByteArray) : ByteArray := if 0 ≤ Lib.index s.data.toList sub01 then s.extract 0 ((Lib.index s.data.toList sub01).toNat + 2) else s
/-- The variable MaxLen holds some number. -/
def MaxAt (w : World) : Prop := ∃ m : Int, w.cell? ⟨0, 0, none⟩ = some (.int .i64 m)
theorem MaxAt.below {w w' : World} (h : MaxAt w) (hb : Below w.heap.size w w') : MaxAt w' := by
  obtain ⟨m, hm⟩ := h
  exact ⟨m, (hb.cell (p := ⟨0, 0, none⟩) (World.block_lt_of_cell? _ _ hm)).trans hm⟩
set_option maxHeartbeats 1000000 in
theorem head_any (s : ByteArray) (w : World) (h : MaxAt w) (hs : s.size ≤ 100000000) : Calls Tryz.prog 24 #[.string s] w fun e w' => e = .returned (.string (hdF s)) ∧ w' = w := by
  obtain ⟨m, hm⟩ := h
  have hix := Tryz.strings_Index s ⟨#[0, 1]⟩ m w (by omega) hm
  have hl : (⟨#[0, 1]⟩ : ByteArray).data.toList = sub01 := rfl
  rw [hl] at hix
  rcases Lib.index_spec s.data.toList sub01 with ⟨h1, _⟩ | ⟨i, h1, h2, _, _⟩
  · have hF : hdF s = s := by unfold hdF; rw [if_neg (by omega)]
    rw [h1] at hix
    have HF := Lib.hid (And.intro hF hix)
    clear hF hix h1 hl
    go_enter Tryz.func24, Tryz.ntmps24
    go_wp2_with fail
    refine HF.out.2.mono ?_
    rintro e w' ⟨rfl, hw⟩
    obtain rfl := hw.symm
    go_wp2_with fail
    go_ret
    exact ⟨by rw [HF.out.1]; rfl, rfl⟩
  · have hr := Lib.index_room s.data.toList sub01 (by omega)
    have hlen : (sub01.length : Int) = 2 := rfl
    rw [h1, hlen] at hr
    have hsz : s.data.toList.length = s.size := (Lib.size_eq s).symm
    have hi2 : i + 2 ≤ s.size := by omega
    have hF : hdF s = s.extract 0 (i + 2) := by unfold hdF; rw [h1, if_pos (by omega)]; rfl
    rw [h1] at hix
    have HF := Lib.hid (And.intro hF hix)
    clear hF hix h1 hl hr hlen hsz h2
    have z1 : (0 : Int) ≤ (i : Int) := by omega
    have z2 : (i : Int) + 2 ≤ (s.size : Int) := by omega
    go_enter Tryz.func24, Tryz.ntmps24
    go_wp2_with fail
    refine HF.out.2.mono ?_
    rintro e w' ⟨rfl, hw⟩
    obtain rfl := hw.symm
    go_wp2_with fail
    go_ret
    exact ⟨by rw [HF.out.1]; rfl, rfl⟩
theorem occ_at {l : List UInt8} {i : Nat} (h : i + 1 < l.length) : Lib.occAt l sub01 i = decide (l[i] = 0 ∧ l[i + 1] = 1) := by
  unfold Lib.occAt sub01
  rw [List.drop_eq_getElem_cons (by omega), List.drop_eq_getElem_cons h]
  rw [Bool.eq_iff_iff]
  simp [List.isPrefixOf]
  constructor
  · rintro ⟨a, b⟩; exact ⟨a.symm, b.symm⟩
  · rintro ⟨a, b⟩; exact ⟨a.symm, b.symm⟩
theorem occ_end {l : List UInt8} {i : Nat} (h : l.length ≤ i + 1) : Lib.occAt l sub01 i = false := by
  unfold Lib.occAt sub01
  have h1 : (l.drop i).length ≤ 1 := by rw [List.length_drop]; omega
  match l.drop i, h1 with
  | [], _ => rfl
  | [x], _ => simp [List.isPrefixOf]
set_option maxHeartbeats 1000000 in
theorem refhead_any (s : ByteArray) (w : World) (hs : s.size ≤ 100000000) : Calls Tryz.prog 25 #[.string s] w fun e w' => e = .returned (.string (hdF s)) ∧ w' = w := by
  have hsz : s.data.toList.length = s.size := (Lib.size_eq s).symm
  have HSZ := Lib.hid hsz
  clear hsz
  go_enter Tryz.func25, Tryz.ntmps25
  go_wp2
  go_loop [3] (fun y => ∃ i : Nat, i ≤ s.size ∧ y = .int .i64 (i : Int) ∧ ∀ j, j < i → Lib.occAt s.data.toList sub01 j = false) (fun y => s.size - (intOf y).toNat)
  case atStart => exact ⟨0, by omega, rfl, fun j hj => by omega⟩
  case round =>
    obtain ⟨i, hi, rfl, hno⟩ := hrel
    have HNO := Lib.hid hno
    clear hno
    by_cases hlt : i + 1 < s.size
    · have z1 : (i : Int) + 1 < (s.size : Int) := by omega
      have hil : i + 1 < s.data.toList.length := by rw [HSZ.out]; exact hlt
      have hoc := occ_at hil
      have his : i < s.size := by omega
      have e0 : s.data.toList[i]'(by omega) = s[i] := by simp; rfl
      have e1 : s.data.toList[i + 1] = s[i + 1] := by simp; rfl
      rw [e0, e1] at hoc
      have hz0 : ∀ c : UInt8, c = 0 ↔ c.toNat = 0 := fun c => ⟨fun h => by rw [h]; rfl, fun h => UInt8.toNat_inj.1 h⟩
      have hz1 : ∀ c : UInt8, c = 1 ↔ c.toNat = 1 := fun c => ⟨fun h => by rw [h]; rfl, fun h => UInt8.toNat_inj.1 h⟩
      simp only [hz0, hz1] at hoc
      have HIL := Lib.hid (And.intro hil hoc)
      clear hoc e0 e1 hz0 hz1
      by_cases b0 : s[i].toNat = 0
      · have y0 : ((s[i].toNat : Int) == 0) = true := by simp [b0]
        by_cases b1 : s[i + 1].toNat = 1
        · have y1 : ((s[i + 1].toNat : Int) == 1) = true := by simp [b1]
          have hF : hdF s = s.extract 0 (i + 2) := by
            have h1 := Lib.index_hit (s := s.data.toList) (sub := sub01) (i := i) HNO.out (by have := HIL.out.1; omega) (by rw [HIL.out.2]; exact decide_eq_true ⟨b0, b1⟩)
            unfold hdF
            rw [h1, if_pos (by omega)]
            rfl
          have HF := Lib.hid hF
          clear hF b0 b1
          go_wp2_with fail
          go_ret
          exact ⟨by rw [HF.out]; rfl, rfl⟩
        · have y1 : ((s[i + 1].toNat : Int) == 1) = false := beq_eq_false_iff_ne.2 (by omega)
          have hoc : Lib.occAt s.data.toList sub01 i = false := by rw [HIL.out.2]; exact decide_eq_false (fun h => b1 h.2)
          have HOC := Lib.hid hoc
          clear hoc b0
          go_wp2_with fail
          go_round
          case rel => exact ⟨i + 1, by omega, by go_num, fun j hj => by
            by_cases hji : j < i
            · exact HNO.out j hji
            · obtain rfl : j = i := by omega
              exact HOC.out⟩
          case measure => simp [intOf]; omega
      · have y0 : ((s[i].toNat : Int) == 0) = false := beq_eq_false_iff_ne.2 (by omega)
        have hoc : Lib.occAt s.data.toList sub01 i = false := by rw [HIL.out.2]; exact decide_eq_false (fun h => b0 h.1)
        have HOC := Lib.hid hoc
        clear hoc
        go_wp2_with fail
        go_round
        case rel => exact ⟨i + 1, by omega, by go_num, fun j hj => by
          by_cases hji : j < i
          · exact HNO.out j hji
          · obtain rfl : j = i := by omega
            exact HOC.out⟩
        case measure => simp [intOf]; omega
    · have z1 : ¬ (i : Int) + 1 < (s.size : Int) := by omega
      have hF : hdF s = s := by
        unfold hdF
        rw [Lib.index_none (fun j hj => by
          by_cases hji : j < i
          · exact HNO.out j hji
          · exact occ_end (by rw [HSZ.out]; omega))]
        rfl
      have HF := Lib.hid hF
      clear hF
      go_wp2_with fail
      go_ret
      exact ⟨by rw [HF.out]; rfl, rfl⟩
end Go.Proofs.YtkeggcfnoonakaaGreat
