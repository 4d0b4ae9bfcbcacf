
/-
  ManifestNone: its walk.
-/
import Derived.Test.YtjebpppjhkkebaaGreatDoorM33
set_option linter.unusedSimpArgs false
set_option linter.unusedVariables false
namespace Go.Proofs.YtjebpppjhkkebaaGreatDoor
open Go.RowKit
variable {w w' w0 : World} {zb : Nat}

theorem mokc_false {c : UInt8} (h : okc c = false) : ¬ (97 ≤ c.toNat ∧ c.toNat ≤ 122) ∧ ¬ (48 ≤ c.toNat ∧ c.toNat ≤ 57) ∧ c.toNat ≠ 46 ∧ c.toNat ≠ 45 ∧ c.toNat ≠ 95 ∧ c.toNat ≠ 47 := by
  have hall : ∀ n, n < 256 → okc (UInt8.ofNat n) = false → ¬ (97 ≤ n ∧ n ≤ 122) ∧ ¬ (48 ≤ n ∧ n ≤ 57) ∧ n ≠ 46 ∧ n ≠ 45 ∧ n ≠ 95 ∧ n ≠ 47 := by decide +kernel
  exact hall c.toNat c.toNat_lt (by simpa using h)
theorem mokc_true {c : UInt8} (h : okc c = true) : (97 ≤ c.toNat ∧ c.toNat ≤ 122) ∨ (48 ≤ c.toNat ∧ c.toNat ≤ 57) ∨ c.toNat = 46 ∨ c.toNat = 45 ∨ c.toNat = 95 ∨ c.toNat = 47 := by
  have hall : ∀ n, n < 256 → okc (UInt8.ofNat n) = true → (97 ≤ n ∧ n ≤ 122) ∨ (48 ≤ n ∧ n ≤ 57) ∨ n = 46 ∨ n = 45 ∨ n = 95 ∨ n = 47 := by decide +kernel
  exact hall c.toNat c.toNat_lt (by simpa using h)
/-- What a law without a manifest holds. -/
structure Zw (w0 w : World) (zb : Nat) : Prop where
  b : Below w0.heap.size w0 w
  z : MNone w (.pointer (some ⟨zb, 0, none⟩))
theorem Zw.go (h : Zw w0 w zb) (hb : Below w.heap.size w w') : Zw w0 w' zb := ⟨h.b.trans (hb.mono h.b.size), h.z.below hb⟩
theorem mnil (w : World) : MNone w (.pointer none) := .inl rfl
theorem stV00 (w : World) : StV w (.agg #[.slice none 0 0, .int .i64 0, .int .i64 0, .slice none 0 0, .slice none 0 0]) s00 := ⟨_, _, _, rfl, RdA.nil w, RdA.nil w, RdA.nil w⟩
/-- All bytes ahead of i may stand in a name. -/
def okI (dir : ByteArray) (i : Nat) : Bool := (dir.data.toList.take i).all okc
theorem okI_succ {dir : ByteArray} {i : Nat} (hi : i < dir.size) : okI dir (i + 1) = (okI dir i && okc dir[i]) := by
  unfold okI
  have h : i < dir.data.toList.length := by simpa using hi
  rw [List.take_succ_eq_append_getElem h, List.all_append]
  simp
  rfl
theorem okI_full (dir : ByteArray) : okI dir dir.size = dir.data.toList.all okc := by
  unfold okI
  rw [List.take_of_length_le (by simp)]

set_option maxRecDepth 100000 in
set_option maxHeartbeats 8000000 in
theorem mnone_walk (dir : ByteArray) (hdz : dir.size ≤ maxLen) (w : World) : Calls Tryz.prog 3 #[.string dir] w fun e w' => e = .returned (.bool true) ∧ Below w.heap.size w w' := by
  unfold maxLen at hdz
  obtain ⟨w1, hw1⟩ : ∃ w1, w.alloc (.cells #[.pointer none, .string ⟨#[]⟩, .pointer none, .slice none 0 0, .int .i64 0, .int .i64 0, .slice none 0 0, .slice none 0 0, .int .i64 0, .bool false] 32) = w1 := ⟨_, rfl⟩
  have h1 : Zw w w1 w.heap.size := ⟨by rw [← hw1]; exact (Below.refl _ _).alloc (Nat.le_refl _) _, .inr ⟨_, rfl, by rw [← hw1]; simp [go_sem]⟩⟩
  have H1 := Lib.hid h1
  clear h1
  by_cases hgood : dir.size ≤ 30 ∧ nmB dir = true
  · obtain ⟨h30, hnm⟩ := hgood
    obtain ⟨hp1, hp2, hp3⟩ := nm_parts.1 hnm
    have HA := Lib.hid hp3
    have HNM := Lib.hid hnm
    have t0 : (1 : Int) ≤ (dir.size : Int) := by omega
    have t1 : (dir.size : Int) ≤ 30 := by omega
    clear hnm hp3
    go_enter Tryz.func3, Tryz.ntmps3
    go_wp2_with (first
      | (go_at_call 6; with_reducible refine (mopen_nil dir _).mono ?_; rintro r w2 ⟨rfl, rfl⟩)
      | (go_at_call 7; refine (c_newd (w0 := w1) (Below.refl _ _)).mono ?_; rintro r w3 ⟨rfl, h3, _⟩; have H3 := Lib.hid h3; clear h3)
      | (go_at_call 6; refine (mopen_new H3.out HNM.out h30).mono ?_; rintro r w4 ⟨F4, G4, lb, mp, mm, rfl, h4⟩; have H4 := Lib.hid (H1.out.go h4.ws.d.b); clear h4))

    go_loopw [9, 10, 11] (fun kv iv _ wr => ∃ i : Nat, i ≤ dir.size ∧ iv = .int .i64 (i : Int) ∧ kv = .bool (okI dir i) ∧ w4 = wr) (fun _ iv _ _ => dir.size - (intOf iv).toNat)
    case atStart => exact ⟨0, by omega, rfl, by first | rfl | exact congrArg Value.bool (decide_eq_false (by omega)), by first | rfl | trivial⟩
    case round =>
      obtain ⟨i, hi, rfl, rfl, rfl⟩ := hrel
      by_cases hlt : i < dir.size
      · have hsu := okI_succ hlt
        obtain ⟨c, hg⟩ : ∃ c, dir[i] = c := ⟨_, rfl⟩
        rw [hg] at hsu
        have HS := Lib.hid hsu
        clear hsu
        cases ho : okI dir i with
        | false =>
          go_wp2
          go_roundw
          case rel => exact ⟨i + 1, by omega, by go_num, by rw [HS.out, ho]; rfl, by first | rfl | trivial⟩
          case measure => simp [intOf]; omega
        | true =>
          cases hc : okc c with
          | true =>
            rcases mokc_true hc with ⟨q1, q2⟩ | ⟨q1, q2⟩ | q1 | q1 | q1 | q1
            · have t1 : (97 : Int) ≤ (c.toNat : Int) := by omega
              have t2 : (c.toNat : Int) ≤ 122 := by omega
              go_wp2
              go_roundw
              case rel => exact ⟨i + 1, by omega, by go_num, by rw [HS.out, ho, hc]; rfl, by first | rfl | trivial⟩
              case measure => simp [intOf]; omega
            · have t1 : ¬ (97 : Int) ≤ (c.toNat : Int) := by omega
              have t2 : (48 : Int) ≤ (c.toNat : Int) := by omega
              have t3 : (c.toNat : Int) ≤ 57 := by omega
              go_wp2
              go_roundw
              case rel => exact ⟨i + 1, by omega, by go_num, by rw [HS.out, ho, hc]; rfl, by first | rfl | trivial⟩
              case measure => simp [intOf]; omega
            · have t1 : (c.toNat : Int) = 46 := by omega
              go_wp2
              go_roundw
              case rel => exact ⟨i + 1, by omega, by go_num, by rw [HS.out, ho, hc]; rfl, by first | rfl | trivial⟩
              case measure => simp [intOf]; omega
            · have t1 : (c.toNat : Int) = 45 := by omega
              go_wp2
              go_roundw
              case rel => exact ⟨i + 1, by omega, by go_num, by rw [HS.out, ho, hc]; rfl, by first | rfl | trivial⟩
              case measure => simp [intOf]; omega
            · have t1 : (c.toNat : Int) = 95 := by omega
              go_wp2
              go_roundw
              case rel => exact ⟨i + 1, by omega, by go_num, by rw [HS.out, ho, hc]; rfl, by first | rfl | trivial⟩
              case measure => simp [intOf]; omega
            · have t1 : (c.toNat : Int) = 47 := by omega
              go_wp2
              go_roundw
              case rel => exact ⟨i + 1, by omega, by go_num, by rw [HS.out, ho, hc]; rfl, by first | rfl | trivial⟩
              case measure => simp [intOf]; omega
          | false =>
            obtain ⟨q1, q2, q3, q4, q5, q6⟩ := mokc_false hc
            have e46 : ((c.toNat : Int) == 46) = false := beq_eq_false_iff_ne.2 (by omega)
            have e45 : ((c.toNat : Int) == 45) = false := beq_eq_false_iff_ne.2 (by omega)
            have e95 : ((c.toNat : Int) == 95) = false := beq_eq_false_iff_ne.2 (by omega)
            have e47 : ((c.toNat : Int) == 47) = false := beq_eq_false_iff_ne.2 (by omega)
            rcases (by omega : 122 < c.toNat ∨ (57 < c.toNat ∧ c.toNat < 97) ∨ c.toNat < 48) with q | ⟨q, q'⟩ | q
            · have t1 : (97 : Int) ≤ (c.toNat : Int) := by omega
              have t2 : ¬ (c.toNat : Int) ≤ 122 := by omega
              have t3 : (48 : Int) ≤ (c.toNat : Int) := by omega
              have t4 : ¬ (c.toNat : Int) ≤ 57 := by omega
              go_wp2
              go_roundw
              case rel => exact ⟨i + 1, by omega, by go_num, by rw [HS.out, ho, hc]; rfl, by first | rfl | trivial⟩
              case measure => simp [intOf]; omega
            · have t1 : ¬ (97 : Int) ≤ (c.toNat : Int) := by omega
              have t3 : (48 : Int) ≤ (c.toNat : Int) := by omega
              have t4 : ¬ (c.toNat : Int) ≤ 57 := by omega
              go_wp2
              go_roundw
              case rel => exact ⟨i + 1, by omega, by go_num, by rw [HS.out, ho, hc]; rfl, by first | rfl | trivial⟩
              case measure => simp [intOf]; omega
            · have t1 : ¬ (97 : Int) ≤ (c.toNat : Int) := by omega
              have t3 : ¬ (48 : Int) ≤ (c.toNat : Int) := by omega
              go_wp2
              go_roundw
              case rel => exact ⟨i + 1, by omega, by go_num, by rw [HS.out, ho, hc]; rfl, by first | rfl | trivial⟩
              case measure => simp [intOf]; omega
      · have hix : i = dir.size := by omega
        have z9 : ¬ (i : Int) < (dir.size : Int) := by omega
        have hok : okI dir i = true := by rw [hix, okI_full, HA.out]
        rw [hok]
        go_wp2_with (first
          | (go_at_call 12; with_reducible refine (msame_any (s := s00) (stV00 _) (stV00 _) (by decide) (by decide) (by decide)).mono ?_; rintro r v14 ⟨rfl, hb14⟩; have H14 := Lib.hid (H13.out.go hb14); clear hb14)
          | (go_at_call 13; with_reducible refine (state_none H12.out.z).mono ?_; rintro r v13 ⟨rfl, hb13⟩; have H13 := Lib.hid (H12.out.go hb13); clear hb13)
          | (go_at_call 12; with_reducible refine (msame_any (s := s00) (stV00 _) (stV00 _) (by decide) (by decide) (by decide)).mono ?_; rintro r v12 ⟨rfl, hb12⟩; have H12 := Lib.hid (H11.out.go hb12); clear hb12)
          | (go_at_call 13; with_reducible refine (state_none (mnil _)).mono ?_; rintro r v11 ⟨rfl, hb11⟩; have H11 := Lib.hid (H10.out.go hb11); clear hb11)
          | (go_at_call 11; with_reducible refine (mstuck_no (mnil _)).mono ?_; rintro r v10 ⟨rfl, rfl⟩; have H10 := Lib.hid H9.out)
          | (go_at_call 10; with_reducible refine (swap_none H8.out.z).mono ?_; rintro r v9 ⟨rfl, hb9⟩; have H9 := Lib.hid (H8.out.go hb9); clear hb9)
          | (go_at_call 10; with_reducible refine (swap_none (mnil _)).mono ?_; rintro r v8 ⟨rfl, hb8⟩; have H8 := Lib.hid (H7.out.go hb8); clear hb8)
          | (go_at_call 9; with_reducible refine (commit_none H6.out.z).mono ?_; rintro r v7 ⟨rfl, hb7⟩; have H7 := Lib.hid (H6.out.go hb7); clear hb7)
          | (go_at_call 9; with_reducible refine (commit_none (mnil _)).mono ?_; rintro r v6 ⟨rfl, hb6⟩; have H6 := Lib.hid (H5.out.go hb6); clear hb6)
          | (go_at_call 8; refine (malive_any _).mono ?_; rintro r v5 ⟨rfl, hb5⟩; have H5 := Lib.hid (H4.out.go hb5); clear hb5))
        go_ret
        exact ⟨rfl, H14.out.b⟩
  · by_cases hb1 : 1 ≤ dir.size ∧ dir.size ≤ 30
    · have hall : dir.data.toList.all okc = false := by
        cases h : dir.data.toList.all okc with
        | false => rfl
        | true => exact absurd ⟨hb1.2, nm_parts.2 ⟨by omega, by omega, h⟩⟩ hgood
      have HA := Lib.hid hall
      have HG := Lib.hid hgood
      have t0 : (1 : Int) ≤ (dir.size : Int) := by omega
      have t1 : (dir.size : Int) ≤ 30 := by omega
      clear hall hgood
      go_enter Tryz.func3, Tryz.ntmps3
      go_wp2_with (first
        | (go_at_call 6; with_reducible refine (mopen_nil dir _).mono ?_; rintro r w2 ⟨rfl, rfl⟩)
        | (go_at_call 7; refine (c_newd (w0 := w1) (Below.refl _ _)).mono ?_; rintro r w3 ⟨rfl, _, h3⟩; have H3 := Lib.hid (H1.out.go h3); clear h3)
        | (go_at_call 6; refine (mopen_bad _ dir hdz HG.out _).mono ?_; rintro r w4 ⟨rfl, h4⟩; have H4 := Lib.hid (H3.out.go h4); clear h4))

      go_loopw [9, 10, 11] (fun kv iv _ wr => ∃ i : Nat, i ≤ dir.size ∧ iv = .int .i64 (i : Int) ∧ kv = .bool (okI dir i) ∧ w4 = wr) (fun _ iv _ _ => dir.size - (intOf iv).toNat)
      case atStart => exact ⟨0, by omega, rfl, by first | rfl | exact congrArg Value.bool (decide_eq_false (by omega)), by first | rfl | trivial⟩
      case round =>
        obtain ⟨i, hi, rfl, rfl, rfl⟩ := hrel
        by_cases hlt : i < dir.size
        · have hsu := okI_succ hlt
          obtain ⟨c, hg⟩ : ∃ c, dir[i] = c := ⟨_, rfl⟩
          rw [hg] at hsu
          have HS := Lib.hid hsu
          clear hsu
          cases ho : okI dir i with
          | false =>
            go_wp2
            go_roundw
            case rel => exact ⟨i + 1, by omega, by go_num, by rw [HS.out, ho]; rfl, by first | rfl | trivial⟩
            case measure => simp [intOf]; omega
          | true =>
            cases hc : okc c with
            | true =>
              rcases mokc_true hc with ⟨q1, q2⟩ | ⟨q1, q2⟩ | q1 | q1 | q1 | q1
              · have t1 : (97 : Int) ≤ (c.toNat : Int) := by omega
                have t2 : (c.toNat : Int) ≤ 122 := by omega
                go_wp2
                go_roundw
                case rel => exact ⟨i + 1, by omega, by go_num, by rw [HS.out, ho, hc]; rfl, by first | rfl | trivial⟩
                case measure => simp [intOf]; omega
              · have t1 : ¬ (97 : Int) ≤ (c.toNat : Int) := by omega
                have t2 : (48 : Int) ≤ (c.toNat : Int) := by omega
                have t3 : (c.toNat : Int) ≤ 57 := by omega
                go_wp2
                go_roundw
                case rel => exact ⟨i + 1, by omega, by go_num, by rw [HS.out, ho, hc]; rfl, by first | rfl | trivial⟩
                case measure => simp [intOf]; omega
              · have t1 : (c.toNat : Int) = 46 := by omega
                go_wp2
                go_roundw
                case rel => exact ⟨i + 1, by omega, by go_num, by rw [HS.out, ho, hc]; rfl, by first | rfl | trivial⟩
                case measure => simp [intOf]; omega
              · have t1 : (c.toNat : Int) = 45 := by omega
                go_wp2
                go_roundw
                case rel => exact ⟨i + 1, by omega, by go_num, by rw [HS.out, ho, hc]; rfl, by first | rfl | trivial⟩
                case measure => simp [intOf]; omega
              · have t1 : (c.toNat : Int) = 95 := by omega
                go_wp2
                go_roundw
                case rel => exact ⟨i + 1, by omega, by go_num, by rw [HS.out, ho, hc]; rfl, by first | rfl | trivial⟩
                case measure => simp [intOf]; omega
              · have t1 : (c.toNat : Int) = 47 := by omega
                go_wp2
                go_roundw
                case rel => exact ⟨i + 1, by omega, by go_num, by rw [HS.out, ho, hc]; rfl, by first | rfl | trivial⟩
                case measure => simp [intOf]; omega
            | false =>
              obtain ⟨q1, q2, q3, q4, q5, q6⟩ := mokc_false hc
              have e46 : ((c.toNat : Int) == 46) = false := beq_eq_false_iff_ne.2 (by omega)
              have e45 : ((c.toNat : Int) == 45) = false := beq_eq_false_iff_ne.2 (by omega)
              have e95 : ((c.toNat : Int) == 95) = false := beq_eq_false_iff_ne.2 (by omega)
              have e47 : ((c.toNat : Int) == 47) = false := beq_eq_false_iff_ne.2 (by omega)
              rcases (by omega : 122 < c.toNat ∨ (57 < c.toNat ∧ c.toNat < 97) ∨ c.toNat < 48) with q | ⟨q, q'⟩ | q
              · have t1 : (97 : Int) ≤ (c.toNat : Int) := by omega
                have t2 : ¬ (c.toNat : Int) ≤ 122 := by omega
                have t3 : (48 : Int) ≤ (c.toNat : Int) := by omega
                have t4 : ¬ (c.toNat : Int) ≤ 57 := by omega
                go_wp2
                go_roundw
                case rel => exact ⟨i + 1, by omega, by go_num, by rw [HS.out, ho, hc]; rfl, by first | rfl | trivial⟩
                case measure => simp [intOf]; omega
              · have t1 : ¬ (97 : Int) ≤ (c.toNat : Int) := by omega
                have t3 : (48 : Int) ≤ (c.toNat : Int) := by omega
                have t4 : ¬ (c.toNat : Int) ≤ 57 := by omega
                go_wp2
                go_roundw
                case rel => exact ⟨i + 1, by omega, by go_num, by rw [HS.out, ho, hc]; rfl, by first | rfl | trivial⟩
                case measure => simp [intOf]; omega
              · have t1 : ¬ (97 : Int) ≤ (c.toNat : Int) := by omega
                have t3 : ¬ (48 : Int) ≤ (c.toNat : Int) := by omega
                go_wp2
                go_roundw
                case rel => exact ⟨i + 1, by omega, by go_num, by rw [HS.out, ho, hc]; rfl, by first | rfl | trivial⟩
                case measure => simp [intOf]; omega
        · have hix : i = dir.size := by omega
          have z9 : ¬ (i : Int) < (dir.size : Int) := by omega
          have hok : okI dir i = false := by rw [hix, okI_full, HA.out]
          rw [hok]
          go_wp2_with (first
            | (go_at_call 12; with_reducible refine (msame_any (s := s00) (stV00 _) (stV00 _) (by decide) (by decide) (by decide)).mono ?_; rintro r v14 ⟨rfl, hb14⟩; have H14 := Lib.hid (H13.out.go hb14); clear hb14)
            | (go_at_call 13; with_reducible refine (state_none H12.out.z).mono ?_; rintro r v13 ⟨rfl, hb13⟩; have H13 := Lib.hid (H12.out.go hb13); clear hb13)
            | (go_at_call 12; with_reducible refine (msame_any (s := s00) (stV00 _) (stV00 _) (by decide) (by decide) (by decide)).mono ?_; rintro r v12 ⟨rfl, hb12⟩; have H12 := Lib.hid (H11.out.go hb12); clear hb12)
            | (go_at_call 13; with_reducible refine (state_none (mnil _)).mono ?_; rintro r v11 ⟨rfl, hb11⟩; have H11 := Lib.hid (H10.out.go hb11); clear hb11)
            | (go_at_call 11; with_reducible refine (mstuck_no (mnil _)).mono ?_; rintro r v10 ⟨rfl, rfl⟩; have H10 := Lib.hid H9.out)
            | (go_at_call 10; with_reducible refine (swap_none H8.out.z).mono ?_; rintro r v9 ⟨rfl, hb9⟩; have H9 := Lib.hid (H8.out.go hb9); clear hb9)
            | (go_at_call 10; with_reducible refine (swap_none (mnil _)).mono ?_; rintro r v8 ⟨rfl, hb8⟩; have H8 := Lib.hid (H7.out.go hb8); clear hb8)
            | (go_at_call 9; with_reducible refine (commit_none H6.out.z).mono ?_; rintro r v7 ⟨rfl, hb7⟩; have H7 := Lib.hid (H6.out.go hb7); clear hb7)
            | (go_at_call 9; with_reducible refine (commit_none (mnil _)).mono ?_; rintro r v6 ⟨rfl, hb6⟩; have H6 := Lib.hid (H5.out.go hb6); clear hb6)
            | (go_at_call 8; refine (malive_any _).mono ?_; rintro r v5 ⟨rfl, hb5⟩; have H5 := Lib.hid (H4.out.go hb5); clear hb5))
          go_ret
          exact ⟨rfl, H14.out.b⟩
    · have HG := Lib.hid hgood
      clear hgood
      by_cases hz : dir.size < 1
      · have t0 : ¬ (1 : Int) ≤ (dir.size : Int) := by omega
        go_enter Tryz.func3, Tryz.ntmps3
        go_wp2_with (first
          | (go_at_call 6; with_reducible refine (mopen_nil dir _).mono ?_; rintro r w2 ⟨rfl, rfl⟩)
          | (go_at_call 7; refine (c_newd (w0 := w1) (Below.refl _ _)).mono ?_; rintro r w3 ⟨rfl, _, h3⟩; have H3 := Lib.hid (H1.out.go h3); clear h3)
          | (go_at_call 6; refine (mopen_bad _ dir hdz HG.out _).mono ?_; rintro r w4 ⟨rfl, h4⟩; have H4 := Lib.hid (H3.out.go h4); clear h4))

        go_loopw [9, 10, 11] (fun kv iv _ wr => ∃ i : Nat, i ≤ dir.size ∧ iv = .int .i64 (i : Int) ∧ kv = .bool (false) ∧ w4 = wr) (fun _ iv _ _ => dir.size - (intOf iv).toNat)
        case atStart => exact ⟨0, by omega, rfl, by first | rfl | exact congrArg Value.bool (decide_eq_false (by omega)), by first | rfl | trivial⟩
        case round =>
          obtain ⟨i, hi, rfl, rfl, rfl⟩ := hrel
          by_cases hlt : i < dir.size
          · obtain ⟨c, hg⟩ : ∃ c, dir[i] = c := ⟨_, rfl⟩
            go_wp2
            go_roundw
            case rel => exact ⟨i + 1, by omega, by go_num, rfl, by first | rfl | trivial⟩
            case measure => simp [intOf]; omega
          · have hix : i = dir.size := by omega
            have z9 : ¬ (i : Int) < (dir.size : Int) := by omega
            go_wp2_with (first
              | (go_at_call 12; with_reducible refine (msame_any (s := s00) (stV00 _) (stV00 _) (by decide) (by decide) (by decide)).mono ?_; rintro r v14 ⟨rfl, hb14⟩; have H14 := Lib.hid (H13.out.go hb14); clear hb14)
              | (go_at_call 13; with_reducible refine (state_none H12.out.z).mono ?_; rintro r v13 ⟨rfl, hb13⟩; have H13 := Lib.hid (H12.out.go hb13); clear hb13)
              | (go_at_call 12; with_reducible refine (msame_any (s := s00) (stV00 _) (stV00 _) (by decide) (by decide) (by decide)).mono ?_; rintro r v12 ⟨rfl, hb12⟩; have H12 := Lib.hid (H11.out.go hb12); clear hb12)
              | (go_at_call 13; with_reducible refine (state_none (mnil _)).mono ?_; rintro r v11 ⟨rfl, hb11⟩; have H11 := Lib.hid (H10.out.go hb11); clear hb11)
              | (go_at_call 11; with_reducible refine (mstuck_no (mnil _)).mono ?_; rintro r v10 ⟨rfl, rfl⟩; have H10 := Lib.hid H9.out)
              | (go_at_call 10; with_reducible refine (swap_none H8.out.z).mono ?_; rintro r v9 ⟨rfl, hb9⟩; have H9 := Lib.hid (H8.out.go hb9); clear hb9)
              | (go_at_call 10; with_reducible refine (swap_none (mnil _)).mono ?_; rintro r v8 ⟨rfl, hb8⟩; have H8 := Lib.hid (H7.out.go hb8); clear hb8)
              | (go_at_call 9; with_reducible refine (commit_none H6.out.z).mono ?_; rintro r v7 ⟨rfl, hb7⟩; have H7 := Lib.hid (H6.out.go hb7); clear hb7)
              | (go_at_call 9; with_reducible refine (commit_none (mnil _)).mono ?_; rintro r v6 ⟨rfl, hb6⟩; have H6 := Lib.hid (H5.out.go hb6); clear hb6)
              | (go_at_call 8; refine (malive_any _).mono ?_; rintro r v5 ⟨rfl, hb5⟩; have H5 := Lib.hid (H4.out.go hb5); clear hb5))
            go_ret
            exact ⟨rfl, H14.out.b⟩
      · have t0 : (1 : Int) ≤ (dir.size : Int) := by omega
        have t1 : ¬ (dir.size : Int) ≤ 30 := by omega
        go_enter Tryz.func3, Tryz.ntmps3
        go_wp2_with (first
          | (go_at_call 6; with_reducible refine (mopen_nil dir _).mono ?_; rintro r w2 ⟨rfl, rfl⟩)
          | (go_at_call 7; refine (c_newd (w0 := w1) (Below.refl _ _)).mono ?_; rintro r w3 ⟨rfl, _, h3⟩; have H3 := Lib.hid (H1.out.go h3); clear h3)
          | (go_at_call 6; refine (mopen_bad _ dir hdz HG.out _).mono ?_; rintro r w4 ⟨rfl, h4⟩; have H4 := Lib.hid (H3.out.go h4); clear h4))

        go_loopw [9, 10, 11] (fun kv iv _ wr => ∃ i : Nat, i ≤ dir.size ∧ iv = .int .i64 (i : Int) ∧ kv = .bool (false) ∧ w4 = wr) (fun _ iv _ _ => dir.size - (intOf iv).toNat)
        case atStart => exact ⟨0, by omega, rfl, by first | rfl | exact congrArg Value.bool (decide_eq_false (by omega)), by first | rfl | trivial⟩
        case round =>
          obtain ⟨i, hi, rfl, rfl, rfl⟩ := hrel
          by_cases hlt : i < dir.size
          · obtain ⟨c, hg⟩ : ∃ c, dir[i] = c := ⟨_, rfl⟩
            go_wp2
            go_roundw
            case rel => exact ⟨i + 1, by omega, by go_num, rfl, by first | rfl | trivial⟩
            case measure => simp [intOf]; omega
          · have hix : i = dir.size := by omega
            have z9 : ¬ (i : Int) < (dir.size : Int) := by omega
            go_wp2_with (first
              | (go_at_call 12; with_reducible refine (msame_any (s := s00) (stV00 _) (stV00 _) (by decide) (by decide) (by decide)).mono ?_; rintro r v14 ⟨rfl, hb14⟩; have H14 := Lib.hid (H13.out.go hb14); clear hb14)
              | (go_at_call 13; with_reducible refine (state_none H12.out.z).mono ?_; rintro r v13 ⟨rfl, hb13⟩; have H13 := Lib.hid (H12.out.go hb13); clear hb13)
              | (go_at_call 12; with_reducible refine (msame_any (s := s00) (stV00 _) (stV00 _) (by decide) (by decide) (by decide)).mono ?_; rintro r v12 ⟨rfl, hb12⟩; have H12 := Lib.hid (H11.out.go hb12); clear hb12)
              | (go_at_call 13; with_reducible refine (state_none (mnil _)).mono ?_; rintro r v11 ⟨rfl, hb11⟩; have H11 := Lib.hid (H10.out.go hb11); clear hb11)
              | (go_at_call 11; with_reducible refine (mstuck_no (mnil _)).mono ?_; rintro r v10 ⟨rfl, rfl⟩; have H10 := Lib.hid H9.out)
              | (go_at_call 10; with_reducible refine (swap_none H8.out.z).mono ?_; rintro r v9 ⟨rfl, hb9⟩; have H9 := Lib.hid (H8.out.go hb9); clear hb9)
              | (go_at_call 10; with_reducible refine (swap_none (mnil _)).mono ?_; rintro r v8 ⟨rfl, hb8⟩; have H8 := Lib.hid (H7.out.go hb8); clear hb8)
              | (go_at_call 9; with_reducible refine (commit_none H6.out.z).mono ?_; rintro r v7 ⟨rfl, hb7⟩; have H7 := Lib.hid (H6.out.go hb7); clear hb7)
              | (go_at_call 9; with_reducible refine (commit_none (mnil _)).mono ?_; rintro r v6 ⟨rfl, hb6⟩; have H6 := Lib.hid (H5.out.go hb6); clear hb6)
              | (go_at_call 8; refine (malive_any _).mono ?_; rintro r v5 ⟨rfl, hb5⟩; have H5 := Lib.hid (H4.out.go hb5); clear hb5))
            go_ret
            exact ⟨rfl, H14.out.b⟩
end Go.Proofs.YtjebpppjhkkebaaGreatDoor

