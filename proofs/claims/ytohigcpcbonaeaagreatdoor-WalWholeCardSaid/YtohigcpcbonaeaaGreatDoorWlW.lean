/-
  Wal: the walks of hex, name, number, framed.
-/
import Derived.Test.YtohigcpcbonaeaaGreatDoorWm2
import Derived.Test.YtohigcpcbonaeaaGreatDoorShelf
import Derived.Test.YtohigcpcbonaeaaGreatDoorRawB
import Derived.Test.YtohigcpcbonaeaaGreatDoorRawK
import Derived.Test.YtohigcpcbonaeaaGreatDoorWm1
namespace Go.Proofs.YtohigcpcbonaeaaGreatDoor
open Go.RowKit

/-- A row of N bytes of which the first ones are laid. -/
def FrB (w : World) (B N : Nat) (l : List UInt8) : Prop :=
  l.length ≤ N ∧ (∀ j (h : j < l.length), w.cell? ⟨B, j, none⟩ = some (.int .u8 (l[j].toNat : Int))) ∧ (∀ j, j < N → ∃ v, w.cell? ⟨B, j, none⟩ = some v) ∧ ∀ j, w.frozen? ⟨B, j, none⟩ = false
theorem FrB.start (w : World) (arr : Array Value) (t : TypeId) : FrB (w.alloc (.cells arr t)) w.heap.size arr.size [] :=
  ⟨by simp, fun j h => by simp at h, fun j hj => ⟨arr[j], by simp [go_sem, hj]⟩, fun j => by simp [go_sem]⟩
theorem FrB.add {w : World} {B N : Nat} {l : List UInt8} (h : FrB w B N l) (c : UInt8) (hl : l.length < N) : FrB (w.setCell ⟨B, l.length, none⟩ (.int .u8 (c.toNat : Int))) B N (l ++ [c]) := by
  obtain ⟨h1, h2, h3, h4⟩ := h
  refine ⟨by simp; omega, fun j hj => ?_, fun j hj => ?_, fun j => by rw [World.frozen?_setCell]; exact h4 j⟩
  · rw [List.length_append, List.length_singleton] at hj
    rcases Nat.lt_or_ge j l.length with hlt | hge
    · rw [World.cell?_setCell_other _ _ _ _ (by intro e; injection e with _ e2; omega), List.getElem_append_left hlt]
      exact h2 j hlt
    · obtain rfl : j = l.length := by omega
      obtain ⟨v, hv⟩ := h3 l.length hl
      rw [World.cell?_setCell_same _ _ _ hv, List.getElem_append_right (Nat.le_refl _)]
      simp
  · by_cases e : j = l.length
    · subst e
      obtain ⟨v, hv⟩ := h3 l.length hl
      exact ⟨_, World.cell?_setCell_same _ _ _ hv⟩
    · obtain ⟨v, hv⟩ := h3 j hj
      exact ⟨v, by rw [World.cell?_setCell_other _ _ _ _ (by intro e2; injection e2 with _ e3; omega)]; exact hv⟩
theorem FrB.has {w : World} {B N : Nat} {l : List UInt8} (h : FrB w B N l) : HasB w B l := fun j hj => ⟨h.2.1 j hj, h.2.2.2 j⟩

theorem digit_of (n i : Nat) (hn : n < 4294967296) : bits .and .i64 ((n : Int) / 2 ^ (4 * (7 - i))) 15 = ((n / 16 ^ (7 - i) % 16 : Nat) : Int) := by
  have h : ((n : Int) / 2 ^ (4 * (7 - i))) = ((n / 16 ^ (7 - i) : Nat) : Int) := by
    rw [Int.pow_mul]; norm_cast
  have h2 : n / 16 ^ (7 - i) ≤ n := Nat.div_le_self _ _
  have h3 := (bits_nat .i64 63 (by decide) (fun m h0 h1 => by exact IntWalk.i64_in _ (by omega)) (n / 16 ^ (7 - i)) 15 (by omega) (by omega)).1
  rw [h, show (15 : Int) = ((15 : Nat) : Int) from rfl, h3, show (15 : Nat) = 2 ^ 4 - 1 from rfl, Nat.and_two_pow_sub_one_eq_mod]

theorem dig_at : ∀ (d : Nat) (h : d < (⟨#[48, 49, 50, 51, 52, 53, 54, 55, 56, 57, 97, 98, 99, 100, 101, 102]⟩ : ByteArray).size), (⟨#[48, 49, 50, 51, 52, 53, 54, 55, 56, 57, 97, 98, 99, 100, 101, 102]⟩ : ByteArray)[d]'h = hexD d
  | 0, _ => rfl
  | 1, _ => rfl
  | 2, _ => rfl
  | 3, _ => rfl
  | 4, _ => rfl
  | 5, _ => rfl
  | 6, _ => rfl
  | 7, _ => rfl
  | 8, _ => rfl
  | 9, _ => rfl
  | 10, _ => rfl
  | 11, _ => rfl
  | 12, _ => rfl
  | 13, _ => rfl
  | 14, _ => rfl
  | 15, _ => rfl
  | n + 16, h => by
    have h2 : n + 16 < 16 := h
    omega

set_option maxRecDepth 100000 in
set_option maxHeartbeats 1000000 in
theorem w_hex (n : Nat) (hn : n < 4294967296) (w : World) : Calls Tryz.prog 47 #[.int .i64 (n : Int)] w fun e w' => e = .returned (.string (hexB n)) ∧ Below w.heap.size w w' := by
  obtain ⟨arr, harr, hmk⟩ := make_b 8 w (by omega)
  have hmk : (Instr.makeSlice 55 (.int .i64 8) (.int .i64 8)).run Tryz.prog w = .ok (.slice (some ⟨w.heap.size, 0, none⟩) 8 8) (w.alloc (.cells arr 5)) := hmk
  have hb0 : FrB (w.alloc (.cells arr 5)) w.heap.size 8 [] := by
    have := FrB.start w arr 5
    rw [harr] at this
    exact this
  have HB0 := Lib.hid hb0
  clear harr hb0
  go_enter Tryz.func47, Tryz.ntmps47
  go_wp2
  go_loopw [4, 8] (fun _ y wr => ∃ i : Nat, i ≤ 8 ∧ y = .int .i64 (i : Int) ∧ FrB wr w.heap.size 8 ((hexF 8 n).take i) ∧ Below w.heap.size w wr) (fun _ y _ => 8 - (intOf y).toNat)
  case atStart => exact ⟨0, by omega, rfl, HB0.out, (Below.refl _ _).alloc (Nat.le_refl _) _⟩
  case round =>
    obtain ⟨i, hi, rfl, hbuf, hbel⟩ := hrel
    by_cases hlt : i < 8
    · have hfz := hbuf.2.2.2 i
      obtain ⟨cv, hcv⟩ := hbuf.2.2.1 i hlt
      have hdg := digit_of n i hn
      obtain ⟨d, hd⟩ : ∃ d, d = n / 16 ^ (7 - i) % 16 := ⟨_, rfl⟩
      have hd16 : d < 16 := by rw [hd]; exact Nat.mod_lt _ (by decide)
      rw [← hd] at hdg
      have HD := Lib.hid hd
      clear hd
      go_wp2
      go_roundw
      case rel =>
        refine ⟨i + 1, by omega, by go_num, ?_, hbel.setCell (Nat.le_refl _) _⟩
        rw [dig_at]
        have hl : ((hexF 8 n).take i).length = i := by rw [List.length_take, hexF_len]; omega
        have h2 := hbuf.add (hexD d) (by omega)
        rw [hl] at h2
        have h3 : (hexF 8 n).take (i + 1) = (hexF 8 n).take i ++ [hexD d] := by
          rw [List.take_add_one, hexF_get 8 n i hlt, HD.out]
          rfl
        rw [h3]
        exact h2
      case measure => simp [intOf]; omega
    · obtain rfl : i = 8 := by omega
      rw [List.take_of_length_le (by rw [hexF_len]; omega)] at hbuf
      have hs := hbuf.has.str 8 8 (hexF_len 8 n).symm
      have HBU := Lib.hid hbuf
      clear hbuf
      go_wp2
      go_ret
      exact ⟨rfl, hbel⟩

theorem hexB_size (n : Nat) : (hexB n).size = 8 := by rw [hexB]; simp [ByteArray.size, hexF_len]
set_option maxRecDepth 100000 in
set_option maxHeartbeats 1000000 in
theorem w_name {lb : Nat} {dir : ByteArray} (hd40 : dir.size ≤ 40) (n : Nat) (hn : n < 4294967296) {w : World} (h : w.cell? ⟨lb, 1, none⟩ = some (.string dir)) : Calls Tryz.prog 26 #[.pointer (some ⟨lb, 0, none⟩), .int .i64 (n : Int)] w fun e w' => e = .returned (.string (segN dir n)) ∧ Below w.heap.size w w' := by
  obtain ⟨hx, hhx⟩ : ∃ hx, hexB n = hx := ⟨_, rfl⟩
  have h8 : hx.size ≤ 8 := by rw [← hhx, hexB_size]; exact Nat.le_refl _
  have HX := Lib.hid hhx
  have a1 : ¬ 9223372036854775807 < dir.size + 2 := by omega
  have a2 : ¬ 9223372036854775807 < dir.size + 2 + hx.size := by omega
  clear hhx
  go_enter Tryz.func26, Tryz.ntmps26
  go_wp2
  refine wp_region_K (fun w' => w'.cell? ⟨lb, 1, none⟩ = some (.string dir)) 8 9 (by kernel_rfl) (by kernel_rfl) h (fun hH => ?_)
  refine wpAnyK_take (i := 0) [8] (v := ?v1) rfl (by kernel_rfl) (by kernel_rfl) (by kernel_rfl) (by kernel_rfl) (fun _ _ _ h => h) (Or.inl ⟨by rfl, ?hy1⟩) hH ?rest1
  case hy1 => (intro w hSw; (try dsimp only at hSw); go_simp; with_reducible rfl)
  try simp only [Act.put, List.setIfInBounds_toArray, List.set_cons_zero, List.set_cons_succ]
  refine wpAnyK_take (i := 1) [8] (v := ?v2) rfl (by kernel_rfl) (by kernel_rfl) (by kernel_rfl) (by kernel_rfl) (fun _ _ _ h => h) (Or.inl ⟨by rfl, ?hy2⟩) hH ?rest2
  case hy2 => (intro w hSw; (try dsimp only at hSw); go_simp; with_reducible rfl)
  try simp only [Act.put, List.setIfInBounds_toArray, List.set_cons_zero, List.set_cons_succ]
  refine wpAnyK_take (i := 2) [8] (v := ?v3) rfl (by kernel_rfl) (by kernel_rfl) (by kernel_rfl) (by kernel_rfl) (fun _ _ _ h => h) (Or.inl ⟨by rfl, ?hy3⟩) hH ?rest3
  case hy3 => (intro w hSw; (try dsimp only at hSw); go_simp; with_reducible rfl)
  try simp only [Act.put, List.setIfInBounds_toArray, List.set_cons_zero, List.set_cons_succ]
  refine wpAnyK_take (i := 3) [8] (v := ?v4) rfl (by kernel_rfl) (by kernel_rfl) (by kernel_rfl) (by kernel_rfl) (fun _ _ _ h => h) (Or.inl ⟨by rfl, ?hy4⟩) hH ?rest4
  case hy4 => (intro w hSw; (try dsimp only at hSw); go_simp; with_reducible rfl)
  try simp only [Act.put, List.setIfInBounds_toArray, List.set_cons_zero, List.set_cons_succ]
  refine wpAnyK_take (i := 4) [8] (v := ?v5) rfl (by kernel_rfl) (by kernel_rfl) (by kernel_rfl) (by kernel_rfl) (fun _ _ _ h => h) (Or.inl ⟨by rfl, ?hy5⟩) hH ?rest5
  case hy5 => (intro w hSw; (try dsimp only at hSw); go_simp; with_reducible rfl)
  try simp only [Act.put, List.setIfInBounds_toArray, List.set_cons_zero, List.set_cons_succ]
  refine wpAnyK_take (i := 5) [8] (v := ?v6) rfl (by kernel_rfl) (by kernel_rfl) (by kernel_rfl) (by kernel_rfl) (fun _ _ _ h => h) (Or.inl ⟨by rfl, ?hy6⟩) hH ?rest6
  case hy6 => (intro w hSw; (try dsimp only at hSw); go_simp; with_reducible rfl)
  try simp only [Act.put, List.setIfInBounds_toArray, List.set_cons_zero, List.set_cons_succ]
  refine wpAnyK_one (i := 6) (by kernel_rfl) rfl (fun K hK => ?_) (by kernel_rfl)
  go_simp
  go_at_call 47
  refine (w_hex n hn _).mono ?_
  rintro e w3 ⟨rfl, hb⟩
  rw [HX.out]
  have h3 := (hb.cell (p := ⟨lb, 1, none⟩) (World.block_lt_of_cell? _ _ h)).trans h
  have HB := Lib.hid hb
  clear hb
  refine hK.out _ _ h3 (fun hH => ?_)
  clear hK K
  try simp only [Act.put, List.setIfInBounds_toArray, List.set_cons_zero, List.set_cons_succ]
  refine wpAnyK_take (i := 7) [8] (v := ?v7) rfl (by kernel_rfl) (by kernel_rfl) (by kernel_rfl) (by kernel_rfl) (fun _ _ _ h => h) (Or.inl ⟨by rfl, ?hy7⟩) hH ?rest7
  case hy7 => (intro w hSw; (try dsimp only at hSw); go_simp; with_reducible rfl)
  try simp only [Act.put, List.setIfInBounds_toArray, List.set_cons_zero, List.set_cons_succ]
  refine wpAnyK_last (by kernel_rfl) rfl (fun K hK => ?_) (by kernel_rfl)
  go_simp
  refine hK.out _ _ (wpAnyK_done (by kernel_rfl) ?_ _)
  clear hK K hH
  go_wp2_with fail
  go_ret
  exact ⟨by rw [← HX.out]; rfl, (Below.refl _ _).drew.trans HB.out⟩

theorem hasP_app (a b : List UInt8) : Lib.hasPrefix (a ++ b) a = true := by unfold Lib.hasPrefix; simp
theorem trim_seg (dir : ByteArray) (n : Nat) : Lib.trimPrefix (segN dir n).data.toList (dir ++ tW).data.toList = hexF 8 n := by
  rw [segN_list, begN_list, ← List.append_assoc]
  unfold Lib.trimPrefix
  rw [if_pos (by first | exact hasP_app _ _ | (rw [List.isPrefixOf_iff_prefix]; exact List.prefix_append _ _))]
  exact List.drop_left
theorem or_digit (v d : Nat) (hv : v < 268435456) (hd : d < 16) : bits .or .i64 ((v : Int) * 16) (d : Int) = ((v * 16 + d : Nat) : Int) := by
  have h := (bits_nat .i64 63 (by decide) (fun n h0 h1 => by exact IntWalk.i64_in _ (by omega)) (v * 16) d (by omega) (by omega)).2
  have hor := Nat.two_pow_add_eq_or_of_lt (i := 4) (b := d) (by omega) v
  rw [show 2 ^ 4 * v = v * 16 from by omega] at hor
  rw [show (v : Int) * 16 = ((v * 16 : Nat) : Int) from by omega, h, hor]
theorem dig_lt {d : Nat} (h : d < 16) : (d < 10 ∧ (hexD d).toNat = 48 + d) ∨ (10 ≤ d ∧ (hexD d).toNat = 87 + d) := by
  unfold hexD
  by_cases h1 : d < 10
  · rw [if_pos h1, UInt8.toNat_ofNat']; omega
  · rw [if_neg h1, UInt8.toNat_ofNat']; omega
set_option maxRecDepth 100000 in
set_option maxHeartbeats 1000000 in
theorem w_number {lb : Nat} {dir : ByteArray} (hd40 : dir.size ≤ 40) (n : Nat) (hn : n < 4294967296) {w : World} (h : w.cell? ⟨lb, 1, none⟩ = some (.string dir)) : Calls Tryz.prog 32 #[.pointer (some ⟨lb, 0, none⟩), .string (segN dir n)] w fun e w' => e = .returned (.int .i64 (n : Int)) ∧ w' = w := by
  have htr := trim_seg dir n
  have htr2 := Tryz.strings_CutPrefix (segN dir n) (dir ++ tW) w
  rw [htr] at htr2
  obtain ⟨s0, hs0⟩ : ∃ s0, s0 = hexB n := ⟨_, rfl⟩
  have hs8 : s0.size = 8 := by rw [hs0, hexB_size]
  rw [show (⟨(hexF 8 n).toArray⟩ : ByteArray) = s0 from hs0.symm] at htr2
  have hget : ∀ i (hi : i < s0.size), s0[i] = hexD (n / 16 ^ (7 - i) % 16) := by
    intro i hi
    subst hs0
    have h1 := hexF_get 8 n i (by omega)
    have h2 : (hexB n)[i]'hi = (hexF 8 n)[i]'(by rw [hexF_len]; omega) := by simp [hexB]; rfl
    rw [h2]
    rw [List.getElem?_eq_getElem (by rw [hexF_len]; omega)] at h1
    exact Option.some.inj h1
  have HG := Lib.hid hget
  clear hget hs0 htr
  go_enter Tryz.func32, Tryz.ntmps32
  go_wp2_with (go_at_call 62; refine htr2.mono ?_; rintro e w2 ⟨rfl, rfl⟩)
  clear htr2
  have hs8i : (s0.size : Int) = 8 := by omega
  go_loop [7, 25] (fun x y => ∃ i : Nat, i ≤ 8 ∧ y = .int .i64 (i : Int) ∧ x = .int .i64 ((n / 16 ^ (8 - i) : Nat) : Int)) (fun _ y => 8 - (intOf y).toNat)
  case atStart => exact ⟨0, by omega, rfl, by rw [Nat.div_eq_of_lt (by omega)]; rfl⟩
  case round =>
    obtain ⟨i, hi, rfl, rfl⟩ := hrel
    by_cases hlt : i < 8
    · obtain ⟨d, hd⟩ : ∃ d, n / 16 ^ (7 - i) % 16 = d := ⟨_, rfl⟩
      have hd16 : d < 16 := by rw [← hd]; exact Nat.mod_lt _ (by decide)
      have hg := HG.out i (by omega)
      rw [hd] at hg
      obtain ⟨v, hv⟩ : ∃ v, n / 16 ^ (8 - i) = v := ⟨_, rfl⟩
      have hvl : v < 268435456 := by
        rw [← hv]
        have h1 : 16 ^ 1 ≤ 16 ^ (8 - i) := Nat.pow_le_pow_right (by decide) (by omega)
        have h2 : n / 16 ^ (8 - i) ≤ n / 16 ^ 1 := Nat.div_le_div_left h1 (by decide)
        omega
      rw [hv]
      have hnext : n / 16 ^ (8 - (i + 1)) = v * 16 + d := by
        rw [← hd, ← hv, show 8 - i = (7 - i) + 1 by omega, Nat.pow_succ, ← Nat.div_div_eq_div_mul, show 8 - (i + 1) = 7 - i by omega]
        omega
      have HN := Lib.hid hnext
      obtain ⟨c, hc⟩ : ∃ c, hexD d = c := ⟨_, rfl⟩
      have hdl := dig_lt hd16
      rw [hc] at hg hdl
      clear hnext hd hv hc
      rcases hdl with ⟨h1, h2⟩ | ⟨h1, h2⟩
      · have t1 : (48 : Int) ≤ (c.toNat : Int) := by omega
        have t2 : (c.toNat : Int) ≤ 57 := by omega
        go_wp2
        go_round
        case rel => exact ⟨i + 1, by omega, by go_num, by rw [HN.out, show (48 : Int) + (d : Int) - 48 = (d : Int) by omega, or_digit v d hvl hd16]⟩
        case measure => simp [intOf]; omega
      · have t1 : (48 : Int) ≤ (c.toNat : Int) := by omega
        have t2 : ¬ (c.toNat : Int) ≤ 57 := by omega
        have t3 : (97 : Int) ≤ (c.toNat : Int) := by omega
        have t4 : (c.toNat : Int) ≤ 102 := by omega
        go_wp2
        go_round
        case rel => exact ⟨i + 1, by omega, by go_num, by rw [HN.out, show (87 : Int) + (d : Int) - 97 + 10 = (d : Int) by omega, or_digit v d hvl hd16]⟩
        case measure => simp [intOf]; omega
    · obtain rfl : i = 8 := by omega
      go_wp2
      go_ret
      exact ⟨by simp, rfl⟩
end Go.Proofs.YtohigcpcbonaeaaGreatDoor
