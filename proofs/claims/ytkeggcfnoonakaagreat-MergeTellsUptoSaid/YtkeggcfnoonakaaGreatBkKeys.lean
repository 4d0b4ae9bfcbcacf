
/-
  Book: the kind Keys: same, mark, copy.
-/
import Derived.Test.YtkeggcfnoonakaaGreatMgM
import Derived.Test.YtkeggcfnoonakaaGreatBk3
import Derived.Test.YtkeggcfnoonakaaGreatBkAt
set_option linter.unusedSimpArgs false
set_option linter.unusedVariables false
namespace Go.Proofs.YtkeggcfnoonakaaGreat
open Go.RowKit

/-- Pairs that can be read. -/
def RdK (w : World) (x : Value) (l : List KV) : Prop := ∃ a c, x = .slice a l.length c ∧ RdP w a c l
theorem RdK.below {w w' : World} {x : Value} {l : List KV} (h : RdK w x l) (hb : Below w.heap.size w w') : RdK w' x l := by
  obtain ⟨a, c, hx, h⟩ := h
  exact ⟨a, c, hx, h.below (n := 0) hb⟩
theorem rdK_own {w : World} {B : Nat} {v : Value} {l : List KV} (h : Own eKV w B v l) : RdK w v l := rdP_own h
theorem RdK.drewN {w : World} {x : Value} {l : List KV} (h : RdK w x l) (n : Nat) : RdK (w.drewN n) x l := by
  obtain ⟨a, c, hx, h⟩ := h
  exact ⟨a, c, hx, RdP.drewN h n⟩
theorem same_Keys {w : World} {x y : Value} {l : List KV} (hx : RdK w x l) (hy : RdK w y l) (hl : l.length ≤ 100000) : Calls Tryz.prog 12 #[x, y] w fun e w' => e = .returned (.bool true) ∧ ∃ a, w' = w.drewN a := by
  obtain ⟨a1, c1, rfl, h1⟩ := hx
  obtain ⟨a2, c2, rfl, h2⟩ := hy
  have := samekeys_quiet h1 h2 hl hl
  rw [decide_eq_true rfl] at this
  exact this
/-- The name number k of the list number i. -/
def nmB (n : Nat) : UInt8 := UInt8.ofNat n
def nm (i k : Nat) : ByteArray := ⟨#[109, nmB (65 + i % 26), nmB (65 + i / 26 % 26), nmB (48 + k % 10), nmB (48 + k / 10 % 10), nmB (48 + k / 100 % 10)]⟩
theorem nmB_nat {n : Nat} (h : n < 256) : ((nmB n).toNat : Int) = n := by
  unfold nmB
  rw [UInt8.toNat_ofNat', Nat.mod_eq_of_lt (by omega)]
set_option maxRecDepth 100000 in
set_option maxHeartbeats 1000000 in
theorem name_any (i k : Nat) (hi : i ≤ 1000) (hk : k ≤ 20000000) (w : World) : Calls Tryz.prog 133 #[.int .i64 i, .int .i64 k] w fun e w' => e = .returned (.string (nm i k)) ∧ Below w.heap.size w w' := by
  obtain ⟨W1, hW1⟩ : ∃ W1, W1 = w.alloc (.cells #[.int .u8 109, .int .u8 (65 + (i : Int) % 26), .int .u8 (65 + (i : Int) / 26 % 26), .int .u8 (48 + (k : Int) % 10), .int .u8 (48 + (k : Int) / 10 % 10), .int .u8 (48 + (k : Int) / 100 % 10)] 5) := ⟨_, rfl⟩
  have hconv : (convert 178 9 (.slice (some ⟨w.heap.size, 0, none⟩) 6 6)).run Tryz.prog W1 = .ok (.string (nm i k)) W1 := by
    refine run_convert_bytes_back W1 178 9 5 ⟨w.heap.size, 0, none⟩ 6 [109, nmB (65 + i % 26), nmB (65 + i / 26 % 26), nmB (48 + k % 10), nmB (48 + k / 10 % 10), nmB (48 + k / 100 % 10)] Tryz.underlying178 Tryz.underlying5 Tryz.underlying9 fun j hj => ?_
    have h6 : j < 6 := hj
    rw [add_off, Nat.zero_add]
    rcases (by omega : j = 0 ∨ j = 1 ∨ j = 2 ∨ j = 3 ∨ j = 4 ∨ j = 5) with rfl | rfl | rfl | rfl | rfl | rfl
    · rw [hW1]; simp [go_sem]
    · show _ = some (Value.int .u8 ((nmB (65 + i % 26)).toNat : Int)); rw [nmB_nat (by omega), hW1]; simp [go_sem]
    · show _ = some (Value.int .u8 ((nmB (65 + i / 26 % 26)).toNat : Int)); rw [nmB_nat (by omega), hW1]; simp [go_sem]
    · show _ = some (Value.int .u8 ((nmB (48 + k % 10)).toNat : Int)); rw [nmB_nat (by omega), hW1]; simp [go_sem]
    · show _ = some (Value.int .u8 ((nmB (48 + k / 10 % 10)).toNat : Int)); rw [nmB_nat (by omega), hW1]; simp [go_sem]
    · show _ = some (Value.int .u8 ((nmB (48 + k / 100 % 10)).toNat : Int)); rw [nmB_nat (by omega), hW1]; simp [go_sem]
  have hb1 : Below w.heap.size w W1 := by rw [hW1]; exact (Below.refl _ _).alloc (Nat.le_refl _) _
  have HB := Lib.hid hb1
  clear hb1
  go_enter Tryz.func133, Tryz.ntmps133
  go_wp2_with fail
  rw [← hW1, hconv]
  clear hconv hW1
  go_wp2_with fail
  go_ret
  exact ⟨rfl, HB.out⟩
/-- The mark number k of the list number i. -/
def mkKeys (i k : Nat) : KV := (nm i k, ⟨#[]⟩)
set_option maxHeartbeats 400000 in
theorem mark_Keys (i from_ n : Nat) (hi : i ≤ 1000) (hf : from_ ≤ 1000000) (hn : n ≤ 1000000) (w : World) : Calls Tryz.prog 115 #[.int .i64 i, .int .i64 from_, .int .i64 n] w fun e w' =>
    ∃ a cap, e = .returned (.slice a n cap) ∧ Own eKV w' w.heap.size (.slice a n cap) (marks mkKeys i from_ n) ∧ Below w.heap.size w w' := by
  go_enter Tryz.func115, Tryz.ntmps115
  go_wp2
  go_loopw [7, 8] (fun v y wr => ∃ j : Nat, j ≤ n ∧ y = .int .i64 ((from_ + j : Nat) : Int) ∧ Own eKV wr w.heap.size v (marks mkKeys i from_ j) ∧ Below w.heap.size w wr) (fun _ y _ => from_ + n - (intOf y).toNat)
  case atStart => exact ⟨0, by omega, by simp, World.ownsRow_nil _ _ _ _, Below.refl _ _⟩
  case round =>
    obtain ⟨j, hj, rfl, hown, hbel⟩ := hrel
    obtain ⟨av, capv, rfl, _, _⟩ := row_form hown
    rw [marks_len] at hown ⊢
    have HO := Lib.hid hown
    have HB := Lib.hid hbel
    clear hown
    by_cases hlt : j < n
    · have hst := marks_succ mkKeys i from_ j
      have HST := Lib.hid hst
      have hml : (marks mkKeys i from_ j).length = j := marks_len _ _ _ _
      have HML := Lib.hid hml
      clear hst hbel hml
      go_wp2_with (first
        | (go_at_call 133; refine (name_any i (from_ + j) (by omega) (by omega) _).mono ?_; rintro e w1 ⟨rfl, hb⟩; have HN := Lib.hid (HB.out.trans (hb.mono HB.out.size)); have HNO := Lib.hid (row_below HO.out hb); clear hb)
        | (at_builtin; refine wpl_app eKV rfl _ _ rfl rfl rfl (l := marks mkKeys i from_ j) (l2 := [mkKeys i (from_ + j)]) (World.ownsRow.alloc HNO.out _) (src_one w1 (mkKeys i (from_ + j)) _ _ rfl 1) (by rw [HML.out]; simp; omega) (by have := HN.out.size; simp; omega) ?_; rw [HML.out]; intro a3 cap3 w3 ho3 hb3 _ _; have H3 := Lib.hid (And.intro ho3 ((HN.out.alloc HN.out.size _).trans hb3)); clear ho3 hb3))
      go_roundw
      case rel => exact ⟨j + 1, by omega, by go_num, by rw [HST.out]; exact H3.out.1, H3.out.2⟩
      case measure => simp [intOf]; omega
    · obtain rfl : j = n := by omega
      clear hbel
      go_wp2
      go_ret
      exact ⟨av, capv, rfl, HO.out, HB.out⟩

theorem copy_Keys {w : World} {x : Value} {l : List KV} (hx : Src eKV w x l) (hl : l.length ≤ 100000) : Calls Tryz.prog 26 #[x] w fun e w' => ∃ s : Sl, e = .returned s.val ∧ Own eKV w' w.heap.size s.val l ∧ Below w.heap.size w w' := by
  go_enter Tryz.func26, Tryz.ntmps26
  go_wp2_with (at_builtin; refine wpl_app eKV (l := []) rfl _ _ rfl rfl rfl (World.ownsRow_nil _ w.heap.size _ _) hx (by simp; omega) (Nat.le_refl _) ?_; intro a3 cap3 w3 ho3 hb3 _ _; have H3 := Lib.hid (And.intro ho3 hb3); clear ho3 hb3)
  go_ret
  have h1 := H3.out.1
  rw [List.nil_append, show ([] : List KV).length + l.length = l.length by simp] at h1
  exact ⟨⟨a3, l.length, cap3⟩, rfl, h1, H3.out.2⟩
end Go.Proofs.YtkeggcfnoonakaaGreat
