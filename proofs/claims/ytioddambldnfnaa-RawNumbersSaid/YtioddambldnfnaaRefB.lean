/-
  The walk of the reference's GetVar.
-/
import Derived.Test.YtioddambldnfnaaRefA
import Derived.Test.YtioddambldnfnaaRawQ
namespace Go.Proofs.Ytioddambldnfnaa
open Go.RowKit

/-- How many bytes at the beginning are 128 or greater. -/
def _root_.Go.Proofs.Ytioddambldnfnaa.Rw.cnt : List UInt8 → Nat
  | [] => 0
  | c :: r => if 128 ≤ c.toNat then Rw.cnt r + 1 else 0
/-- The number in the first n + 1 bytes, by 128. -/
def _root_.Go.Proofs.Ytioddambldnfnaa.Rw.val : List UInt8 → Nat
  | [] => 0
  | c :: r => c.toNat % 128 + 128 * Rw.val r

theorem cnt_le : ∀ l : List UInt8, Rw.cnt l ≤ l.length
  | [] => Nat.le_refl _
  | c :: r => by unfold Rw.cnt; split <;> simp; exact cnt_le r

theorem cnt_big : ∀ (l : List UInt8) (i : Nat) (_ : i < Rw.cnt l) (h : i < l.length), 128 ≤ l[i].toNat
  | [], i, h, _ => by simp [Rw.cnt] at h
  | c :: r, i, h, h2 => by
    unfold Rw.cnt at h
    split at h
    · cases i with
      | zero => assumption
      | succ i => exact cnt_big r i (by omega) (by simpa using h2)
    · omega
theorem cnt_small : ∀ (l : List UInt8) (h : Rw.cnt l < l.length), ¬ 128 ≤ l[Rw.cnt l].toNat
  | [], h => by simp at h
  | c :: r, h => by
    by_cases hc : 128 ≤ c.toNat
    · have e : Rw.cnt (c :: r) = Rw.cnt r + 1 := by rw [Rw.cnt, if_pos hc]
      have h2 : Rw.cnt r < r.length := by rw [e] at h; simpa using h
      have := cnt_small r h2
      simp only [e, List.getElem_cons_succ]
      exact this
    · have e : Rw.cnt (c :: r) = 0 := by rw [Rw.cnt, if_neg hc]
      simp only [e, List.getElem_cons_zero]
      exact hc

/-- Reading from place i on, by what stands there. -/
theorem getK_cnt (f : Nat) : ∀ (i v : Nat) (l : List UInt8), Rw.getK f i v l =
    if f ≤ Rw.cnt l then (0, 0, 4) else if Rw.cnt l = l.length then (0, 0, 3)
    else if 0 < i + Rw.cnt l ∧ l.getD (Rw.cnt l) 0 = 0 then (0, 0, 4) else (v + Rw.val (l.take (Rw.cnt l + 1)) * 128 ^ i, i + Rw.cnt l + 1, 0) := by
  induction f with
  | zero => intro i v l; rw [if_pos (Nat.zero_le _)]; rfl
  | succ f ih =>
    intro i v l
    cases l with
    | nil => simp [Rw.getK, Rw.cnt]
    | cons c r =>
      rw [Rw.getK]
      by_cases hc : 128 ≤ c.toNat
      · have e : Rw.cnt (c :: r) = Rw.cnt r + 1 := by rw [Rw.cnt, if_pos hc]
        rw [if_pos hc, ih, e]
        simp only [List.length_cons, Nat.add_le_add_iff_right, Nat.add_right_cancel_iff, List.getD_cons_succ, List.take_succ_cons]
        by_cases h1 : f ≤ Rw.cnt r
        · rw [if_pos h1, if_pos h1]
        · rw [if_neg h1, if_neg h1]
          by_cases h2 : Rw.cnt r = r.length
          · rw [if_pos h2, if_pos h2]
          · rw [if_neg h2, if_neg h2]
            have e3 : (0 < i + 1 + Rw.cnt r ∧ r.getD (Rw.cnt r) 0 = 0) ↔ (0 < i + (Rw.cnt r + 1) ∧ r.getD (Rw.cnt r) 0 = 0) := by constructor <;> rintro ⟨a, b⟩ <;> exact ⟨by omega, b⟩
            by_cases h3 : 0 < i + 1 + Rw.cnt r ∧ r.getD (Rw.cnt r) 0 = 0
            · rw [if_pos h3, if_pos (e3.1 h3)]
            · rw [if_neg h3, if_neg (fun h => h3 (e3.2 h))]
              have e4 : v + c.toNat % 128 * 128 ^ i + Rw.val (r.take (Rw.cnt r + 1)) * 128 ^ (i + 1) = v + Rw.val (c :: r.take (Rw.cnt r + 1)) * 128 ^ i := by
                rw [Rw.val, Nat.pow_succ, Nat.add_mul, Nat.add_assoc]
                congr 2
                rw [Nat.mul_comm (128 ^ i) 128, ← Nat.mul_assoc, Nat.mul_comm (Rw.val _) 128]
              rw [e4]
              congr 2
              omega
      · have e : Rw.cnt (c :: r) = 0 := by rw [Rw.cnt, if_neg hc]
        rw [if_neg hc, e]
        rw [if_neg (show ¬ f + 1 ≤ 0 by omega), if_neg (show ¬ 0 = (c :: r).length by simp)]
        simp only [Nat.add_zero, List.getD_cons_zero]
        by_cases h3 : 0 < i ∧ c = 0
        · rw [if_pos h3, if_pos h3]
        · rw [if_neg h3, if_neg h3]
          simp [Rw.val]

theorem val_lt : ∀ l : List UInt8, Rw.val l < 128 ^ l.length
  | [] => by decide
  | c :: r => by
    have := val_lt r
    rw [Rw.val, List.length_cons, Nat.pow_succ]
    omega

theorem val_snoc (l : List UInt8) (c : UInt8) : Rw.val (l ++ [c]) = Rw.val l + 128 ^ l.length * (c.toNat % 128) := by
  induction l with
  | nil => simp [Rw.val]
  | cons h t ih =>
    rw [List.cons_append, Rw.val, Rw.val, ih, List.length_cons, Nat.pow_succ, Nat.mul_add, Nat.add_assoc, ← Nat.mul_assoc 128, Nat.mul_comm 128 (128 ^ t.length)]

theorem put_val (c : UInt8) (hc : c.toNat < 128) : ∀ (hs : List UInt8) (k : Nat), hs.length ≤ k → (∀ x ∈ hs, 128 ≤ x.toNat) → (hs = [] ∨ c ≠ 0) → Rw.putK k (Rw.val (hs ++ [c])) = hs ++ [c]
  | [], k, _, _, _ => by
    have e : Rw.val [c] = c.toNat := by simp [Rw.val]; omega
    rw [List.nil_append, e, Rw.putK_small k hc]
    simp
  | h :: t, k, hk, hb, h0 => by
    obtain ⟨g, rfl⟩ : ∃ g, k = g + 1 := ⟨k - 1, by simp at hk; omega⟩
    have hc0 : c ≠ 0 := by
      rcases h0 with h0 | h0
      · cases h0
      · exact h0
    have hc1 : 1 ≤ c.toNat := by
      rcases Nat.eq_zero_or_pos c.toNat with h1 | h1
      · exact absurd (UInt8.toNat.inj h1) hc0
      · exact h1
    have hh := hb h (List.mem_cons_self ..)
    have hh8 := h.toNat_lt
    have hv : 1 ≤ Rw.val (t ++ [c]) := by
      rw [val_snoc, Nat.mod_eq_of_lt hc]
      have hp : 0 < 128 ^ t.length := Nat.pow_pos (by decide)
      have : 1 * 1 ≤ 128 ^ t.length * c.toNat := Nat.mul_le_mul hp hc1
      omega
    rw [List.cons_append, Rw.val, Rw.putK_big g (by omega), show (h.toNat % 128 + 128 * Rw.val (t ++ [c])) % 128 = h.toNat % 128 from by omega, show (h.toNat % 128 + 128 * Rw.val (t ++ [c])) / 128 = Rw.val (t ++ [c]) from by omega,
      put_val c hc t g (by simp at hk; omega) (fun x hx => hb x (List.mem_cons_of_mem _ hx)) (Or.inr hc0)]
    congr 1
    apply UInt8.toNat.inj
    rw [UInt8.toNat_ofNat']
    omega

theorem put_short (k : Nat) : ∀ (m v : Nat), 1 ≤ m → v < 128 ^ m → (Rw.putK k v).length ≤ m := by
  induction k with
  | zero => intro m v hm _; simpa [Rw.putK] using hm
  | succ k ih =>
    intro m v hm hv
    by_cases hs : v < 128
    · rw [Rw.putK_small _ hs]; simpa using hm
    · rw [Rw.putK_big _ (by omega), List.length_cons]
      obtain ⟨q, rfl⟩ : ∃ q, m = q + 1 := ⟨m - 1, by omega⟩
      cases q with
      | zero => rw [Nat.zero_add, Nat.pow_one] at hv; omega
      | succ q => have := ih (q + 1) (v / 128) (by omega) (by rw [Nat.pow_succ] at hv; omega); omega

/-- The test by PutVar: whether the bytes are the number's. -/
theorem put_test (l : List UInt8) (n : Nat) (hn : Rw.cnt l = n) (h8 : n ≤ 8) (hl : n < l.length) :
    (Rw.putF (Rw.val (l.take (n + 1))) = l.take (n + 1) ↔ ¬ (0 < n ∧ l.getD n 0 = 0)) ∧ Rw.val (l.take (n + 1)) < 128 ^ (n + 1) := by
  have ht : l.take (n + 1) = l.take n ++ [l[n]] := List.take_succ_eq_append_getElem hl
  have hg : l.getD n 0 = l[n] := by rw [List.getD_eq_getElem?_getD, List.getElem?_eq_getElem hl]; rfl
  have htl : (l.take n).length = n := by rw [List.length_take]; omega
  have hb : ∀ x ∈ l.take n, 128 ≤ x.toNat := by
    intro x hx
    obtain ⟨i, hi, rfl⟩ := List.mem_iff_getElem.1 hx
    rw [List.getElem_take]
    exact cnt_big l i (by rw [htl] at hi; omega) (by rw [htl] at hi; omega)
  have hc : l[n].toNat < 128 := by
    have := cnt_small l (by omega)
    simp only [hn] at this
    omega
  refine ⟨?_, ?_⟩
  · rw [hg, ht]
    constructor
    · rintro h ⟨h1, h2⟩
      have e : Rw.val (l.take n ++ [l[n]]) = Rw.val (l.take n) := by rw [val_snoc, h2]; simp
      have hlen := put_short 8 n (Rw.val (l.take n)) (by omega) (by have := val_lt (l.take n); rw [htl] at this; exact this)
      have h3 := congrArg List.length h
      rw [e] at h3
      unfold Rw.putF at h3
      rw [List.length_append, htl, List.length_singleton] at h3
      omega
    · intro h
      refine put_val _ hc (l.take n) 8 (by omega) hb ?_
      rcases Nat.eq_zero_or_pos n with h0 | h0
      · left; rw [h0]; rfl
      · right; intro e; exact h ⟨h0, e⟩
  · have := val_lt (l.take (n + 1))
    rw [List.length_take] at this
    rw [show min (n + 1) l.length = n + 1 from by omega] at this
    exact this

/-- What GetVar answers. -/
def gvAns (l : List UInt8) : Value := .tuple #[.int .i64 ((Rw.getF l).1 : Int), .int .i64 ((Rw.getF l).2.1 : Int), .int .i64 ((Rw.getF l).2.2 : Int)]
theorem gv_short {l : List UInt8} (h : Rw.cnt l = l.length) (h8 : Rw.cnt l ≤ 8) : gvAns l = .tuple #[.int .i64 0, .int .i64 0, .int .i64 3] := by
  unfold gvAns Rw.getF; rw [getK_cnt, if_neg (by omega), if_pos h]; rfl
theorem gv_long {l : List UInt8} (h8 : 8 < Rw.cnt l) : gvAns l = .tuple #[.int .i64 0, .int .i64 0, .int .i64 4] := by
  unfold gvAns Rw.getF; rw [getK_cnt, if_pos (by omega)]; rfl
theorem gv_form {l : List UInt8} (hl : Rw.cnt l < l.length) (h8 : Rw.cnt l ≤ 8) (h : 0 < Rw.cnt l ∧ l.getD (Rw.cnt l) 0 = 0) : gvAns l = .tuple #[.int .i64 0, .int .i64 0, .int .i64 4] := by
  unfold gvAns Rw.getF; rw [getK_cnt, if_neg (by omega), if_neg (by omega), if_pos (by rw [Nat.zero_add]; exact h)]; rfl
theorem gv_ok {l : List UInt8} (hl : Rw.cnt l < l.length) (h8 : Rw.cnt l ≤ 8) (h : ¬ (0 < Rw.cnt l ∧ l.getD (Rw.cnt l) 0 = 0)) : gvAns l = .tuple #[.int .i64 (Rw.val (l.take (Rw.cnt l + 1)) : Int), .int .i64 ((Rw.cnt l + 1 : Nat) : Int), .int .i64 0] := by
  unfold gvAns Rw.getF; rw [getK_cnt, if_neg (by omega), if_neg (by omega), if_neg (by rw [Nat.zero_add]; exact h)]
  simp

theorem cnt_ge : ∀ (l : List UInt8) (i : Nat), i ≤ l.length → (∀ j (_ : j < i) (h2 : j < l.length), 128 ≤ l[j].toNat) → i ≤ Rw.cnt l
  | _, 0, _, _ => Nat.zero_le _
  | [], i + 1, h, _ => by simp at h
  | c :: r, i + 1, h, hb => by
    have hc := hb 0 (by omega) (by simp)
    simp only [List.getElem_cons_zero] at hc
    rw [Rw.cnt, if_pos hc]
    have := cnt_ge r i (by simpa using h) (fun j h1 h2 => by have := hb (j + 1) (by omega) (by simpa using h2); simpa using this)
    omega
theorem cnt_eq {l : List UInt8} {i : Nat} (hi : i ≤ l.length) (hb : ∀ j (_ : j < i) (h2 : j < l.length), 128 ≤ l[j].toNat) (hs : i = l.length ∨ ∃ h : i < l.length, ¬ 128 ≤ l[i].toNat) : Rw.cnt l = i := by
  have h1 := cnt_ge l i hi hb
  have h2 := cnt_le l
  rcases hs with h | ⟨h, h3⟩
  · omega
  · rcases Nat.lt_or_ge i (Rw.cnt l) with h4 | h4
    · exact absurd (cnt_big l i h4 h) h3
    · omega

set_option maxRecDepth 100000 in
set_option maxHeartbeats 1000000 in
theorem refgetvar_any (s : ByteArray) (w : World) (hs : s.size ≤ 140737488351232) :
    Calls Try.prog 20 #[.string s] w fun e w' => e = .returned (gvAns s.data.toList) ∧ Below w.heap.size w w' := by
  go_enter Try.func20, Try.ntmps20
  go_wp2
  go_loop [5] (fun y => ∃ i : Nat, i ≤ s.size ∧ y = .int .i64 (i : Int) ∧ ∀ j (_ : j < i) (h2 : j < s.data.toList.length), 128 ≤ (s.data.toList[j]).toNat) (fun y => s.size - (intOf y).toNat)
  case atStart => exact ⟨0, by omega, rfl, fun j h => by omega⟩
  case round =>
    obtain ⟨i, hi, rfl, hb⟩ := hrel
    have HB := Lib.hid hb
    clear hb
    have e1 : s.data.toList.length = s.size := rfl
    have E1 := Lib.hid e1
    clear e1
    by_cases hlt : i < s.size
    · by_cases hbig : 128 ≤ s[i].toNat
      · have t1 : decide ((128 : Int) ≤ (s[i].toNat : Int)) = true := by simp; omega
        go_wp2
        go_round
        case rel =>
          refine ⟨i + 1, by omega, by go_num, fun j h1 h2 => ?_⟩
          rcases Nat.lt_or_ge j i with h | h
          · exact HB.out j h h2
          · obtain rfl : j = i := by omega
            exact hbig
        case measure => simp [intOf]; omega
      · have hc : Rw.cnt s.data.toList = i := cnt_eq (by have := E1.out; omega) HB.out (Or.inr ⟨by have := E1.out; omega, hbig⟩)
        have t1 : decide ((128 : Int) ≤ (s[i].toNat : Int)) = false := by simp; omega
        have t2 : ((i : Int) == (s.size : Int)) = false := by rw [beq_eq_false_iff_ne]; omega
        have HC := Lib.hid hc
        clear hc hbig
        by_cases h8 : 8 < i
        · have HA : Hid (gvAns s.data.toList = .tuple #[.int .i64 0, .int .i64 0, .int .i64 4]) := gv_long (by rw [HC.out]; exact h8)
          have t3 : decide (8 < (i : Int)) = true := by simp; omega
          go_wp2
          go_ret3
          exact ⟨by rw [HA.out]; rfl, Below.refl _ _⟩
        · have t3 : decide (8 < (i : Int)) = false := by simp; omega
          obtain ⟨p1, p2⟩ := put_test s.data.toList i HC.out (by omega) (by have := E1.out; omega)
          have P1 := Lib.hid p1
          have P2 := Lib.hid p2
          clear p1 p2
          go_wp2
          go_loop [6, 7] (fun x y => ∃ (m : Nat) (z : Int), m ≤ i + 1 ∧ y = .int .i64 z ∧ z + 1 = m ∧ x = .int .i64 (Rw.val ((s.data.toList.take (i + 1)).drop m) : Int)) (fun _ y => (intOf y + 1).toNat)
          case atStart => exact ⟨i + 1, i, by omega, rfl, by omega, by rw [List.drop_eq_nil_of_le (by rw [List.length_take]; omega)]; rfl⟩
          case round =>
            obtain ⟨m, z, hm, rfl, hz, rfl⟩ := hrel
            have HZ := Lib.hid hz
            clear hz
            by_cases hz0 : 0 ≤ z
            · obtain ⟨q, rfl⟩ := Int.eq_ofNat_of_zero_le hz0
              obtain rfl : m = q + 1 := by have := HZ.out; omega
              have hqs : q < s.size := by omega
              have hdr : (s.data.toList.take (i + 1)).drop q = s[q] :: (s.data.toList.take (i + 1)).drop (q + 1) := by
                rw [List.drop_eq_getElem_cons (by rw [List.length_take]; have := E1.out; omega), List.getElem_take]; rfl
              have hvl := val_lt ((s.data.toList.take (i + 1)).drop (q + 1))
              have hvb : (Rw.val ((s.data.toList.take (i + 1)).drop (q + 1)) : Int) ≤ 72057594037927935 := by
                have h2 : 128 ^ ((s.data.toList.take (i + 1)).drop (q + 1)).length ≤ 128 ^ 8 := Nat.pow_le_pow_right (by decide) (by rw [List.length_drop, List.length_take]; omega)
                have h3 : (128 : Nat) ^ 8 = 72057594037927936 := by decide
                rw [h3] at h2
                omega
              have hc8 := s[q].toNat_lt
              have HD : Hid (Rw.val ((s.data.toList.take (i + 1)).drop q) = s[q].toNat % 128 + 128 * Rw.val ((s.data.toList.take (i + 1)).drop (q + 1))) := by unfold Hid; rw [hdr]; rfl
              clear hdr hvl hz0
              go_wp2
              go_round
              case rel => exact ⟨q, (q : Int) - 1, by omega, rfl, by omega, val_i (by have := HD.out; omega)⟩
              case measure => simp [intOf]
            · obtain rfl : m = 0 := by have := HZ.out; omega
              have HX : Hid ((s.data.toList.take (i + 1)).drop 0 = s.data.toList.take (i + 1)) := List.drop_zero
              obtain ⟨X, hX⟩ : ∃ X, X = Rw.val ((s.data.toList.take (i + 1)).drop 0) := ⟨_, rfl⟩
              have hXb : X < 9223372036854775808 := by
                have h := P2.out
                rw [hX, HX.out]
                have h2 : 128 ^ (i + 1) ≤ 128 ^ 9 := Nat.pow_le_pow_right (by decide) (by omega)
                have h3 : (128 : Nat) ^ 9 = 9223372036854775808 := by decide
                rw [h3] at h2
                omega
              have HXE := Lib.hid hX
              have HXB := Lib.hid hXb
              have hext : (s.extract 0 (i + 1)).toList = s.data.toList.take (i + 1) := by
                rw [ByteArray.toList_eq, ByteArray.data_extract, Array.toList_extract]
                simp
              have HEXT := Lib.hid hext
              clear hXb hext
              rw [← hX]
              clear hX
              by_cases hcan : 0 < i ∧ s.data.toList.getD i 0 = 0
              · have te : (Rw.putF X == (s.extract 0 (i + 1)).toList) = false := by
                  rw [beq_eq_false_iff_ne, HEXT.out, HXE.out, HX.out]
                  intro h
                  exact P1.out.1 h hcan
                have HA : Hid (gvAns s.data.toList = .tuple #[.int .i64 0, .int .i64 0, .int .i64 4]) := gv_form (by rw [HC.out]; have := E1.out; omega) (by rw [HC.out]; omega) (by rw [HC.out]; exact hcan)
                clear hcan
                go_wp2
                refine wp_region_held_lit (by kernel_rfl) (by kernel_rfl) ?_
                repeat (go_big_quiet_step ((go_at_call 25; with_reducible refine calls_held (refputvar_any X _ HXB.out))))
                refine wpQuiet_nil ?_
                intro _ hw'
                obtain ⟨hx, hw''⟩ := hw'
                subst hw''
                go_wp2
                go_ret3
                exact ⟨by rw [HA.out]; rfl, hx.ok⟩
              · have te : (Rw.putF X == (s.extract 0 (i + 1)).toList) = true := by
                  rw [beq_iff_eq, HEXT.out, HXE.out, HX.out]
                  exact P1.out.2 hcan
                have HA : Hid (gvAns s.data.toList = .tuple #[.int .i64 (X : Int), .int .i64 ((i + 1 : Nat) : Int), .int .i64 0]) := by
                  have h := gv_ok (l := s.data.toList) (by rw [HC.out]; have := E1.out; omega) (by rw [HC.out]; omega) (by rw [HC.out]; exact hcan)
                  rw [HC.out] at h
                  rw [HXE.out, HX.out]
                  exact h
                clear hcan
                go_wp2
                refine wp_region_held_lit (by kernel_rfl) (by kernel_rfl) ?_
                repeat (go_big_quiet_step ((go_at_call 25; with_reducible refine calls_held (refputvar_any X _ HXB.out))))
                refine wpQuiet_nil ?_
                intro _ hw'
                obtain ⟨hx, hw''⟩ := hw'
                subst hw''
                go_wp2
                go_ret3
                exact ⟨by rw [HA.out]; rfl, hx.ok⟩
    · obtain rfl : i = s.size := by omega
      have hc : Rw.cnt s.data.toList = s.size := cnt_eq (by have := E1.out; omega) HB.out (Or.inl E1.out.symm)
      have HC := Lib.hid hc
      have t2 : ((s.size : Int) == (s.size : Int)) = true := by simp
      clear hc
      by_cases h8 : 8 < s.size
      · have HA : Hid (gvAns s.data.toList = .tuple #[.int .i64 0, .int .i64 0, .int .i64 4]) := gv_long (by rw [HC.out]; exact h8)
        have t3 : decide ((s.size : Int) ≤ 8) = false := by simp; omega
        have t4 : decide (8 < (s.size : Int)) = true := by simp; omega
        go_wp2
        go_ret3
        exact ⟨by rw [HA.out]; rfl, Below.refl _ _⟩
      · have HA : Hid (gvAns s.data.toList = .tuple #[.int .i64 0, .int .i64 0, .int .i64 3]) := gv_short (by rw [HC.out]; exact E1.out.symm) (by rw [HC.out]; omega)
        have t3 : decide ((s.size : Int) ≤ 8) = true := by simp; omega
        go_wp2
        go_ret3
        exact ⟨by rw [HA.out]; rfl, Below.refl _ _⟩
end Go.Proofs.Ytioddambldnfnaa
