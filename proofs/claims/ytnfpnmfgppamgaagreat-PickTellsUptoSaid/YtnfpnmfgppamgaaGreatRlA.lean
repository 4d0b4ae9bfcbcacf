/-
  The document's files: Compare, count, Bytes, Overlap.
-/
import Derived.Test.YtnfpnmfgppamgaaGreatPkE
import Derived.Deep.CutBlock
namespace Go.Proofs.YtnfpnmfgppamgaaGreat
open Go.RowKit

theorem cmp_drop (a b : ByteArray) (i : Nat) (ha : i < a.size) (hb : i < b.size) :
    Lib.compareBytes (a.data.toList.drop i) (b.data.toList.drop i) = if a[i] < b[i] then -1 else if b[i] < a[i] then 1 else Lib.compareBytes (a.data.toList.drop (i + 1)) (b.data.toList.drop (i + 1)) := by
  rw [List.drop_eq_getElem_cons (show i < a.data.toList.length by simpa using ha), List.drop_eq_getElem_cons (show i < b.data.toList.length by simpa using hb)]
  rfl

set_option maxRecDepth 100000 in
theorem refcompare_any (a b : ByteArray) (w : World) (ha : a.size ≤ maxLen) (hb : b.size ≤ maxLen) :
    Calls Tryz.prog 27 #[.string a, .string b] w fun e w' => e = .returned (.int .i64 (Lib.compareBytes a.data.toList b.data.toList)) ∧ Below w.heap.size w w' := by
  unfold maxLen at ha hb
  go_enter Tryz.func27, Tryz.ntmps27
  go_wp2
  go_loopw [5] (fun x wr => ∃ i : Nat, i ≤ a.size ∧ i ≤ b.size ∧ x = .int .i64 (i : Int) ∧ Lib.compareBytes (a.data.toList.drop i) (b.data.toList.drop i) = Lib.compareBytes a.data.toList b.data.toList ∧ Below w.heap.size w wr)
    (fun x _ => a.size - (intOf x).toNat)
  case atStart => exact ⟨0, by omega, by omega, rfl, by simp, Below.refl _ _⟩
  case round =>
    obtain ⟨i, hia, hib, rfl, hcmp, hbel⟩ := hrel
    have HC := Lib.hid hcmp
    clear hcmp
    by_cases h1 : i < a.size
    · by_cases h2 : i < b.size
      · have HD := Lib.hid (cmp_drop a b i h1 h2)
        have e1 : (a[i] < b[i]) ↔ a[i].toNat < b[i].toNat := UInt8.lt_iff_toNat_lt
        have e2 : (b[i] < a[i]) ↔ b[i].toNat < a[i].toNat := UInt8.lt_iff_toNat_lt
        have HE1 := Lib.hid e1
        have HE2 := Lib.hid e2
        clear e1 e2
        by_cases c1 : a[i].toNat < b[i].toNat
        · have t1 : decide ((a[i].toNat : Int) < (b[i].toNat : Int)) = true := by simp; omega
          have t1n : decide (a[i].toNat < b[i].toNat) = true := by simp; omega
          have HA : Hid (Lib.compareBytes a.data.toList b.data.toList = -1) := by have := HD.out; rw [HC.out, if_pos (HE1.out.2 c1)] at this; exact this
          clear c1
          go_wp2
          go_quiet (fail)
          go_wp2
          go_ret
          exact ⟨ret_i HA.out.symm, below_drewN hbel _⟩
        · have t1 : decide ((a[i].toNat : Int) < (b[i].toNat : Int)) = false := by simp; omega
          have t1n : decide (a[i].toNat < b[i].toNat) = false := by simp; omega
          by_cases c2 : b[i].toNat < a[i].toNat
          · have t2 : decide ((b[i].toNat : Int) < (a[i].toNat : Int)) = true := by simp; omega
            have t2n : decide (b[i].toNat < a[i].toNat) = true := by simp; omega
            have HA : Hid (Lib.compareBytes a.data.toList b.data.toList = 1) := by have := HD.out; rw [HC.out, if_neg (fun h => c1 (HE1.out.1 h)), if_pos (HE2.out.2 c2)] at this; exact this
            clear c1 c2
            go_wp2
            go_quiet (fail)
            go_wp2
            go_quiet (fail)
            go_wp2
            go_ret
            exact ⟨ret_i HA.out.symm, by first | exact below_drewN hbel _ | exact below_drewN (below_drewN hbel _) _⟩
          · have t2 : decide ((b[i].toNat : Int) < (a[i].toNat : Int)) = false := by simp; omega
            have t2n : decide (b[i].toNat < a[i].toNat) = false := by simp; omega
            have HA : Hid (Lib.compareBytes (a.data.toList.drop (i + 1)) (b.data.toList.drop (i + 1)) = Lib.compareBytes a.data.toList b.data.toList) := by
              have := HD.out; rw [HC.out, if_neg (fun h => c1 (HE1.out.1 h)), if_neg (fun h => c2 (HE2.out.1 h))] at this; exact this.symm
            clear c1 c2
            go_wp2
            go_quiet (fail)
            go_wp2
            go_quiet (fail)
            go_wp2
            go_roundw
            case rel => exact ⟨i + 1, by omega, by omega, by go_num, HA.out, by first | exact below_drewN hbel _ | exact below_drewN (below_drewN hbel _) _⟩
            case measure => simp [intOf]; omega
      · obtain rfl : i = b.size := by omega
        have HA : Hid (Lib.compareBytes a.data.toList b.data.toList = 1) := by
          have := HC.out
          rw [List.drop_eq_nil_of_le (show b.data.toList.length ≤ b.size by simp), List.drop_eq_getElem_cons (show b.size < a.data.toList.length by simpa using h1)] at this
          exact this.symm
        go_wp2
        go_ret
        exact ⟨ret_i HA.out.symm, hbel⟩
    · obtain rfl : i = a.size := by omega
      by_cases h2 : a.size < b.size
      · have HA : Hid (Lib.compareBytes a.data.toList b.data.toList = -1) := by
          have := HC.out
          rw [List.drop_eq_nil_of_le (show a.data.toList.length ≤ a.size by simp), List.drop_eq_getElem_cons (show a.size < b.data.toList.length by simpa using h2)] at this
          exact this.symm
        go_wp2
        go_ret
        exact ⟨ret_i HA.out.symm, hbel⟩
      · have HA : Hid (Lib.compareBytes a.data.toList b.data.toList = 0) := by
          have := HC.out
          rw [List.drop_eq_nil_of_le (show a.data.toList.length ≤ a.size by simp), List.drop_eq_nil_of_le (show b.data.toList.length ≤ a.size by simp; omega)] at this
          exact this.symm
        go_wp2
        go_ret
        exact ⟨ret_i HA.out.symm, hbel⟩

theorem ofL_len_snoc (L : List Fi) (i : Nat) (hi : i < L.length) (lv : Int) : (ofL (L.take (i + 1)) lv).length = (ofL (L.take i) lv).length + if L[i].lv = lv then 1 else 0 := by
  rw [ofL_snoc L i hi lv, List.length_append]
  split <;> rfl

set_option maxHeartbeats 400000 in
theorem rcount_any {w : World} {a : Option Addr} {L : List Fi} (hL : FilesAt w a L) (cap : Nat) (hlen : L.length ≤ 1000000) (lv : Int) :
    Calls Tryz.prog 26 #[.slice a L.length cap, .int .i64 lv] w fun e w' => e = .returned (.int .i64 ((ofL L lv).length : Int)) ∧ w = w' := by
  obtain ⟨len, hl⟩ : ∃ len, len = L.length := ⟨_, rfl⟩
  rw [← hl] at hlen ⊢
  have HL := Lib.hid hL
  have HN := Lib.hid hl
  clear hL hl
  go_enter Tryz.func26, Tryz.ntmps26
  go_wp2
  go_loop [5, 6] (fun n y => ∃ i c : Nat, i ≤ len ∧ y = .int .i64 (i : Int) ∧ n = .int .i64 (c : Int) ∧ c = (ofL (L.take i) lv).length ∧ c ≤ i) (fun _ y => len - (intOf y).toNat)
  case atStart => exact ⟨0, 0, by omega, rfl, rfl, rfl, Nat.le_refl _⟩
  case round =>
    obtain ⟨i, c, hi, rfl, rfl, hc, hci⟩ := hrel
    have HC := Lib.hid hc
    clear hc
    by_cases hlt : i < len
    · have hil : i < L.length := by have := HN.out; omega
      obtain ⟨b, off, rfl, hb, hcs⟩ := HL.out.resolve_left (fun e => by rw [e] at hil; simp at hil)
      have hx := hcs i hil
      have hst := ofL_len_snoc L i hil lv
      obtain ⟨x, hxx⟩ : ∃ x, L[i] = x := ⟨_, rfl⟩
      rw [hxx] at hx hst
      have HST := Lib.hid hst
      obtain ⟨c0, -, -, -, -, -⟩ := hx
      have r1 : (i : Int) < (len : Int) := by omega
      clear hcs hxx hst
      by_cases he : x.lv = lv
      · have t1 : (x.lv == lv) = true := by simpa using he
        have HE := Lib.hid he
        clear he
        go_wp2
        go_round
        case rel => exact ⟨i + 1, c + 1, by omega, by go_num, by go_num, by rw [HST.out, if_pos HE.out, HC.out], by omega⟩
        case measure => simp [intOf]; omega
      · have t1 : (x.lv == lv) = false := by simpa using he
        have HE := Lib.hid he
        clear he
        go_wp2
        go_round
        case rel => exact ⟨i + 1, c, by omega, by go_num, rfl, by rw [HST.out, if_neg HE.out, HC.out]; rfl, by omega⟩
        case measure => simp [intOf]; omega
    · obtain rfl : i = len := by omega
      have hend : c = (ofL L lv).length := by rw [HC.out, List.take_of_length_le (by have := HN.out; omega)]
      have HE := Lib.hid hend
      clear hend
      go_wp2
      go_ret
      exact ⟨ret_i (by rw [HE.out]), rfl⟩

theorem fold_max (lv : Int) : ∀ (L : List Fi), L.foldl (addB lv) 2147483647 = 2147483647
  | [] => rfl
  | x :: L => by
    rw [List.foldl_cons]
    have e : addB lv 2147483647 x = 2147483647 := by unfold addB; split <;> omega
    rw [e]
    exact fold_max lv L
theorem bytes_full {L : List Fi} {lv : Int} {i : Nat} (hi : i ≤ L.length) (h : bytesOf (L.take i) lv = 2147483647) : bytesOf L lv = 2147483647 := by
  unfold bytesOf at *
  conv => lhs; rw [← List.take_append_drop i L]
  rw [List.foldl_append, h, fold_max]
set_option maxRecDepth 100000 in
set_option maxHeartbeats 400000 in
theorem rbytes_any {w : World} {a : Option Addr} {L : List Fi} (hL : FilesAt w a L) (hwf : ∀ x ∈ L, -9223372036854775808 ≤ x.sz ∧ x.sz ≤ 9223372036854775807) (cap : Nat) (hlen : L.length ≤ 1000000) (lv : Int) :
    Calls Tryz.prog 15 #[.slice a L.length cap, .int .i64 lv] w fun e w' => e = .returned (.int .i64 (bytesOf L lv)) ∧ w = w' := by
  obtain ⟨len, hl⟩ : ∃ len, len = L.length := ⟨_, rfl⟩
  rw [← hl] at hlen ⊢
  have HL := Lib.hid hL
  have HN := Lib.hid hl
  have HWF := Lib.hid hwf
  clear hL hl hwf
  go_enter Tryz.func15, Tryz.ntmps15
  go_wp2
  go_loop [5, 6] (fun n y => ∃ (i : Nat) (c : Int), i ≤ len ∧ y = .int .i64 (i : Int) ∧ n = .int .i64 c ∧ c = bytesOf (L.take i) lv ∧ 0 ≤ c ∧ c ≤ 2147483647) (fun _ y => len - (intOf y).toNat)
  case atStart => exact ⟨0, 0, by omega, rfl, rfl, rfl, by omega, by omega⟩
  case round =>
    obtain ⟨i, c, hi, rfl, rfl, hc, hc0, hc1⟩ := hrel
    have HC := Lib.hid hc
    clear hc
    by_cases hlt : i < len
    · have hil : i < L.length := by have := HN.out; omega
      obtain ⟨b, off, rfl, hb, hcs⟩ := HL.out.resolve_left (fun e => by rw [e] at hil; simp at hil)
      have hx := hcs i hil
      have hst := bytesOf_snoc L i hil lv
      have hsz := HWF.out L[i] (List.getElem_mem hil)
      obtain ⟨x, hxx⟩ : ∃ x, L[i] = x := ⟨_, rfl⟩
      rw [hxx] at hx hst hsz
      rw [← HC.out] at hst
      have HST := Lib.hid hst
      obtain ⟨c0, -, -, c3, -, -⟩ := hx
      obtain ⟨sz, hszz⟩ : ∃ sz, x.sz = sz := ⟨_, rfl⟩
      rw [hszz] at c3 hsz
      have HSZ := Lib.hid hszz
      have r1 : (i : Int) < (len : Int) := by omega
      obtain ⟨hs0, hs1⟩ := hsz
      clear hcs hxx hst hszz
      by_cases he : x.lv = lv
      · have t1 : (x.lv == lv) = true := by simpa using he
        have HE := Lib.hid he
        clear he
        by_cases hp : 0 < sz
        · have t2 : decide (0 < sz) = true := by simpa using hp
          by_cases hf : 2147483647 - c < sz
          · have hful : bytesOf L lv = 2147483647 := bytes_full (i := i + 1) hil (by rw [HST.out]; unfold addB; rw [if_pos HE.out, HSZ.out]; omega)
            have HF := Lib.hid hful
            have t3 : decide (2147483647 - c < sz) = true := by simpa using hf
            clear hful
            go_wp2
            go_ret
            exact ⟨ret_i HF.out.symm, rfl⟩
          · have t3 : decide (2147483647 - c < sz) = false := by simpa using hf
            have hadd : addB lv c x = c + sz := by unfold addB; rw [if_pos HE.out, HSZ.out]; omega
            have HADD := Lib.hid hadd
            clear hadd
            go_wp2
            go_round
            case rel => exact ⟨i + 1, c + sz, by omega, by go_num, by go_num, by rw [HST.out, HADD.out], by omega, by omega⟩
            case measure => simp [intOf]; omega
        · have t2 : decide (0 < sz) = false := by simpa using hp
          have hadd : addB lv c x = c := by unfold addB; rw [if_pos HE.out, HSZ.out]; omega
          have HADD := Lib.hid hadd
          clear hadd
          go_wp2
          go_round
          case rel => exact ⟨i + 1, c, by omega, by go_num, rfl, by rw [HST.out, HADD.out], by omega, by omega⟩
          case measure => simp [intOf]; omega
      · have t1 : (x.lv == lv) = false := by simpa using he
        have hadd : addB lv c x = c := by unfold addB; rw [if_neg he]
        have HADD := Lib.hid hadd
        clear hadd he
        go_wp2
        go_round
        case rel => exact ⟨i + 1, c, by omega, by go_num, rfl, by rw [HST.out, HADD.out], by omega, by omega⟩
        case measure => simp [intOf]; omega
    · obtain rfl : i = len := by omega
      have hend : c = bytesOf L lv := by rw [HC.out, List.take_of_length_le (by have := HN.out; omega)]
      have HE := Lib.hid hend
      clear hend
      go_wp2
      go_ret
      exact ⟨ret_i HE.out, rfl⟩

theorem ovL_snoc (L : List Fi) (i : Nat) (hi : i < L.length) (lv : Int) (p q : ByteArray) : ovL (L.take (i + 1)) lv p q = ovL (L.take i) lv p q ++ (if L[i].lv = lv ∧ meets p q L[i] = true then [L[i].nu] else []) := by
  unfold ovL
  rw [ofL_snoc L i hi lv, List.filter_append, List.map_append]
  congr 1
  by_cases h : L[i].lv = lv
  · rw [if_pos h]
    by_cases h2 : meets p q L[i] = true
    · rw [if_pos ⟨h, h2⟩]; simp [h2]
    · rw [if_neg (fun e => h2 e.2)]; simp [h2]
  · rw [if_neg h, if_neg (fun e => h e.1)]; rfl
set_option maxRecDepth 100000 in
set_option maxHeartbeats 800000 in
theorem roverlap_any {w : World} {a : Option Addr} {L : List Fi} (hL : FilesAt w a L) (hwf : ∀ x ∈ L, x.f.size ≤ maxLen ∧ x.l.size ≤ maxLen) (cap : Nat) (hlen : L.length ≤ 100000) (lv : Int) (p q : ByteArray) (hp : p.size ≤ maxLen) (hq : q.size ≤ maxLen) :
    Calls Tryz.prog 13 #[.slice a L.length cap, .int .i64 lv, .string p, .string q] w fun e w' => ∃ a' cap', e = .returned (.slice a' (ovL L lv p q).length cap') ∧ Own eInt w' w.heap.size (.slice a' (ovL L lv p q).length cap') (ovL L lv p q) ∧ Below w.heap.size w w' := by
  obtain ⟨len, hl⟩ : ∃ len, len = L.length := ⟨_, rfl⟩
  rw [← hl] at hlen ⊢
  have HL := Lib.hid hL
  have HN := Lib.hid hl
  have HWF := Lib.hid hwf
  have HPQ := Lib.hid (And.intro hp hq)
  clear hL hl hwf hp hq
  go_enter Tryz.func13, Tryz.ntmps13
  go_wp2
  go_loopw [9, 10] (fun v y wr => ∃ i : Nat, i ≤ len ∧ y = .int .i64 (i : Int) ∧ Own eInt wr w.heap.size v (ovL (L.take i) lv p q) ∧ Below w.heap.size w wr) (fun _ y _ => len - (intOf y).toNat)
  case atStart => exact ⟨0, by omega, rfl, World.ownsRow_nil _ _ _ _, Below.refl _ _⟩
  case round =>
    obtain ⟨i, hi, rfl, hown, hbel⟩ := hrel
    have hKl : (ovL (L.take i) lv p q).length ≤ 100000 := Nat.le_trans (ovL_len _ _ _ _) (by rw [List.length_take]; omega)
    obtain ⟨av, capv, rfl, _, _⟩ := row_form hown
    obtain ⟨K, hK⟩ : ∃ K, K = ovL (L.take i) lv p q := ⟨_, rfl⟩
    rw [← hK] at hown hKl ⊢
    obtain ⟨n, hn⟩ : ∃ n, n = K.length := ⟨_, rfl⟩
    rw [← hn] at hown hKl ⊢
    have HO := Lib.hid hown
    have HB := Lib.hid hbel
    have HKN := Lib.hid (And.intro hK hn)
    clear hown hK hn
    by_cases hlt : i < len
    · have hil : i < L.length := by have := HN.out; omega
      obtain ⟨b, off, rfl, hb, hcs⟩ := HL.out.resolve_left (fun e => by rw [e] at hil; simp at hil)
      have hx := (hcs i hil).below hbel hb
      have hst := ovL_snoc L i hil lv p q
      have hsz := HWF.out L[i] (List.getElem_mem hil)
      obtain ⟨x, hxx⟩ : ∃ x, L[i] = x := ⟨_, rfl⟩
      rw [hxx] at hx hst hsz
      rw [← HKN.out.1] at hst
      have HST := Lib.hid hst
      obtain ⟨c0, c1, c2, c3, c4, c5⟩ := hx
      have r1 : (i : Int) < (len : Int) := by omega
      obtain ⟨W1, hW1⟩ : ∃ W1, wr.alloc (.cells #[.int .i64 x.lv, .int .i64 x.nu, .int .i64 x.ct, .int .i64 x.sz, .string x.f, .string x.l] 57) = W1 := ⟨_, rfl⟩
      have k0 : W1.cell? ⟨wr.heap.size, 0, none⟩ = some (.int .i64 x.lv) := by rw [← hW1]; simp [go_sem]
      have k1 : W1.cell? ⟨wr.heap.size, 1, none⟩ = some (.int .i64 x.nu) := by rw [← hW1]; simp [go_sem]
      have k4 : W1.cell? ⟨wr.heap.size, 4, none⟩ = some (.string x.f) := by rw [← hW1]; simp [go_sem]
      have k5 : W1.cell? ⟨wr.heap.size, 5, none⟩ = some (.string x.l) := by rw [← hW1]; simp [go_sem]
      have hb1 : Below w.heap.size w W1 := by rw [← hW1]; exact hbel.alloc hbel.size _
      have ho1 : Own eInt W1 w.heap.size (.slice av n capv) K := by rw [← hW1]; exact World.ownsRow.alloc HO.out _
      have HB1 := Lib.hid hb1
      have HO1 := Lib.hid ho1
      obtain ⟨m1, hm1⟩ : ∃ m1, kcmp x.f q = m1 := ⟨_, rfl⟩
      obtain ⟨m2, hm2⟩ : ∃ m2, kcmp x.l p = m2 := ⟨_, rfl⟩
      have hcall1 := fun W => refcompare_any x.f q W hsz.1 HPQ.out.2
      have hcall2 := fun W => refcompare_any x.l p W hsz.2 HPQ.out.1
      have e1 : Lib.compareBytes x.f.data.toList q.data.toList = m1 := hm1
      have e2 : Lib.compareBytes x.l.data.toList p.data.toList = m2 := hm2
      rw [e1] at hcall1
      rw [e2] at hcall2
      have HCALL1 := Lib.hid hcall1
      have HCALL2 := Lib.hid hcall2
      have HM := Lib.hid (And.intro hm1 hm2)
      obtain ⟨ob, hob⟩ : ∃ ob, ob = wr.heap.size := ⟨_, rfl⟩
      rw [← hob] at k0 k1 k4 k5
      have hobl : ob < W1.heap.size := World.block_lt_of_cell? _ _ k0
      clear hcs hxx hst hsz hb1 ho1 hcall1 hcall2 e1 e2 hm1 hm2
      go_upto_region 6 with fail
      clear hW1
      rw [← hob]
      clear hob c0 c1 c2 c3 c4 c5
      by_cases he : x.lv = lv
      · have t1 : (x.lv == lv) = true := by simpa using he
        have HE := Lib.hid he
        clear he
        by_cases q1 : m1 ≤ 0
        · have t2 : decide (m1 ≤ 0) = true := by simpa using q1
          by_cases q2 : 0 ≤ m2
          · have t3 : decide (0 ≤ m2) = true := by simpa using q2
            have hst2 : ovL (L.take (i + 1)) lv p q = K ++ [x.nu] := by rw [HST.out, if_pos ⟨HE.out, by unfold meets; rw [HM.out.1, HM.out.2]; simp [q1, q2]⟩]
            have HST2 := Lib.hid hst2
            clear hst2
            go_wp2_with (first
              | (go_at_call 27; with_reducible refine (HCALL1.out _).mono ?_; rintro _ w2 ⟨rfl, hb2⟩; have HB2 := Lib.hid (HB1.out.trans (hb2.mono HB1.out.size)); have HO2 := Lib.hid (row_below HO1.out hb2); have d5 := (hb2.cell (p := ⟨ob, 5, none⟩) hobl).trans k5; have d1 := (hb2.cell (p := ⟨ob, 1, none⟩) hobl).trans k1; have hob2 : ob < w2.heap.size := World.block_lt_of_cell? _ _ d5; clear hb2; simp only [])
              | (go_at_call 27; with_reducible refine (HCALL2.out _).mono ?_; rintro _ w3 ⟨rfl, hb3⟩; have HB3 := Lib.hid (HB2.out.trans (hb3.mono HB2.out.size)); have HO3 := Lib.hid (row_below HO2.out hb3); have e1 := (hb3.cell (p := ⟨ob, 1, none⟩) hob2).trans d1; clear hb3; simp only [])
              | (at_builtin; refine wpl_app eInt rfl _ _ rfl rfl rfl (l := K) (l2 := [x.nu]) (World.ownsRow.alloc HO3.out _) (src_one w3 x.nu _ _ rfl 1) (by rw [← HKN.out.2]; simp; omega) (by have := HB3.out.size; simp; omega) ?_; rw [← HKN.out.2]; intro a3 cap3 w4 ho4 hb4 _ _; have H4 := Lib.hid (And.intro ho4 ((HB3.out.alloc HB3.out.size _).trans hb4)); clear ho4 hb4))
            go_roundw
            case rel => exact ⟨i + 1, by omega, by go_num, by rw [HST2.out]; exact H4.out.1, H4.out.2⟩
            case measure => simp [intOf]; omega
          · have t3 : decide (0 ≤ m2) = false := by simpa using q2
            have hst2 : ovL (L.take (i + 1)) lv p q = K := by rw [HST.out, if_neg (fun e => by have := e.2; unfold meets at this; rw [HM.out.1, HM.out.2] at this; simp at this; omega), List.append_nil]
            have HST2 := Lib.hid hst2
            clear hst2
            go_wp2_with (first
              | (go_at_call 27; with_reducible refine (HCALL1.out _).mono ?_; rintro _ w2 ⟨rfl, hb2⟩; have HB2 := Lib.hid (HB1.out.trans (hb2.mono HB1.out.size)); have HO2 := Lib.hid (row_below HO1.out hb2); have d5 := (hb2.cell (p := ⟨ob, 5, none⟩) hobl).trans k5; clear hb2; simp only [])
              | (go_at_call 27; with_reducible refine (HCALL2.out _).mono ?_; rintro _ w3 ⟨rfl, hb3⟩; have HB3 := Lib.hid (HB2.out.trans (hb3.mono HB2.out.size)); have HO3 := Lib.hid (row_below HO2.out hb3); clear hb3; simp only []))
            go_roundw
            case rel => exact ⟨i + 1, by omega, by go_num, by rw [HST2.out]; exact HO3.out, HB3.out⟩
            case measure => simp [intOf]; omega
        · have t2 : decide (m1 ≤ 0) = false := by simpa using q1
          have hst2 : ovL (L.take (i + 1)) lv p q = K := by rw [HST.out, if_neg (fun e => by have := e.2; unfold meets at this; rw [HM.out.1, HM.out.2] at this; simp at this; omega), List.append_nil]
          have HST2 := Lib.hid hst2
          clear hst2
          go_wp2_with (go_at_call 27; with_reducible refine (HCALL1.out _).mono ?_; rintro _ w2 ⟨rfl, hb2⟩; have HB2 := Lib.hid (HB1.out.trans (hb2.mono HB1.out.size)); have HO2 := Lib.hid (row_below HO1.out hb2); clear hb2; simp only [])
          go_roundw
          case rel => exact ⟨i + 1, by omega, by go_num, by rw [HST2.out]; exact HO2.out, HB2.out⟩
          case measure => simp [intOf]; omega
      · have t1 : (x.lv == lv) = false := by simpa using he
        have hst2 : ovL (L.take (i + 1)) lv p q = K := by rw [HST.out, if_neg (fun e => he e.1), List.append_nil]
        have HST2 := Lib.hid hst2
        clear hst2 he
        go_wp2
        go_roundw
        case rel => exact ⟨i + 1, by omega, by go_num, by rw [HST2.out]; exact HO1.out, HB1.out⟩
        case measure => simp [intOf]; omega
    · obtain rfl : i = len := by omega
      have hend : K = ovL L lv p q := by rw [HKN.out.1, List.take_of_length_le (by have := HN.out; omega)]
      have hnn : n = (ovL L lv p q).length := by rw [← hend]; exact HKN.out.2
      rw [hend, hnn] at HO
      have HE := Lib.hid hnn
      clear hend hnn
      go_wp2
      go_ret
      rw [HE.out]
      exact ⟨av, capv, rfl, HO.out, HB.out⟩
end Go.Proofs.YtnfpnmfgppamgaaGreat
