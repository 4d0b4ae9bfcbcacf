/-
  The walk of the law RawVars.
-/
import Derived.Test.YtioddambldnfnaaRawR
namespace Go.Proofs.Ytioddambldnfnaa
open Go.RowKit

theorem extract_end (s : ByteArray) (k : Nat) : (s.extract k s.size).data.toList = s.data.toList.drop k := by
  rw [ByteArray.data_extract, Array.toList_extract]
  simp
  rw [List.take_of_length_le (by simp)]
theorem extract_size (s : ByteArray) (k : Nat) : (s.extract k s.size).size ≤ s.size := by
  have h := extract_end s k
  have : (s.extract k s.size).size = (s.extract k s.size).data.toList.length := rfl
  rw [this, h, List.length_drop]
  have : s.size = s.data.toList.length := rfl
  omega

/-- A slice of ints that came in reads as the list l. -/
def IntsAt (w : World) (a : Option Addr) (len : Nat) (l : List Int) : Prop :=
  l.length = len ∧ (len = 0 ∨ ∃ b off, a = some ⟨b, off, none⟩ ∧ b < w.heap.size ∧ ∀ i (hi : i < l.length), w.cell? ⟨b, off + i, none⟩ = some (.int .i64 l[i])) ∧ ∀ n ∈ l, (Lit.int .i64 n).wf = true

/-- The bytes of a list of numbers, one behind the other. -/
def _root_.Go.Proofs.Ytioddambldnfnaa.Rw.putAll (l : List Int) : List UInt8 := (l.map fun n => Rw.putF n.toNat).flatten
theorem _root_.Go.Proofs.Ytioddambldnfnaa.Rw.putAll_snoc (l : List Int) (n : Int) : Rw.putAll (l ++ [n]) = Rw.putAll l ++ Rw.putF n.toNat := by simp [Rw.putAll]
theorem _root_.Go.Proofs.Ytioddambldnfnaa.Rw.putAll_cons (l : List Int) (n : Int) : Rw.putAll (n :: l) = Rw.putF n.toNat ++ Rw.putAll l := by simp [Rw.putAll]
theorem _root_.Go.Proofs.Ytioddambldnfnaa.Rw.putAll_len (l : List Int) : (Rw.putAll l).length ≤ 9 * l.length := by
  induction l with
  | nil => simp [Rw.putAll]
  | cons n l ih =>
    have := (Rw.putK_len 8 n.toNat).2
    rw [Rw.putAll_cons, List.length_append, List.length_cons]
    have e : (Rw.putF n.toNat).length ≤ 9 := this
    omega

set_option maxRecDepth 100000 in
theorem vars_any (a : Option Addr) (len cap : Nat) (l : List Int) (w : World) (hl : IntsAt w a len l) (hlen : len ≤ maxLen) :
    Calls Try.prog 5 #[.slice a len cap] w fun e w' => e = .returned (.bool true) ∧ Below w.heap.size w w' := by
  unfold maxLen at hlen
  obtain ⟨hll, hcells, hwf⟩ := hl
  by_cases h200 : 200 < len
  · clear hcells hwf hll
    go_enter Try.func5, Try.ntmps5
    go_wp2_with fail
    refine (alive_any w).mono ?_
    rintro e w1 ⟨rfl, b1⟩
    go_wp2
    go_ret
    exact ⟨rfl, b1⟩
  · have HC := Lib.hid hcells
    have HLL := Lib.hid hll
    have HW : Hid (∀ n ∈ l, (Lit.int .i64 n).wf = true) := hwf
    have h2 : len ≤ 200 := by omega
    clear hcells hll hwf h200
    go_enter Try.func5, Try.ntmps5
    go_wp2
    go_loopw [3, 4] (fun x y wr => ∃ (i : Nat) (S : ByteArray), i ≤ len ∧ x = .string S ∧ y = .int .i64 (i : Int) ∧ S.data.toList = Rw.putAll (l.take i) ∧ (∀ n ∈ l.take i, 0 ≤ n) ∧ S.size ≤ 9 * i ∧ Below w.heap.size w wr)
      (fun _ y _ => len - (intOf y).toNat)
    case atStart => exact ⟨0, _, by omega, rfl, rfl, rfl, by simp, Nat.le_refl _, Below.refl _ _⟩
    case round =>
      obtain ⟨i, S, hi, rfl, rfl, hS, hpos, hsz, hbel⟩ := hrel
      have HS := Lib.hid hS
      have HP := Lib.hid hpos
      clear hS hpos
      by_cases hlt : i < len
      · obtain ⟨b, off, rfl, hb, hc⟩ : ∃ b off, a = some ⟨b, off, none⟩ ∧ b < w.heap.size ∧ ∀ i (hi : i < l.length), w.cell? ⟨b, off + i, none⟩ = some (.int .i64 l[i]) := by
          rcases HC.out with h | h
          · omega
          · exact h
        have hil : i < l.length := by have := HLL.out; omega
        have hci := (hbel.cell (p := ⟨b, off + i, none⟩) hb).trans (hc i hil)
        obtain ⟨n, hn⟩ : ∃ n, l[i] = n := ⟨_, rfl⟩
        have htk : l.take (i + 1) = l.take i ++ [n] := by rw [List.take_succ_eq_append_getElem hil, hn]
        have hnw := HW.out n (by rw [← hn]; exact List.getElem_mem hil)
        rw [hn] at hci
        have HTK := Lib.hid htk
        obtain ⟨nb0, nb1⟩ := i64_bounds hnw
        clear hc htk hn hnw
        by_cases hneg : n < 0
        · clear nb0 nb1
          go_wp2_with fail
          refine (alive_any wr).mono ?_
          rintro e w1 ⟨rfl, b1⟩
          go_wp2
          go_ret
          exact ⟨rfl, hbel.trans (b1.mono hbel.size)⟩
        · obtain ⟨u, rfl⟩ := Int.eq_ofNat_of_zero_le (show 0 ≤ n by omega)
          have HU : Hid (u < 9223372036854775808) := by unfold Hid; omega
          clear nb0 nb1
          go_wp2_with fail
          refine (putvar_any u wr HU.out).mono ?_
          rintro e w1 ⟨rfl, b1⟩
          have hul : (Rw.putF u).length ≤ 9 := (Rw.putK_len 8 u).2
          have hno : ¬ 9223372036854775807 < S.size + (Rw.putF u).length := by omega
          go_wp2
          go_roundw
          case rel =>
            refine ⟨i + 1, _, by omega, rfl, by go_num, ?_, ?_, ?_, hbel.trans (b1.mono hbel.size)⟩
            · rw [HTK.out, Rw.putAll_snoc, ← HS.out]; simp
            · rw [HTK.out]
              intro n hn
              rcases List.mem_append.1 hn with h | h
              · exact HP.out n h
              · simp at h; omega
            · rw [ByteArray.size_append]
              have : (ByteArray.mk (Rw.putF u).toArray).size = (Rw.putF u).length := rfl
              omega
          case measure => simp [intOf]; omega
      · obtain rfl : i = len := by omega
        have HT : Hid (l.take i = l) := by unfold Hid; rw [List.take_of_length_le (by have := HLL.out; omega)]
        go_wp2
        go_loopw [3, 5] (fun x y wr => ∃ (j : Nat) (S : ByteArray), j ≤ i ∧ x = .string S ∧ y = .int .i64 (j : Int) ∧ S.data.toList = Rw.putAll (l.drop j) ∧ S.size ≤ 9 * i ∧ Below w.heap.size w wr)
          (fun _ y _ => i - (intOf y).toNat)
        case atStart => exact ⟨0, S, by omega, rfl, rfl, by rw [HS.out, HT.out]; rfl, hsz, hbel⟩
        case round =>
          clear hsz
          obtain ⟨j, S2, hj, rfl, rfl, hS2, hsz2, hbel2⟩ := hrel
          have HS2 := Lib.hid hS2
          clear hS2
          by_cases hlt2 : j < i
          · obtain ⟨b, off, rfl, hb, hc⟩ : ∃ b off, a = some ⟨b, off, none⟩ ∧ b < w.heap.size ∧ ∀ i (hi : i < l.length), w.cell? ⟨b, off + i, none⟩ = some (.int .i64 l[i]) := by
              rcases HC.out with h | h
              · omega
              · exact h
            have hil : j < l.length := by have := HLL.out; omega
            obtain ⟨n, hn⟩ : ∃ n, l[j] = n := ⟨_, rfl⟩
            have hmem : n ∈ l := by rw [← hn]; exact List.getElem_mem hil
            have hnw := HW.out n hmem
            have hn0 : 0 ≤ n := by have := HP.out; rw [HT.out] at this; exact this n hmem
            have hdr : l.drop j = n :: l.drop (j + 1) := by rw [List.drop_eq_getElem_cons hil, hn]
            obtain ⟨nb0, nb1⟩ := i64_bounds hnw
            obtain ⟨u, rfl⟩ := Int.eq_ofNat_of_zero_le hn0
            have HU : Hid (u < 9223372036854775808) := by unfold Hid; omega
            have hS3 : S2.data.toList = Rw.putF u ++ Rw.putAll (l.drop (j + 1)) := by rw [HS2.out, hdr, Rw.putAll_cons]; rfl
            have hget : Rw.getF S2.data.toList = (u, (Rw.putF u).length, 0) := by rw [hS3]; exact Rw.getF_put u HU.out _
            have HS3 := Lib.hid hS3
            have hul : 1 ≤ (Rw.putF u).length ∧ (Rw.putF u).length ≤ 9 := Rw.putK_len 8 u
            have hfit : (Rw.putF u).length ≤ S2.size := by
              have : S2.size = S2.data.toList.length := rfl
              rw [this, hS3, List.length_append]; omega
            have hge1 : decide ((((Rw.putF u).length : Nat) : Int) < 1) = false := by simp; omega
            have hle : decide ((S2.size : Int) < (((Rw.putF u).length : Nat) : Int)) = false := by simp; omega
            have Hcall : ∀ W, Calls Try.prog 16 #[.string S2] W fun e w' => e = .returned (.tuple #[.int .i64 (u : Int), .int .i64 ((Rw.putF u).length : Int), .int .i64 0]) ∧ Below W.heap.size W w' := fun W => by
              have h := getvar_any S2 W (by unfold maxLen; omega)
              rw [hget] at h
              exact h
            have HCALL := Lib.hid Hcall
            have hcj := (hc j hil)
            rw [hn] at hcj
            have HCJ := Lib.hid hcj
            clear hc hcj hdr hn hnw hS3 hget hul Hcall hmem nb0 nb1
            go_wp2_with fail
            refine (HCALL.out _).mono ?_
            rintro e w1 ⟨rfl, b1⟩
            have hbel3 := hbel2.trans (b1.mono hbel2.size)
            have hcj1 : w1.cell? ⟨b, off + j, none⟩ = some (.int .i64 (u : Int)) := (hbel3.cell (p := ⟨b, off + j, none⟩) hb).trans HCJ.out
            go_wp2
            go_roundw
            case rel =>
              refine ⟨j + 1, _, by omega, rfl, by go_num, ?_, ?_, hbel3⟩
              · show (S2.extract (Rw.putF u).length S2.size).data.toList = _
                rw [extract_end, HS3.out, List.drop_left]
              · show (S2.extract (Rw.putF u).length S2.size).size ≤ _
                have := extract_size S2 (Rw.putF u).length
                omega
            case measure => simp [intOf]; omega
          · obtain rfl : j = i := by omega
            have hemp : S2.toList = [] := by
              rw [ByteArray.toList_eq, HS2.out, List.drop_eq_nil_of_le (by have := HLL.out; omega)]; rfl
            go_wp2_with fail
            refine (alive_any _).mono ?_
            rintro e w1 ⟨rfl, b1⟩
            go_wp2
            go_ret
            exact ⟨rfl, hbel2.trans (b1.mono hbel2.size)⟩
theorem vars_law (a : Option Addr) (len cap : Nat) (l : List Int) {W : World} (hl : IntsAt W a len l) (hlen : len ≤ maxLen) (w : World) (h : W = w) :
    Calls Try.prog 5 #[.slice a len cap] w fun e w' => e = .returned (.bool true) ∧ Below w.heap.size w w' := vars_any a len cap l w (h ▸ hl) hlen
end Go.Proofs.Ytioddambldnfnaa
