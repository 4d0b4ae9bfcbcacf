/-
  The walk of the law RawQuoted.
-/
import Derived.Test.YtioddambldnfnaaRawS
import Derived.Test.YtioddambldnfnaaRawU
import Derived.Test.YtioddambldnfnaaRawY
import Derived.Test.YtioddambldnfnaaRawZ
namespace Go.Proofs.Ytioddambldnfnaa
open Go.RowKit

/-- A slice of texts that came in reads as the list l. -/
def StrsAt (w : World) (a : Option Addr) (len : Nat) (l : List ByteArray) : Prop :=
  l.length = len ∧ (len = 0 ∨ ∃ b off, a = some ⟨b, off, none⟩ ∧ b < w.heap.size ∧ ∀ i (hi : i < l.length), w.cell? ⟨b, off + i, none⟩ = some (.string l[i])) ∧ ∀ s ∈ l, s.size ≤ maxLen

theorem str_eta (b : ByteArray) : (⟨b.data.toList.toArray⟩ : ByteArray) = b := by cases b; rfl

def _root_.Go.Proofs.Ytioddambldnfnaa.Rw.quoteAll (l : List ByteArray) : List UInt8 := (l.map fun b => Rw.quoteF b.data.toList).flatten
theorem _root_.Go.Proofs.Ytioddambldnfnaa.Rw.quoteAll_snoc (l : List ByteArray) (b : ByteArray) : Rw.quoteAll (l ++ [b]) = Rw.quoteAll l ++ Rw.quoteF b.data.toList := by simp [Rw.quoteAll]
theorem _root_.Go.Proofs.Ytioddambldnfnaa.Rw.quoteAll_cons (l : List ByteArray) (b : ByteArray) : Rw.quoteAll (b :: l) = Rw.quoteF b.data.toList ++ Rw.quoteAll l := by simp [Rw.quoteAll]
theorem _root_.Go.Proofs.Ytioddambldnfnaa.Rw.quoteAll_range (l : List ByteArray) : ∀ x ∈ Rw.quoteAll l, 32 ≤ x.toNat ∧ x.toNat ≤ 126 := by
  intro x hx
  obtain ⟨y, hy, hxy⟩ := List.mem_flatten.1 hx
  obtain ⟨b, _, rfl⟩ := List.mem_map.1 hy
  exact Rw.quoteF_range _ x hxy
theorem quoteF_len (b : ByteArray) (h : b.size ≤ 300) : 2 ≤ (Rw.quoteF b.data.toList).length ∧ (Rw.quoteF b.data.toList).length ≤ 1202 := by
  have := Rw.quoteIn_len b.data.toList
  have e : b.data.toList.length = b.size := rfl
  simp only [Rw.quoteF, List.length_cons, List.length_append, List.length_nil]
  omega

/-- Unquote of a text in quotes and what stands behind it. -/
theorem unquote_back (S b : ByteArray) (more : List UInt8) (w : World) (hs : S.size ≤ 140737488351232) (h : S.data.toList = Rw.quoteF b.data.toList ++ more) :
    Calls Try.prog 27 #[.string S] w fun e w' => e = .returned (.tuple #[.string b, .int .i64 ((Rw.quoteF b.data.toList).length : Int), .int .i64 0]) ∧ Below w.heap.size w w' := by
  refine (unquote_any S w hs).mono fun e w' ⟨h1, h2⟩ => ⟨?_, h2⟩
  rw [h1]
  unfold unqAns
  rw [h, Rw.unqF_quote]

set_option maxRecDepth 100000 in
set_option maxHeartbeats 1000000 in
theorem quoted_any (a : Option Addr) (len cap : Nat) (l : List ByteArray) {W : World} (hl : StrsAt W a len l) (hlen : len ≤ maxLen) (w : World) (hWw : W = w) :
    Calls Try.prog 8 #[.slice a len cap] w fun e w' => e = .returned (.bool true) ∧ Below w.heap.size w w' := by
  subst hWw
  unfold maxLen at hlen
  obtain ⟨hll, hcells, hwf⟩ := hl
  generalize hw : W = w at *
  clear hw
  by_cases h60 : 60 < len
  · clear hcells hwf hll
    go_enter Try.func8, Try.ntmps8
    go_wp2_with fail
    refine (alive_any w).mono ?_
    rintro e w1 ⟨rfl, b1⟩
    go_wp2
    go_ret
    exact ⟨rfl, b1⟩
  · have HC := Lib.hid hcells
    have HLL := Lib.hid hll
    have HW : Hid (∀ s ∈ l, s.size ≤ maxLen) := hwf
    have h2 : len ≤ 60 := by omega
    clear hcells hll hwf h60
    go_enter Try.func8, Try.ntmps8
    go_wp2
    go_loopw [3, 4] (fun x y wr => ∃ (i : Nat) (S : ByteArray), i ≤ len ∧ x = .string S ∧ y = .int .i64 (i : Int) ∧ S.data.toList = Rw.quoteAll (l.take i) ∧ (∀ b ∈ l.take i, b.size ≤ 300) ∧ S.size ≤ 1202 * i ∧ Below w.heap.size w wr)
      (fun _ y _ => len - (intOf y).toNat)
    case atStart => exact ⟨0, _, by omega, rfl, rfl, rfl, by simp, Nat.le_refl _, Below.refl _ _⟩
    case round =>
      obtain ⟨i, S, hi, rfl, rfl, hS, hpos, hsz, hbel⟩ := hrel
      have HS := Lib.hid hS
      have HP := Lib.hid hpos
      clear hS hpos
      by_cases hlt : i < len
      · obtain ⟨b, off, rfl, hb, hc⟩ : ∃ b off, a = some ⟨b, off, none⟩ ∧ b < w.heap.size ∧ ∀ i (hi : i < l.length), w.cell? ⟨b, off + i, none⟩ = some (.string l[i]) := by
          rcases HC.out with h | h
          · omega
          · exact h
        have hil : i < l.length := by have := HLL.out; omega
        have hci := (hbel.cell (p := ⟨b, off + i, none⟩) hb).trans (hc i hil)
        obtain ⟨T, hT⟩ : ∃ T, l[i] = T := ⟨_, rfl⟩
        have htk : l.take (i + 1) = l.take i ++ [T] := by rw [List.take_succ_eq_append_getElem hil, hT]
        have hTm := HW.out T (by rw [← hT]; exact List.getElem_mem hil)
        unfold maxLen at hTm
        rw [hT] at hci
        have HTK := Lib.hid htk
        clear hc htk hT
        by_cases hbig : 300 < T.size
        · go_wp2_with fail
          refine (alive_any wr).mono ?_
          rintro e w1 ⟨rfl, b1⟩
          go_wp2
          go_ret
          exact ⟨rfl, hbel.trans (b1.mono hbel.size)⟩
        · have ht3 : T.size ≤ 300 := by omega
          have hul := quoteF_len T ht3
          go_wp2_with fail
          refine (quote_any T wr (by omega)).mono ?_
          rintro e w1 ⟨rfl, b1⟩
          have hno : ¬ 9223372036854775807 < S.size + (Rw.quoteF T.data.toList).length := by omega
          go_wp2
          go_roundw
          case rel =>
            refine ⟨i + 1, _, by omega, rfl, by go_num, ?_, ?_, ?_, hbel.trans (b1.mono hbel.size)⟩
            · rw [HTK.out, Rw.quoteAll_snoc, ← HS.out]; simp
            · rw [HTK.out]
              intro n hn
              rcases List.mem_append.1 hn with h | h
              · exact HP.out n h
              · rw [List.mem_singleton] at h; subst h; exact ht3
            · rw [ByteArray.size_append]
              have : (ByteArray.mk (Rw.quoteF T.data.toList).toArray).size = (Rw.quoteF T.data.toList).length := rfl
              omega
          case measure => simp [intOf]; omega
      · obtain rfl : i = len := by omega
        have HT : Hid (l.take i = l) := by unfold Hid; rw [List.take_of_length_le (by have := HLL.out; omega)]
        have HR : Hid (∀ (k : Nat) (hk : k < S.size), 32 ≤ S[k].toNat ∧ S[k].toNat ≤ 126) := by
          intro k hk
          refine Rw.quoteAll_range (l.take i) S[k] ?_
          rw [← HS.out]
          exact List.getElem_mem (l := S.data.toList) (by simpa using hk)
        go_wp2
        go_loop [5] (fun y => ∃ k : Nat, k ≤ S.size ∧ y = .int .i64 (k : Int)) (fun y => S.size - (intOf y).toNat)
        case atStart => exact ⟨0, by omega, rfl⟩
        case round =>
          obtain ⟨k, hk, rfl⟩ := hrel
          by_cases hkl : k < S.size
          · have hr := HR.out k hkl
            have t1 : decide ((S[k].toNat : Int) < 32) = false := by simp; omega
            have t2 : decide ((126 : Int) < (S[k].toNat : Int)) = false := by simp; omega
            clear hr
            go_wp2
            go_round
            case rel => exact ⟨k + 1, by omega, by go_num⟩
            case measure => simp [intOf]; omega
          · go_wp2
            go_loopw [3, 6] (fun x y wr => ∃ (j : Nat) (S : ByteArray), j ≤ i ∧ x = .string S ∧ y = .int .i64 (j : Int) ∧ S.data.toList = Rw.quoteAll (l.drop j) ∧ S.size ≤ 1202 * i ∧ Below w.heap.size w wr)
              (fun _ y _ => i - (intOf y).toNat)
            case atStart => exact ⟨0, S, by omega, rfl, rfl, by rw [HS.out, HT.out]; rfl, hsz, hbel⟩
            case round =>
              clear hsz
              obtain ⟨j, S2, hj, rfl, rfl, hS2, hsz2, hbel2⟩ := hrel
              have HS2 := Lib.hid hS2
              clear hS2
              by_cases hlt2 : j < i
              · obtain ⟨b, off, rfl, hb, hc⟩ : ∃ b off, a = some ⟨b, off, none⟩ ∧ b < w.heap.size ∧ ∀ i (hi : i < l.length), w.cell? ⟨b, off + i, none⟩ = some (.string l[i]) := by
                  rcases HC.out with h | h
                  · omega
                  · exact h
                have hil : j < l.length := by have := HLL.out; omega
                obtain ⟨T, hT⟩ : ∃ T, l[j] = T := ⟨_, rfl⟩
                have hmem : T ∈ l := by rw [← hT]; exact List.getElem_mem hil
                have ht3 : T.size ≤ 300 := by have := HP.out; rw [HT.out] at this; exact this T hmem
                have hdr : l.drop j = T :: l.drop (j + 1) := by rw [List.drop_eq_getElem_cons hil, hT]
                have hS3 : S2.data.toList = Rw.quoteF T.data.toList ++ Rw.quoteAll (l.drop (j + 1)) := by rw [HS2.out, hdr, Rw.quoteAll_cons]
                have HS3 := Lib.hid hS3
                have hul := quoteF_len T ht3
                have hfit : (Rw.quoteF T.data.toList).length ≤ S2.size := by
                  have : S2.size = S2.data.toList.length := rfl
                  rw [this, hS3, List.length_append]; omega
                have hge1 : decide ((((Rw.quoteF T.data.toList).length : Nat) : Int) < 2) = false := by simp; omega
                have hle : decide ((S2.size : Int) < (((Rw.quoteF T.data.toList).length : Nat) : Int)) = false := by simp; omega
                have hcj := (hc j hil)
                rw [hT] at hcj
                have HCJ := Lib.hid hcj
                clear hc hcj hdr hT hS3 hul hmem ht3
                go_wp2_with fail
                refine (unquote_back S2 T _ _ (by omega) HS3.out).mono ?_
                rintro e w1 ⟨rfl, b1⟩
                have hbel3 := hbel2.trans (b1.mono hbel2.size)
                have hcj1 : w1.cell? ⟨b, off + j, none⟩ = some (.string T) := (hbel3.cell (p := ⟨b, off + j, none⟩) hb).trans HCJ.out
                go_wp2
                go_roundw
                case rel =>
                  refine ⟨j + 1, _, by omega, rfl, by go_num, ?_, ?_, hbel3⟩
                  · show (S2.extract (Rw.quoteF T.data.toList).length S2.size).data.toList = _
                    rw [extract_end, HS3.out, List.drop_left]
                  · show (S2.extract (Rw.quoteF T.data.toList).length S2.size).size ≤ _
                    have := extract_size S2 (Rw.quoteF T.data.toList).length
                    omega
                case measure => simp [intOf]; omega
              · obtain rfl : j = i := by omega
                have hemp : S2.toList = [] := by
                  rw [ByteArray.toList_eq, HS2.out, List.drop_eq_nil_of_le (by have := HLL.out; omega)]; rfl
                go_wp2_with fail
                refine (alive_any _).mono ?_
                rintro e w1 ⟨rfl, b1⟩
                go_wp2
                go_ret
                exact ⟨rfl, hbel2.trans (b1.mono hbel2.size)⟩
end Go.Proofs.Ytioddambldnfnaa
