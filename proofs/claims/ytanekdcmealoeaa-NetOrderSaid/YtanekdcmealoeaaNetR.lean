/-
  NetOrder answers true.
-/
import Derived.Test.YtanekdcmealoeaaNetQ
namespace Go.Proofs.Ytanekdcmealoeaa
open Go.RowKit Go.Maps

/-- A slice of texts that came in reads as the list l. -/
def StrsAt (w : World) (a : Option Addr) (len : Nat) (l : List ByteArray) : Prop :=
  l.length = len ∧ (len = 0 ∨ ∃ b off, a = some ⟨b, off, none⟩ ∧ b < w.heap.size ∧ ∀ i (hi : i < l.length), w.cell? ⟨b, off + i, none⟩ = some (.string l[i])) ∧ ∀ s ∈ l, s.size ≤ maxLen

def oMsg (l : List ByteArray) (j : Nat) : Msg := ⟨(j : Int) % 3, ((j : Int) + 1) % 3, l.getD j ⟨#[]⟩⟩
def oMsgs (l : List ByteArray) (i : Nat) : List Msg := (List.range i).map (oMsg l)
theorem oMsgs_len (l : List ByteArray) (i : Nat) : (oMsgs l i).length = i := by simp [oMsgs]
theorem oMsgs_succ (l : List ByteArray) (i : Nat) : oMsgs l (i + 1) = oMsgs l i ++ [oMsg l i] := by simp [oMsgs, List.range_succ]
theorem oMsgs_get (l : List ByteArray) (i j : Nat) (h : j < i) : (oMsgs l i)[j]? = some (oMsg l j) := by simp [oMsgs, h]

def oAt (l : List Msg) : St := ⟨3, l, c0, 0⟩
theorem o_way (l : List Msg) (i : Nat) : (oAt l).way ((i : Int) % 3) (((i : Int) + 1) % 3) = true := by
  have h1 : 0 ≤ (i : Int) % 3 := by omega
  have h2 : (i : Int) % 3 < 3 := by omega
  have h3 : 0 ≤ ((i : Int) + 1) % 3 := by omega
  have h4 : ((i : Int) + 1) % 3 < 3 := by omega
  have h5 : (i : Int) % 3 ≠ ((i : Int) + 1) % 3 := by omega
  simp [oAt, St.way, h1, h2, h3, h4, h5]
theorem o_send (l : List ByteArray) (i : Nat) (T : ByteArray) (hi : i < 400) (hT : l.getD i ⟨#[]⟩ = T) (hs : T.size ≤ 300) :
    (oAt (oMsgs l i)).sendE ((i : Int) % 3) (((i : Int) + 1) % 3) T = 0 ∧ (oAt (oMsgs l i)).send ((i : Int) % 3) (((i : Int) + 1) % 3) T = oAt (oMsgs l (i + 1)) := by
  constructor
  · rw [St.sendE, if_neg (by rw [o_way]; decide), if_neg (by omega)]
  · rw [St.send, if_neg (by rw [o_way]; decide), if_neg (by omega), if_neg]
    · rw [oMsgs_succ]
      subst hT
      rfl
    · have := oMsgs_len l i
      simp only [oAt, c0]
      simp
      omega

/-- What is left behind i deliveries. -/
def oLeft (l : List ByteArray) (back : Bool) (i : Nat) : List Msg := if back = true then oMsgs l (l.length - i) else (oMsgs l l.length).drop i
theorem o_del (l : List ByteArray) (i : Nat) (hi : i < l.length) : (oAt (oLeft l false i)).askE 0 = 0 ∧ (oAt (oLeft l false i)).msg 0 = oMsg l i ∧ (oAt (oLeft l false i)).deliver 0 = oAt (oLeft l false (i + 1)) := by
  have e : oLeft l false i = oMsg l i :: oLeft l false (i + 1) := by
    have hl := oMsgs_len l l.length
    have h2 : (oMsgs l l.length)[i]'(by omega) = oMsg l i := by
      have := oMsgs_get l l.length i hi
      rw [List.getElem?_eq_getElem (by omega)] at this
      simpa using this
    simp only [oLeft, Bool.false_eq_true, if_false]
    rw [List.drop_eq_getElem_cons (by omega), h2]
  rw [e]
  have h : (oAt (oMsg l i :: oLeft l false (i + 1))).has 0 = true := by simp [St.has, oAt]
  exact ⟨by rw [St.askE, if_pos h], by rw [St.msg, if_pos h]; rfl, by rw [St.deliver, if_pos h]; rfl⟩
theorem o_delb (l : List ByteArray) (i : Nat) (hi : i < l.length) : (oAt (oLeft l true i)).askE ((l.length - 1 - i : Nat) : Int) = 0 ∧ (oAt (oLeft l true i)).msg ((l.length - 1 - i : Nat) : Int) = oMsg l (l.length - 1 - i) ∧
    (oAt (oLeft l true i)).deliver ((l.length - 1 - i : Nat) : Int) = oAt (oLeft l true (i + 1)) := by
  have e : oLeft l true i = oMsgs l (l.length - 1 - i) ++ [oMsg l (l.length - 1 - i)] := by
    simp only [oLeft, if_true]
    rw [← oMsgs_succ]
    congr 1
    omega
  have e2 : oLeft l true (i + 1) = oMsgs l (l.length - 1 - i) := by
    simp only [oLeft, if_true]
    congr 1
    omega
  rw [e, e2]
  have hl := oMsgs_len l (l.length - 1 - i)
  have h : (oAt (oMsgs l (l.length - 1 - i) ++ [oMsg l (l.length - 1 - i)])).has ((l.length - 1 - i : Nat) : Int) = true := by simp only [St.has, oAt, List.length_append, hl]; simp; omega
  refine ⟨by rw [St.askE, if_pos h], ?_, ?_⟩
  · rw [St.msg, if_pos h]
    simp [oAt, hl]
  · rw [St.deliver, if_pos h]
    simp only [St.take, oAt, Int.toNat_natCast]
    rw [List.eraseIdx_append_of_length_le (by omega), hl]
    simp

set_option maxRecDepth 100000 in
set_option maxHeartbeats 1000000 in
theorem order_any (a : Option Addr) (len cap : Nat) (l : List ByteArray) (back : Bool) {W : World} (hl : StrsAt W a len l) (hlen : len ≤ maxLen) (w : World) (hWw : W = w) :
    Calls Try.prog 3 #[.slice a len cap, .bool back] w fun e w' => e = .returned (.bool true) ∧ Below w.heap.size w w' := by
  subst hWw
  unfold maxLen at hlen
  obtain ⟨hll, hcells, hwf⟩ := hl
  generalize hw : W = w at *
  clear hw
  by_cases h60 : 100 < len
  · clear hcells hwf hll
    go_enter Try.func3, Try.ntmps3
    go_wp2_with fail
    refine (alive_any w).mono ?_
    rintro e w1 ⟨rfl, b1⟩
    go_wp2
    go_ret
    exact ⟨rfl, b1⟩
  · have HC := Lib.hid hcells
    have HLL := Lib.hid hll
    have HW : Hid (∀ s ∈ l, s.size ≤ maxLen) := hwf
    have h2 : len ≤ 100 := by omega
    clear hcells hll hwf h60 hlen
    go_enter Try.func3, Try.ntmps3
    go_wp2_with fail
    refine (new_at w 3 (by omega) (by omega)).mono ?_
    rintro _ w0 ⟨nb, rfl, hn0, hb0⟩
    simp only []
    go_wp2
    go_loopw [6] (fun x wr => ∃ i : Nat, i ≤ len ∧ x = .int .i64 (i : Int) ∧ NAt w.heap.size wr nb 0 (oAt (oMsgs l i)) ∧ (∀ j, j < i → (l.getD j ⟨#[]⟩).size ≤ 300) ∧ Below w.heap.size w wr) (fun x _ => len - (intOf x).toNat)
    case atStart => exact ⟨0, by omega, rfl, hn0, by omega, hb0⟩
    case round =>
      obtain ⟨i, hi, rfl, hn, hsm, hbel⟩ := hrel
      have HN := Lib.hid hn
      have HSM := Lib.hid hsm
      clear hn hn0 hsm hb0
      by_cases hlt : i < len
      · obtain ⟨b, off, rfl, hb, hc⟩ : ∃ b off, a = some ⟨b, off, none⟩ ∧ b < w.heap.size ∧ ∀ i (hi : i < l.length), w.cell? ⟨b, off + i, none⟩ = some (.string l[i]) := by
          rcases HC.out with h | h
          · omega
          · exact h
        have hil : i < l.length := by have := HLL.out; omega
        have hci := (hbel.cell (p := ⟨b, off + i, none⟩) hb).trans (hc i hil)
        obtain ⟨T, hT⟩ : ∃ T, l[i] = T := ⟨_, rfl⟩
        have hTm := HW.out T (by rw [← hT]; exact List.getElem_mem hil)
        unfold maxLen at hTm
        rw [hT] at hci
        have HT : Hid (l.getD i ⟨#[]⟩ = T) := by unfold Hid; rw [List.getD_eq_getElem?_getD, List.getElem?_eq_getElem hil, hT]; rfl
        clear hc hT
        by_cases hbig : 300 < T.size
        · go_wp2_with fail
          refine (alive_any wr).mono ?_
          rintro e w1 ⟨rfl, b1⟩
          go_wp2
          go_ret
          exact ⟨rfl, hbel.trans (b1.mono hbel.size)⟩
        · have ht3 : T.size ≤ 300 := by omega
          go_wp2_with fail
          refine (send_at HN.out ((i : Int) % 3) (((i : Int) + 1) % 3) T).mono ?_
          rintro _ w1 ⟨rfl, hn1, hb1⟩
          have ho := o_send l i T (by omega) HT.out ht3
          rw [ho.2] at hn1
          simp only [ho.1]
          clear ho
          go_wp2
          go_roundw
          case rel =>
            refine ⟨i + 1, by omega, by go_num, hn1, ?_, hbel.trans hb1⟩
            intro j hj
            rcases Nat.lt_or_ge j i with h | h
            · exact HSM.out j h
            · obtain rfl : j = i := by omega
              rw [HT.out]; exact ht3
          case measure => simp [intOf]; omega
      · obtain rfl : i = len := by omega
        have HF : Hid (oMsgs l i = oLeft l back 0 ∧ l.length = i) := by
          refine ⟨?_, HLL.out⟩
          rw [← HLL.out]
          cases back <;> simp [oLeft]
        go_wp2
        go_loopw [7] (fun x wr => ∃ k : Nat, k ≤ i ∧ x = .int .i64 (k : Int) ∧ NAt w.heap.size wr nb 0 (oAt (oLeft l back k)) ∧ Below w.heap.size w wr) (fun x _ => i - (intOf x).toNat)
        case atStart => exact ⟨0, by omega, rfl, by rw [← HF.out.1]; exact HN.out, hbel⟩
        case round =>
          clear hbel
          obtain ⟨k, hk, rfl, hn2, hbel⟩ := hrel
          have HN2 := Lib.hid hn2
          clear hn2
          by_cases hlt : k < i
          · obtain ⟨b, off, rfl, hb, hc⟩ : ∃ b off, a = some ⟨b, off, none⟩ ∧ b < w.heap.size ∧ ∀ i (hi : i < l.length), w.cell? ⟨b, off + i, none⟩ = some (.string l[i]) := by
              rcases HC.out with h | h
              · omega
              · exact h
            cases back
            · have hkl : k < l.length := by have := HLL.out; omega
              have hci := Lib.hid ((hc k hkl).trans (congrArg (fun x => some (Value.string x)) (show l[k] = l.getD k ⟨#[]⟩ by rw [List.getD_eq_getElem?_getD, List.getElem?_eq_getElem hkl]; rfl)))
              have ho := o_del l k hkl
              have HO := Lib.hid ho.2.2
              obtain ⟨T, hT⟩ : ∃ T, T = l.getD k ⟨#[]⟩ := ⟨_, rfl⟩
              have em : oMsg l k = ⟨(k : Int) % 3, ((k : Int) + 1) % 3, T⟩ := by rw [hT]; rfl
              have HT := Lib.hid hT
              go_wp2_with fail
              refine (deliver_at HN2.out 0).mono ?_
              rintro _ w1 ⟨rfl, hn1, hb1⟩
              rw [HO.out] at hn1
              simp only [ho.1, ho.2.1, em]
              have hcj := (hb1.cell (p := ⟨b, off + k, none⟩) (by have := hbel.size; omega)).trans ((hbel.cell (p := ⟨b, off + k, none⟩) hb).trans hci.out)
              rw [← HT.out] at hcj
              clear ho em hc
              go_wp2
              go_roundw
              case rel => exact ⟨k + 1, by omega, by go_num, hn1, hbel.trans hb1⟩
              case measure => simp [intOf]; omega
            · have hkl : l.length - 1 - k < l.length := by have := HLL.out; omega
              obtain ⟨q, hq⟩ : ∃ q, q = l.length - 1 - k := ⟨_, rfl⟩
              have ho := o_delb l k (by have := HLL.out; omega)
              have HO := Lib.hid ho.2.2
              rw [← hq] at hkl ho HO
              have hci := Lib.hid ((hc q hkl).trans (congrArg (fun x => some (Value.string x)) (show l[q] = l.getD q ⟨#[]⟩ by rw [List.getD_eq_getElem?_getD, List.getElem?_eq_getElem hkl]; rfl)))
              obtain ⟨T, hT⟩ : ∃ T, T = l.getD q ⟨#[]⟩ := ⟨_, rfl⟩
              have em : oMsg l q = ⟨(q : Int) % 3, ((q : Int) + 1) % 3, T⟩ := by rw [hT]; rfl
              have HT := Lib.hid hT
              have eq : (i : Int) - 1 - (k : Int) = (q : Int) := by have := HLL.out; omega
              have hqi : q < i := by have := HLL.out; omega
              clear hq
              go_wp2_with fail
              refine (deliver_at HN2.out (q : Int)).mono ?_
              rintro _ w1 ⟨rfl, hn1, hb1⟩
              rw [HO.out] at hn1
              simp only [ho.1, ho.2.1, em]
              have hcj := (hb1.cell (p := ⟨b, off + q, none⟩) (by have := hbel.size; omega)).trans ((hbel.cell (p := ⟨b, off + q, none⟩) hb).trans hci.out)
              rw [← HT.out] at hcj
              clear ho em hc
              go_wp2
              go_roundw
              case rel => exact ⟨k + 1, by omega, by go_num, hn1, hbel.trans hb1⟩
              case measure => simp [intOf]; omega
          · obtain rfl : k = i := by omega
            have he : oLeft l back k = [] := by
              have := HLL.out
              cases back
              · simp only [oLeft, Bool.false_eq_true, if_false]
                rw [List.drop_of_length_le (by rw [oMsgs_len]; omega)]
              · simp only [oLeft, if_true]
                rw [show l.length - k = 0 by omega]; rfl
            have hn3 := HN2.out
            rw [he] at hn3
            have H3 := Lib.hid hn3
            clear hn3 he
            go_wp2_with fail
            refine (alive_any wr).mono ?_
            rintro _ w1 ⟨rfl, hb1⟩
            have hn4 := H3.out.same hb1
            have HB := Lib.hid (hbel.trans (hb1.mono hbel.size))
            clear hb1 hbel
            simp only []
            go_wp2_with fail
            refine (len_at hn4).mono ?_
            rintro _ _ ⟨rfl, rfl⟩
            simp only [oAt, List.length_nil]
            go_wp2_with fail
            refine (lost_at hn4).mono ?_
            rintro _ _ ⟨rfl, rfl⟩
            simp only [oAt]
            go_wp2
            go_ret
            exact ⟨rfl, HB.out⟩
end Go.Proofs.Ytanekdcmealoeaa
