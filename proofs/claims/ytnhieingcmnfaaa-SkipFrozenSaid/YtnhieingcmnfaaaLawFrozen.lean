/-
  The law SkipFrozen's walk.
-/
import Derived.Test.YtnhieingcmnfaaaPlain
import Derived.StillTailTactics
namespace Go.Proofs.Ytnhieingcmnfaaa
open Go.RowKit Go.Maps

/-- What is so behind i Puts. -/
def FzI (l : List ByteArray) (i : Nat) (E : List Nd) : Prop := E.length ≤ i ∧ (∀ n ∈ E, n.v = n.k) ∧ ∀ j, j < i → ∃ n ∈ E, n.k = l.getD j ⟨#[]⟩
theorem FzI.step {l : List ByteArray} {i : Nat} {E : List Nd} (h : FzI l i E) {T : ByteArray} (hT : l.getD i ⟨#[]⟩ = T) (hs : T.size ≤ 300) (hh : Int) : FzI l (i + 1) (putL E false T T hh) := by
  obtain ⟨h1, h2, h3⟩ := h
  refine ⟨by have := putL_len E false T T hh; omega, fun n hn => ?_, fun j hj => ?_⟩
  · rcases putL_from hn with h | rfl
    · exact h2 n h
    · rfl
  · by_cases e : j = i
    · subst e
      rw [hT]
      exact putL_has (by omega) (by omega)
    · obtain ⟨n, hn, hk⟩ := h3 j (by omega)
      exact ⟨n, putL_sub hn, hk⟩
theorem FzI.get {l : List ByteArray} {i j : Nat} {E : List Nd} (h : FzI l i E) (hs : Sorted E) (hj : j < i) {T : ByteArray} (hT : l.getD j ⟨#[]⟩ = T) : getOf E T = (T, 0) := by
  obtain ⟨n, hn, hk⟩ := h.2.2 j hj
  have := get_mem hs hn
  rw [hk, h.2.1 n hn, hk, hT] at this
  exact this

set_option maxRecDepth 100000 in
set_option maxHeartbeats 1000000 in
theorem frozen_law (a : Option Addr) (len cap : Nat) (l : List ByteArray) (more : ByteArray) {W : World} (hl : StrsAt W a len l) (hlen : len ≤ maxLen) (hmo : more.size ≤ maxLen) (w : World) (hWw : W = w) :
    Calls Try.prog 6 #[.slice a len cap, .string more] w fun e w' => e = .returned (.bool true) ∧ Below w.heap.size w w' := by
  subst hWw
  unfold maxLen at hlen hmo
  obtain ⟨hll, hcells, hwf⟩ := hl
  generalize hw : W = w at *
  clear hw
  by_cases hbig : 100 < len ∨ 300 < more.size
  · clear hcells hwf hll
    have t : decide ((100 : Int) < (len : Int)) = true ∨ decide ((100 : Int) < (len : Int)) = false ∧ decide ((300 : Int) < (more.size : Int)) = true := by
      simp only [decide_eq_true_eq, decide_eq_false_iff_not]; omega
    clear hbig
    rcases t with t1 | ⟨t1, t2⟩
    all_goals
      go_enter Try.func6, Try.ntmps6
      go_wp2_with fail
      refine (alive_any w).mono ?_
      rintro e w1 ⟨rfl, b1⟩
      go_wp2
      go_ret
      exact ⟨rfl, b1⟩
  · have HC := Lib.hid hcells
    have HLL := Lib.hid hll
    have HW : Hid (∀ s ∈ l, s.size ≤ maxLen) := hwf
    have h2 : len ≤ 100 := by omega
    have hm2 : more.size ≤ 300 := by omega
    clear hcells hll hwf hbig hlen hmo
    go_enter Try.func6, Try.ntmps6
    go_wp2_with fail
    refine (new_n w).mono ?_
    rintro _ w0 ⟨sb, rfl, hn0, hb0⟩
    simp only []
    go_wp2
    go_loopw [6] (fun x wr => ∃ (i : Nat) (E : List Nd), i ≤ len ∧ x = .int .i64 (i : Int) ∧ NAt w.heap.size wr sb E false ∧ FzI l i E ∧ Below w.heap.size w wr) (fun x _ => len - (intOf x).toNat)
    case atStart => exact ⟨0, [], by omega, rfl, hn0, ⟨by simp, by simp, by omega⟩, hb0⟩
    case round =>
      obtain ⟨i, E, hi, rfl, hn, hfz, hbel⟩ := hrel
      have HN := Lib.hid hn
      have HFZ := Lib.hid hfz
      have hEl : E.length ≤ i := hfz.1
      clear hn hn0 hb0 hfz
      by_cases hlt : i < len
      · obtain ⟨b, off, rfl, hb, hc⟩ : ∃ b off, a = some ⟨b, off, none⟩ ∧ b < w.heap.size ∧ ∀ i (hi : i < l.length), w.cell? ⟨b, off + i, none⟩ = some (.string l[i]) := by
          rcases HC.out with h | h
          · omega
          · exact h
        have hil : i < l.length := by have := HLL.out; omega
        have hci := (hbel.cell (p := ⟨b, off + i, none⟩) hb).trans (hc i hil)
        obtain ⟨T, hT⟩ : ∃ T, l[i] = T := ⟨_, rfl⟩
        have hTm := HW.out T (by rw [← hT]; exact List.getElem_mem hil)
        unfold maxLen at hTm
        rw [hT] at hci
        have HT : Hid (l.getD i ⟨#[]⟩ = T) := by unfold Hid; rw [List.getD_eq_getElem?_getD, List.getElem?_eq_getElem hil, hT]; rfl
        clear hc hT
        by_cases hbig : 300 < T.size
        · go_wp2_with fail
          refine (alive_any wr).mono ?_
          rintro e w1 ⟨rfl, b1⟩
          go_wp2
          go_ret
          exact ⟨rfl, hbel.trans (b1.mono hbel.size)⟩
        · have ht3 : T.size ≤ 300 := by omega
          have HB := Lib.hid hbel
          have hz := hbel.size
          clear hbel
          go_wp2_with fail
          have hcd : wr.drew.cell? ⟨b, off + i, none⟩ = some (.string T) := hci
          have HND := Lib.hid (HN.out.below (Below.refl _ _).drew)
          go_still_tail 11, (by kernel_rfl)
          change wpList _ _ _ _ _ wr.drew
          go_wp2_with fail
          refine (put_n HND.out hz _ _ _ (by omega)).mono ?_
          rintro _ w1 ⟨rfl, hn1, hb1⟩
          simp only []
          have HN1 : Hid (∃ h, NAt w.heap.size w1 sb (putL E false T T h) false ∧ FzI l (i + 1) (putL E false T T h)) := ⟨_, hn1, HFZ.out.step HT.out ht3 _⟩
          clear hn1
          go_wp2
          go_roundw
          case rel =>
            obtain ⟨h, q1, q2⟩ := HN1.out
            exact ⟨i + 1, _, by omega, by go_num, q1, q2, (HB.out.trans (Below.refl _ _).drew).trans hb1⟩
          case measure => simp [intOf]; omega
      · obtain rfl : i = len := by omega
        have HB := Lib.hid hbel
        have hz := hbel.size
        clear hbel
        go_wp2_with fail
        refine (count_n HN.out).mono ?_
        rintro _ _ ⟨rfl, rfl⟩
        simp only []
        go_wp2_with fail
        refine (bytes_n HN.out).mono ?_
        rintro _ _ ⟨rfl, rfl⟩
        simp only []
        obtain ⟨by_, hby⟩ : ∃ x, bytesOf E = x := ⟨_, rfl⟩
        obtain ⟨ct, hct⟩ : ∃ x, E.length = x := ⟨_, rfl⟩
        rw [hby, hct]
        have HQ := Lib.hid (And.intro hby hct)
        clear hby hct
        go_wp2_with fail
        refine (freeze_n HN.out hz).mono ?_
        rintro _ w1 ⟨rfl, hn1, hb1⟩
        have HN1 := Lib.hid hn1
        have HB1 := Lib.hid (HB.out.trans hb1)
        have hz1 := hb1.size
        simp only []
        clear hn1 hb1
        go_wp2_with fail
        refine (put_n HN1.out (by omega) more ⟨#[120]⟩ 1 (by omega)).mono ?_
        rintro _ w2 ⟨rfl, hn2, hb2⟩
        rw [putL_frozen] at hn2
        rw [putE_frozen]
        have HN2 := Lib.hid hn2
        have HB2 := Lib.hid (HB1.out.trans hb2)
        have hz2 := hb2.size
        simp only []
        clear hn2 hb2
        go_wp2_with fail
        refine (frozen_n HN2.out).mono ?_
        rintro _ _ ⟨rfl, rfl⟩
        simp only []
        go_wp2_with fail
        refine (count_n HN2.out).mono ?_
        rintro _ _ ⟨rfl, rfl⟩
        rw [HQ.out.2]
        simp only []
        go_wp2_with fail
        refine (bytes_n HN2.out).mono ?_
        rintro _ _ ⟨rfl, rfl⟩
        rw [HQ.out.1]
        simp only []
        go_wp2_with fail
        refine (from_n HN2.out ⟨#[]⟩ (-1) (by omega) (by omega)).mono ?_
        rintro _ w3 ⟨v, rfl, hr3, hb3⟩
        obtain ⟨a3, cap3, rfl⟩ := kv_form hr3
        rw [from_all, List.length_map, HQ.out.2]
        have HN3 := Lib.hid (HN2.out.below hb3)
        have HB3 := Lib.hid (HB2.out.trans (hb3.mono (by omega)))
        simp only []
        clear hr3 hb3
        go_wp2
        go_loopw [9] (fun x wr => ∃ k : Nat, k ≤ i ∧ x = .int .i64 (k : Int) ∧ NAt w.heap.size wr sb E true ∧ Below w.heap.size w wr) (fun x _ => i - (intOf x).toNat)
        case atStart => exact ⟨0, by omega, rfl, HN3.out, HB3.out⟩
        case round =>
          obtain ⟨k, hk, rfl, hn, hbel⟩ := hrel
          have HN4 := Lib.hid hn
          clear hn
          by_cases hlt : k < i
          · obtain ⟨b, off, rfl, hb, hc⟩ : ∃ b off, a = some ⟨b, off, none⟩ ∧ b < w.heap.size ∧ ∀ i (hi : i < l.length), w.cell? ⟨b, off + i, none⟩ = some (.string l[i]) := by
              rcases HC.out with h | h
              · omega
              · exact h
            have hil : k < l.length := by have := HLL.out; omega
            obtain ⟨T, hT⟩ : ∃ T, l[k] = T := ⟨_, rfl⟩
            have hc0 := hc k hil
            rw [hT] at hc0
            have hci := (hbel.cell (p := ⟨b, off + k, none⟩) hb).trans hc0
            have HT : Hid (l.getD k ⟨#[]⟩ = T) := by unfold Hid; rw [List.getD_eq_getElem?_getD, List.getElem?_eq_getElem hil, hT]; rfl
            have hget : getOf E T = (T, 0) := HFZ.out.get HN4.out.sorted hlt HT.out
            have HG := Lib.hid hget
            have HCC := Lib.hid hc0
            have HBB := Lib.hid hbel
            have hzz := hbel.size
            clear hc hT hget hc0 hbel
            go_wp2_with fail
            refine (get_n HN4.out T).mono ?_
            rintro _ w4 ⟨rfl, hb4⟩
            simp only [HG.out]
            have hcj := (hb4.cell (p := ⟨b, off + k, none⟩) (Nat.lt_of_lt_of_le hb hzz)).trans hci
            have HN5 := Lib.hid (HN4.out.below hb4)
            have HB5 := Lib.hid (HBB.out.trans (hb4.mono hzz))
            clear hb4 hci
            go_wp2
            go_roundw
            case rel => exact ⟨k + 1, by omega, by go_num, HN5.out, HB5.out⟩
            case measure => simp [intOf]; omega
          · obtain rfl : k = i := by omega
            have HBB := Lib.hid hbel
            have hzz := hbel.size
            clear hbel
            go_wp2_with fail
            refine (alive_any wr).mono ?_
            rintro e w1 ⟨rfl, b1⟩
            go_wp2
            go_ret
            exact ⟨rfl, HBB.out.trans (b1.mono hzz)⟩
end Go.Proofs.Ytnhieingcmnfaaa
