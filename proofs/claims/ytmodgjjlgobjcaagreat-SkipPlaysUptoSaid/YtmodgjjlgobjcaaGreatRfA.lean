/-
  The document's list of pairs: words; where a key belongs; Get, Before, Bytes.
-/
import Derived.Test.YtmodgjjlgobjcaaGreatRfP
import Derived.Test.YtmodgjjlgobjcaaGreatBkKeysE
import Derived.Test.YtmodgjjlgobjcaaGreatBkIntsE
namespace Go.Proofs.YtmodgjjlgobjcaaGreat
open Go.RowKit

theorem ret_i {k : IntKind} {a b : Int} (h : a = b) : Ending.returned (.int k a) = .returned (.int k b) := by rw [h]
theorem val_i {k : IntKind} {a b : Int} (h : a = b) : Value.int k a = .int k b := by rw [h]

theorem cmp_drop (a b : ByteArray) (i : Nat) (ha : i < a.size) (hb : i < b.size) :
    Lib.compareBytes (a.data.toList.drop i) (b.data.toList.drop i) = if a[i] < b[i] then -1 else if b[i] < a[i] then 1 else Lib.compareBytes (a.data.toList.drop (i + 1)) (b.data.toList.drop (i + 1)) := by
  rw [List.drop_eq_getElem_cons (show i < a.data.toList.length by simpa using ha), List.drop_eq_getElem_cons (show i < b.data.toList.length by simpa using hb)]
  rfl

set_option maxRecDepth 100000 in
theorem refcompare_any (a b : ByteArray) (w : World) (ha : a.size ≤ 1000000) (hb : b.size ≤ 1000000) :
    Calls Tryz.prog 35 #[.string a, .string b] w fun e w' => e = .returned (.int .i64 (kcmp a b)) ∧ Below w.heap.size w w' := by
  unfold kcmp
  go_enter Tryz.func35, Tryz.ntmps35
  go_wp2
  go_loopw [5] (fun x wr => ∃ i : Nat, i ≤ a.size ∧ i ≤ b.size ∧ x = .int .i64 (i : Int) ∧ Lib.compareBytes (a.data.toList.drop i) (b.data.toList.drop i) = Lib.compareBytes a.data.toList b.data.toList ∧ Below w.heap.size w wr)
    (fun x _ => a.size - (intOf x).toNat)
  case atStart => exact ⟨0, by omega, by omega, rfl, by simp, Below.refl _ _⟩
  case round =>
    obtain ⟨i, hia, hib, rfl, hcmp, hbel⟩ := hrel
    have HC := Lib.hid hcmp
    clear hcmp
    by_cases h1 : i < a.size
    · by_cases h2 : i < b.size
      · have HD := Lib.hid (cmp_drop a b i h1 h2)
        have e1 : (a[i] < b[i]) ↔ a[i].toNat < b[i].toNat := UInt8.lt_iff_toNat_lt
        have e2 : (b[i] < a[i]) ↔ b[i].toNat < a[i].toNat := UInt8.lt_iff_toNat_lt
        have HE1 := Lib.hid e1
        have HE2 := Lib.hid e2
        clear e1 e2
        by_cases c1 : a[i].toNat < b[i].toNat
        · have t1 : decide ((a[i].toNat : Int) < (b[i].toNat : Int)) = true := by simp; omega
          have t1n : decide (a[i].toNat < b[i].toNat) = true := by simp; omega
          have HA : Hid (Lib.compareBytes a.data.toList b.data.toList = -1) := by have := HD.out; rw [HC.out, if_pos (HE1.out.2 c1)] at this; exact this
          clear c1
          go_wp2
          go_quiet (fail)
          go_wp2
          go_ret
          exact ⟨ret_i HA.out.symm, below_drewN hbel _⟩
        · have t1 : decide ((a[i].toNat : Int) < (b[i].toNat : Int)) = false := by simp; omega
          have t1n : decide (a[i].toNat < b[i].toNat) = false := by simp; omega
          by_cases c2 : b[i].toNat < a[i].toNat
          · have t2 : decide ((b[i].toNat : Int) < (a[i].toNat : Int)) = true := by simp; omega
            have t2n : decide (b[i].toNat < a[i].toNat) = true := by simp; omega
            have HA : Hid (Lib.compareBytes a.data.toList b.data.toList = 1) := by have := HD.out; rw [HC.out, if_neg (fun h => c1 (HE1.out.1 h)), if_pos (HE2.out.2 c2)] at this; exact this
            clear c1 c2
            go_wp2
            go_quiet (fail)
            go_wp2
            go_quiet (fail)
            go_wp2
            go_ret
            exact ⟨ret_i HA.out.symm, by first | exact below_drewN hbel _ | exact below_drewN (below_drewN hbel _) _⟩
          · have t2 : decide ((b[i].toNat : Int) < (a[i].toNat : Int)) = false := by simp; omega
            have t2n : decide (b[i].toNat < a[i].toNat) = false := by simp; omega
            have HA : Hid (Lib.compareBytes (a.data.toList.drop (i + 1)) (b.data.toList.drop (i + 1)) = Lib.compareBytes a.data.toList b.data.toList) := by
              have := HD.out; rw [HC.out, if_neg (fun h => c1 (HE1.out.1 h)), if_neg (fun h => c2 (HE2.out.1 h))] at this; exact this.symm
            clear c1 c2
            go_wp2
            go_quiet (fail)
            go_wp2
            go_quiet (fail)
            go_wp2
            go_roundw
            case rel => exact ⟨i + 1, by omega, by omega, by go_num, HA.out, by first | exact below_drewN hbel _ | exact below_drewN (below_drewN hbel _) _⟩
            case measure => simp [intOf]; omega
      · obtain rfl : i = b.size := by omega
        have HA : Hid (Lib.compareBytes a.data.toList b.data.toList = 1) := by
          have := HC.out
          rw [List.drop_eq_nil_of_le (show b.data.toList.length ≤ b.size by simp), List.drop_eq_getElem_cons (show b.size < a.data.toList.length by simpa using h1)] at this
          exact this.symm
        go_wp2
        go_ret
        exact ⟨ret_i HA.out.symm, hbel⟩
    · obtain rfl : i = a.size := by omega
      by_cases h2 : a.size < b.size
      · have HA : Hid (Lib.compareBytes a.data.toList b.data.toList = -1) := by
          have := HC.out
          rw [List.drop_eq_nil_of_le (show a.data.toList.length ≤ a.size by simp), List.drop_eq_getElem_cons (show a.size < b.data.toList.length by simpa using h2)] at this
          exact this.symm
        go_wp2
        go_ret
        exact ⟨ret_i HA.out.symm, hbel⟩
      · have HA : Hid (Lib.compareBytes a.data.toList b.data.toList = 0) := by
          have := HC.out
          rw [List.drop_eq_nil_of_le (show a.data.toList.length ≤ a.size by simp), List.drop_eq_nil_of_le (show b.data.toList.length ≤ a.size by simp; omega)] at this
          exact this.symm
        go_wp2
        go_ret
        exact ⟨ret_i HA.out.symm, hbel⟩

def cRf (n : Nd) : List Value := [.string n.k, .string n.v, .int .i64 (n.h : Int)]
theorem eRf_info : (Tryz.prog.info? 76).map (fun i => (i.zero, i.size, i.bytes)) = some (some (.agg #[.string ⟨#[]⟩, .string ⟨#[]⟩, .int .i64 0]), 3, 40) := by kernel_rfl
theorem eRf : Elm Tryz.prog 27 76 3 40 cRf where
  und := Tryz.underlying27
  info := by
    obtain ⟨i0, hi0, hz0, hs0, hy0⟩ := info_parts eRf_info
    exact ⟨i0, _, hi0, hz0, hs0, hy0, rfl⟩
  pos := by decide
  few := by decide
  len _ := rfl
  one := by
    intro x u hu
    simp [cRf] at hu
    rcases hu with rfl | rfl | rfl <;> rfl

/-- At rb stands the document's list of the pairs E. -/
structure RfAt (w : World) (rb : Nat) (lv : Value) (B : Nat) (E : List Nd) (fr : Bool) : Prop where
  c0 : w.cell? ⟨rb, 0, none⟩ = some lv
  c1 : w.cell? ⟨rb, 1, none⟩ = some (.bool fr)
  fz : ∀ j, w.frozen? ⟨rb, j, none⟩ = false
  row : Own eRf w B lv E
  rb0 : rb < B
  len : E.length ≤ 100000
  sorted : Sorted E
  keys : ∀ n ∈ E, n.k.size ≤ 65536 ∧ n.v.size ≤ 65536
  hts : ∀ n ∈ E, 1 ≤ n.h ∧ n.h ≤ 12
def RFoot (rb : Nat) (lv : Value) (q : Nat) : Prop := q = rb ∨ lv.ownBlock = some q
theorem RfAt.lt {w : World} {rb B : Nat} {lv : Value} {E : List Nd} {fr : Bool} (h : RfAt w rb lv B E fr) : ∀ q, RFoot rb lv q → q < w.heap.size := by
  rintro q (rfl | hq)
  · exact World.block_lt_of_cell? w _ h.c0
  · exact (h.row.lt q hq).2
theorem RfAt.turn {F : Nat → Prop} {w w' : World} {rb B : Nat} {lv : Value} {E : List Nd} {fr : Bool} (h : RfAt w rb lv B E fr) (ht : Tn F w w') (hF : ∀ q, RFoot rb lv q → ¬ F q) : RfAt w' rb lv B E fr :=
  have hn := hF rb (.inl rfl)
  ⟨ht.cell h.c0 hn, ht.cell h.c1 hn, fun j => (ht.frozen (p := ⟨rb, j, none⟩) (World.block_lt_of_cell? w ⟨rb, 0, none⟩ h.c0) hn).trans (h.fz j), ht.row h.row (fun q hq => hF q (.inr hq)), h.rb0, h.len, h.sorted, h.keys, h.hts⟩
theorem RfAt.below {w w' : World} {rb B : Nat} {lv : Value} {E : List Nd} {fr : Bool} (h : RfAt w rb lv B E fr) (hb : Below w.heap.size w w') : RfAt w' rb lv B E fr := h.turn (F := fun _ => False) (Tn.ofBelow hb) (fun _ _ e => e)
theorem rf_form {w : World} {rb B : Nat} {lv : Value} {E : List Nd} {fr : Bool} (h : RfAt w rb lv B E fr) : ∃ a cap, lv = .slice a E.length cap := by
  obtain ⟨a, cap, hv, _, _⟩ := row_form h.row
  exact ⟨a, cap, hv⟩
theorem rf_cells {w : World} {B : Nat} {v : Value} {E : List Nd} (h : Own eRf w B v E) {i : Nat} (hi : i < E.length) :
    ∃ g cap, v = .slice (some ⟨g, 0, none⟩) E.length cap ∧ B ≤ g ∧ g < w.heap.size ∧ w.cell? ⟨g, i * 3, none⟩ = some (.string E[i].k) ∧ w.cell? ⟨g, i * 3 + 1, none⟩ = some (.string E[i].v) ∧ w.cell? ⟨g, i * 3 + 2, none⟩ = some (.int .i64 (E[i].h : Int)) := by
  have h0 := h
  obtain ⟨h1, h2⟩ := h
  rcases h2 with ⟨_, h3⟩ | ⟨g, cap, cur, rfl, hg, hh, hn, hc, hcl, htk⟩
  · omega
  · have c0 := h0.cellAt (i * 3) (by omega)
    have c1 := h0.cellAt (i * 3 + 1) (by omega)
    have c2 := h0.cellAt (i * 3 + 2) (by omega)
    have e0 := eRf.get E i 0 hi (by decide)
    have e1 := eRf.get E i 1 hi (by decide)
    have e2 := eRf.get E i 2 hi (by decide)
    rw [Nat.add_zero] at e0
    rw [e0] at c0
    rw [e1] at c1
    rw [e2] at c2
    exact ⟨g, cap, rfl, hg, (Array.getElem?_eq_some_iff.1 hh).1, c0, c1, c2⟩

set_option maxRecDepth 100000 in
set_option maxHeartbeats 1000000 in
theorem rat_any {w : World} {rb B : Nat} {lv : Value} {E : List Nd} {fr : Bool} (h : RfAt w rb lv B E fr) (k : ByteArray) (hk : k.size ≤ 1000000) :
    Calls Tryz.prog 30 #[.pointer (some ⟨rb, 0, none⟩), .string k] w fun e w' => e = .returned (.int .i64 (below E k : Int)) ∧ Below w.heap.size w w' := by
  obtain ⟨a, cap, rfl⟩ := rf_form h
  have c0 := h.c0
  have hlen := h.len
  obtain ⟨n, hn⟩ : ∃ n, n = E.length := ⟨_, rfl⟩
  rw [← hn] at c0 hlen h
  have H := Lib.hid h
  have HN := Lib.hid hn
  have hbl := below_le E k
  rw [← hn] at hbl
  clear h hn
  go_enter Tryz.func30, Tryz.ntmps30
  go_wp2
  go_loopw [5] (fun x wr => ∃ i : Nat, i ≤ below E k ∧ x = .int .i64 (i : Int) ∧ Below w.heap.size w wr) (fun x _ => below E k - (intOf x).toNat)
  case atStart => exact ⟨0, by omega, rfl, Below.refl _ _⟩
  case round =>
    obtain ⟨i, hi, rfl, hbel⟩ := hrel
    have HB := Lib.hid hbel
    have d0 := (hbel.cell (p := ⟨rb, 0, none⟩) (World.block_lt_of_cell? _ _ c0)).trans c0
    clear hbel
    by_cases hlt : i < n
    · have hil : i < E.length := by have := HN.out; omega
      obtain ⟨g, cap', hv, _, hg, k0, _, _⟩ := rf_cells (H.out.row) hil
      injection hv with e1 e2 e3
      subst e1
      have d1 := (HB.out.cell (p := ⟨g, i * 3, none⟩) (World.block_lt_of_cell? _ _ k0)).trans k0
      have hq : E[i]? = some E[i] := List.getElem?_eq_getElem hil
      have hkb := (H.out.keys E[i] (List.getElem_mem hil)).1
      obtain ⟨x, hx⟩ : ∃ x, E[i] = x := ⟨_, rfl⟩
      rw [hx] at d1 hq hkb
      obtain ⟨kk, hkk⟩ : ∃ kk, kk = x.k := ⟨_, rfl⟩
      rw [← hkk] at d1 hkb
      have HQ := Lib.hid (And.intro hq hkk)
      obtain ⟨cm, hcm⟩ : ∃ cm, kcmp kk k = cm := ⟨_, rfl⟩
      have hcall := fun (W : World) => refcompare_any kk k W (by omega) hk
      rw [hcm] at hcall
      have HCALL := Lib.hid hcall
      have HCM := Lib.hid hcm
      have r1 : (i : Int) < (n : Int) := by omega
      clear e2 e3 k0 hq hx hkk hcall hcm
      by_cases hneg : cm < 0
      · have t1 : decide (cm < 0) = true := by simpa using hneg
        have hib : i < below E k := (below_iff H.out.sorted k HQ.out.1).1 (by rw [← HQ.out.2, HCM.out]; exact hneg)
        go_wp2_with (go_at_call 35; refine (HCALL.out _).mono ?_; rintro _ w1 ⟨rfl, hb1⟩; have HB1 := Lib.hid hb1; clear hb1; simp only [])
        go_roundw
        case rel => exact ⟨i + 1, by omega, by go_num, HB.out.trans (HB1.out.mono HB.out.size)⟩
        case measure => simp [intOf]; omega
      · have t1 : decide (cm < 0) = false := by simpa using hneg
        have hib : ¬ i < below E k := fun e => hneg (by rw [← HCM.out, HQ.out.2]; exact (below_iff H.out.sorted k HQ.out.1).2 e)
        have hie : i = below E k := by omega
        have HIE := Lib.hid hie
        clear hib hie
        go_wp2_with (go_at_call 35; refine (HCALL.out _).mono ?_; rintro _ w1 ⟨rfl, hb1⟩; have HB1 := Lib.hid hb1; clear hb1; simp only [])
        go_ret
        exact ⟨ret_i (by rw [HIE.out]), HB.out.trans (HB1.out.mono HB.out.size)⟩
    · have hie : i = below E k := by omega
      obtain rfl : i = n := by omega
      have HIE := Lib.hid hie
      clear hie
      go_wp2
      go_ret
      exact ⟨ret_i (by rw [HIE.out]), HB.out⟩

set_option maxRecDepth 100000 in
set_option maxHeartbeats 1000000 in
theorem rget_any {w : World} {rb B : Nat} {lv : Value} {E : List Nd} {fr : Bool} (h : RfAt w rb lv B E fr) (k : ByteArray) (hk : k.size ≤ 1000000) :
    Calls Tryz.prog 9 #[.pointer (some ⟨rb, 0, none⟩), .string k] w fun e w' => e = .returned (.tuple #[.string (getOf E k).1, .int .i64 (getOf E k).2]) ∧ Below w.heap.size w w' := by
  obtain ⟨a, cap, rfl⟩ := rf_form h
  have c0 := h.c0
  have hlen := h.len
  have hat := fun W (hW : Below w.heap.size w W) => rat_any (h.below hW) k hk
  have HAT := Lib.hid hat
  obtain ⟨n, hn⟩ : ∃ n, n = E.length := ⟨_, rfl⟩
  rw [← hn] at c0 hlen h
  have H := Lib.hid h
  have HN := Lib.hid hn
  have hbl := below_le E k
  rw [← hn] at hbl
  obtain ⟨i, hi⟩ : ∃ i, i = below E k := ⟨_, rfl⟩
  rw [← hi] at hbl
  have HI := Lib.hid hi
  clear h hn hat hi
  go_enter Tryz.func9, Tryz.ntmps9
  by_cases hlt : i < n
  · have hil : i < E.length := by have := HN.out; omega
    obtain ⟨g, cap', hv, _, hg, k0, k1, _⟩ := rf_cells (H.out.row) hil
    injection hv with e1 e2 e3
    subst e1
    obtain ⟨x, hx⟩ : ∃ x, E[i] = x := ⟨_, rfl⟩
    have hq : E[i]? = some x := by rw [List.getElem?_eq_getElem hil, hx]
    rw [hx] at k0 k1
    have hget : getOf E k = if x.k = k then (x.v, 0) else (⟨#[]⟩, 22) := by
      unfold getOf
      rw [← HI.out, hq]
    have HGET := Lib.hid hget
    have r1 : (i : Int) < (n : Int) := by omega
    obtain ⟨kk, hkk⟩ : ∃ kk, kk = x.k := ⟨_, rfl⟩
    obtain ⟨vv, hvv⟩ : ∃ vv, vv = x.v := ⟨_, rfl⟩
    rw [← hkk] at k0
    rw [← hvv] at k1
    have HKV := Lib.hid (And.intro hkk hvv)
    have hri : below E k = i := HI.out.symm
    have HRI := Lib.hid hri
    clear e2 e3 hq hx hget hkk hvv hri
    by_cases hke : kk = k
    · have t1 := str_eq k
      subst hke
      go_wp2_with (go_at_call 30; refine (HAT.out _ (Below.refl _ _)).mono ?_; rintro _ w1 ⟨rfl, hb1⟩; rw [HRI.out]; have HB1 := Lib.hid hb1; have d0 := (hb1.cell (p := ⟨rb, 0, none⟩) (World.block_lt_of_cell? _ _ c0)).trans c0; have d1 := (hb1.cell (p := ⟨g, i * 3, none⟩) (World.block_lt_of_cell? _ _ k0)).trans k0; have d2 := (hb1.cell (p := ⟨g, i * 3 + 1, none⟩) (World.block_lt_of_cell? _ _ k1)).trans k1; clear hb1; simp only [])
      refine ⟨rfl, .tuple #[.string vv, .int .i64 0], ?_, ?_, HB1.out⟩
      · simp [results, Tryz.results9, go_sem]
      · rw [HGET.out, if_pos HKV.out.1.symm, ← HKV.out.2]
    · have t1 := str_ne hke
      have HKE := Lib.hid hke
      clear hke
      go_wp2_with (go_at_call 30; refine (HAT.out _ (Below.refl _ _)).mono ?_; rintro _ w1 ⟨rfl, hb1⟩; rw [HRI.out]; have HB1 := Lib.hid hb1; have d0 := (hb1.cell (p := ⟨rb, 0, none⟩) (World.block_lt_of_cell? _ _ c0)).trans c0; have d1 := (hb1.cell (p := ⟨g, i * 3, none⟩) (World.block_lt_of_cell? _ _ k0)).trans k0; clear hb1; simp only [])
      refine ⟨rfl, .tuple #[.string ⟨#[]⟩, .int .i64 22], ?_, ?_, HB1.out⟩
      · simp [results, Tryz.results9, go_sem]
      · rw [HGET.out, if_neg (fun e => HKE.out (HKV.out.1.trans e))]
  · obtain rfl : i = n := by omega
    have hget : getOf E k = (⟨#[]⟩, 22) := by
      unfold getOf
      rw [← HI.out, List.getElem?_eq_none (by have := HN.out; omega)]
    have HGET := Lib.hid hget
    have hri : below E k = i := HI.out.symm
    have HRI := Lib.hid hri
    clear hget hri
    go_wp2_with (go_at_call 30; refine (HAT.out _ (Below.refl _ _)).mono ?_; rintro _ w1 ⟨rfl, hb1⟩; rw [HRI.out]; have HB1 := Lib.hid hb1; have d0 := (hb1.cell (p := ⟨rb, 0, none⟩) (World.block_lt_of_cell? _ _ c0)).trans c0; clear hb1; simp only [])
    refine ⟨rfl, .tuple #[.string ⟨#[]⟩, .int .i64 22], ?_, ?_, HB1.out⟩
    · simp [results, Tryz.results9, go_sem]
    · rw [HGET.out]
end Go.Proofs.YtmodgjjlgobjcaaGreat
