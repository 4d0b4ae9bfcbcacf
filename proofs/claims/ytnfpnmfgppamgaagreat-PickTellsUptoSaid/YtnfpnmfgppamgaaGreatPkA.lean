/-
  The walks of of, Overlap.
-/
import Derived.Test.YtnfpnmfgppamgaaGreatBase
namespace Go.Proofs.YtnfpnmfgppamgaaGreat
open Go.RowKit

def ofL (L : List Fi) (lv : Int) : List Fi := L.filter (fun x => decide (x.lv = lv))
theorem ofL_snoc (L : List Fi) (i : Nat) (hi : i < L.length) (lv : Int) : ofL (L.take (i + 1)) lv = ofL (L.take i) lv ++ (if L[i].lv = lv then [L[i]] else []) := by
  unfold ofL
  rw [List.take_succ_eq_append_getElem hi, List.filter_append]
  by_cases h : L[i].lv = lv <;> simp [h]
theorem ofL_len (L : List Fi) (lv : Int) : (ofL L lv).length ≤ L.length := List.length_filter_le _ _

set_option maxRecDepth 100000 in
set_option maxHeartbeats 400000 in
theorem of_any {w : World} {a : Option Addr} {L : List Fi} (hL : FilesAt w a L) (cap : Nat) (hlen : L.length ≤ 100000) (lv : Int) :
    Calls Tryz.prog 21 #[.slice a L.length cap, .int .i64 lv] w fun e w' => ∃ a' cap', e = .returned (.slice a' (ofL L lv).length cap') ∧ OwnF w' w.heap.size (.slice a' (ofL L lv).length cap') (ofL L lv) ∧ Below w.heap.size w w' := by
  obtain ⟨len, hl⟩ : ∃ len, len = L.length := ⟨_, rfl⟩
  rw [← hl] at hlen ⊢
  have HL := Lib.hid hL
  have HN := Lib.hid hl
  clear hL hl
  go_enter Tryz.func21, Tryz.ntmps21
  go_wp2
  go_loopw [5, 10] (fun v y wr => ∃ i : Nat, i ≤ len ∧ y = .int .i64 (i : Int) ∧ OwnF wr w.heap.size v (ofL (L.take i) lv) ∧ Below w.heap.size w wr) (fun _ y _ => len - (intOf y).toNat)
  case atStart => exact ⟨0, by omega, rfl, World.ownsRow_nil _ _ _ _, Below.refl _ _⟩
  case round =>
    obtain ⟨i, hi, rfl, hown, hbel⟩ := hrel
    obtain ⟨av, capv, rfl, _, _⟩ := row_form hown
    obtain ⟨K, hK⟩ : ∃ K, K = ofL (L.take i) lv := ⟨_, rfl⟩
    have hKl : (ofL (L.take i) lv).length ≤ 100000 := Nat.le_trans (ofL_len _ _) (by rw [List.length_take]; omega)
    rw [← hK] at hown hKl ⊢
    obtain ⟨n, hn⟩ : ∃ n, n = K.length := ⟨_, rfl⟩
    have HO := Lib.hid hown
    have HB := Lib.hid hbel
    have HKK := Lib.hid hKl
    clear hown
    by_cases hlt : i < len
    · have hil : i < L.length := by have := HN.out; omega
      obtain ⟨b, off, rfl, hb, hc⟩ : ∃ b off, a = some ⟨b, off, none⟩ ∧ b < w.heap.size ∧ ∀ i (hi : i < L.length), L[i].here w b (off + i * 6) := by
        rcases HL.out with h | h
        · rw [h] at hil; simp at hil
        · exact h
      have hx := (hc i hil).below hbel hb
      have hst := ofL_snoc L i hil lv
      obtain ⟨x, hxx⟩ : ∃ x, L[i] = x := ⟨_, rfl⟩
      rw [hxx] at hx hst
      rw [← hK] at hst
      have HST := Lib.hid hst
      obtain ⟨c0, c1, c2, c3, c4, c5⟩ := hx
      have HKE := Lib.hid (And.intro hK hn)
      rw [← hn]
      rw [← hn] at HO
      have HNN := Lib.hid hn
      clear hc hbel hxx hst hn hK hKl
      by_cases he : x.lv = lv
      · subst he
        obtain ⟨W1, hW1⟩ : ∃ W1, wr.alloc (.cells #[.int .i64 x.lv, .int .i64 x.nu, .int .i64 x.ct, .int .i64 x.sz, .string x.f, .string x.l] 57) = W1 := ⟨_, rfl⟩
        obtain ⟨W2, hW2⟩ : ∃ W2, W1.alloc (.cells #[.int .i64 x.lv, .int .i64 x.nu, .int .i64 x.ct, .int .i64 x.sz, .string x.f, .string x.l] 57) = W2 := ⟨_, rfl⟩
        have hs1 : W1.heap.size = wr.heap.size + 1 := by rw [← hW1]; simp
        have hr2 : OwnF W2 w.heap.size (.slice av n capv) K := by rw [← hW2, ← hW1]; exact World.ownsRow.alloc (World.ownsRow.alloc HO.out _) _
        have hb2 : Below w.heap.size w W2 := by rw [← hW2, ← hW1]; exact (HB.out.alloc HB.out.size _).alloc (by simp; have := HB.out.size; omega) _
        have hnew : x.here W2 (wr.heap.size + 1) 0 := by rw [← hW2, ← hs1]; constructor <;> simp [go_sem]
        have HR := Lib.hid (And.intro hr2 (And.intro hb2 hnew))
        have k0 : W1.cell? ⟨wr.heap.size, 0, none⟩ = some (.int .i64 x.lv) := by rw [← hW1]; simp [go_sem]
        have k1 : W1.cell? ⟨wr.heap.size, 1, none⟩ = some (.int .i64 x.nu) := by rw [← hW1]; simp [go_sem]
        have k2 : W1.cell? ⟨wr.heap.size, 2, none⟩ = some (.int .i64 x.ct) := by rw [← hW1]; simp [go_sem]
        have k3 : W1.cell? ⟨wr.heap.size, 3, none⟩ = some (.int .i64 x.sz) := by rw [← hW1]; simp [go_sem]
        have k4 : W1.cell? ⟨wr.heap.size, 4, none⟩ = some (.string x.f) := by rw [← hW1]; simp [go_sem]
        have k5 : W1.cell? ⟨wr.heap.size, 5, none⟩ = some (.string x.l) := by rw [← hW1]; simp [go_sem]
        have hst : ofL (L.take (i + 1)) x.lv = K ++ [x] := by rw [HST.out, if_pos rfl]
        have HST2 := Lib.hid hst
        clear hr2 hb2 hnew hst
        go_wp2_with (at_builtin; refine wpl_app_f rfl _ _ rfl w.heap.size (.slice av n capv) K rfl HR.out.1 (wr.heap.size + 1) x rfl HR.out.2.2 (by have := HKK.out; omega) HR.out.2.1.size ?_; intro a3 cap3 w3 ho3 hb3)
        have HR3 := Lib.hid (And.intro ho3 (HR.out.2.1.trans (hb3.mono (Nat.le_refl _))))
        clear ho3 hb3
        go_wp2
        go_roundw
        case rel => exact ⟨i + 1, by omega, by go_num, by rw [HST2.out]; exact HR3.out.1, HR3.out.2⟩
        case measure => simp [intOf]; omega
      · have t1 : (x.lv == lv) = false := by simpa using he
        have hst : ofL (L.take (i + 1)) lv = K := by rw [HST.out, if_neg he]; simp
        have HST2 := Lib.hid hst
        clear he hst
        go_wp2
        go_roundw
        case rel => exact ⟨i + 1, by omega, by go_num, by rw [HST2.out]; exact World.ownsRow.alloc HO.out _, (HB.out.alloc HB.out.size _)⟩
        case measure => simp [intOf]; omega
    · obtain rfl : i = len := by omega
      have hend : K = ofL L lv := by rw [hK, List.take_of_length_le (by have := HN.out; omega)]
      have HE := Lib.hid hend
      clear hend hK
      go_wp2
      go_ret
      subst hn
      exact ⟨av, capv, by rw [← HE.out]; rfl, by rw [← HE.out]; exact HO.out, HB.out⟩

/-- The numbers of those of a level that meet a range. -/
def meets (p q : ByteArray) (x : Fi) : Bool := decide (kcmp x.f q ≤ 0) && decide (0 ≤ kcmp x.l p)
def ovL (L : List Fi) (lv : Int) (p q : ByteArray) : List Int := ((ofL L lv).filter (meets p q)).map (·.nu)
def ov (K : List Fi) (p q : ByteArray) : List Int := (K.filter (meets p q)).map (·.nu)
theorem ov_snoc (L : List Fi) (i : Nat) (hi : i < L.length) (p q : ByteArray) : ov (L.take (i + 1)) p q = ov (L.take i) p q ++ (if meets p q L[i] = true then [L[i].nu] else []) := by
  unfold ov
  rw [List.take_succ_eq_append_getElem hi, List.filter_append, List.map_append]
  by_cases h : meets p q L[i] = true <;> simp [h]
theorem ov_len (L : List Fi) (p q : ByteArray) : (ov L p q).length ≤ L.length := by
  unfold ov; rw [List.length_map]; exact List.length_filter_le _ _

set_option maxRecDepth 100000 in
set_option maxHeartbeats 800000 in
theorem overlap_any {w : World} {a : Option Addr} {L : List Fi} (hL : FilesAt w a L) (cap : Nat) (hlen : L.length ≤ 100000) (lv : Int) (p q : ByteArray) :
    Calls Tryz.prog 7 #[.slice a L.length cap, .int .i64 lv, .string p, .string q] w fun e w' => ∃ a' cap', e = .returned (.slice a' (ovL L lv p q).length cap') ∧ OwnI w' w.heap.size (.slice a' (ovL L lv p q).length cap') (ovL L lv p q) ∧ Below w.heap.size w w' := by
  have HV : Hid (ovL L lv p q = ov (ofL L lv) p q) := rfl
  have HL := Lib.hid hL
  have hol := ofL_len L lv
  obtain ⟨len0, hl0⟩ : ∃ len0, len0 = L.length := ⟨_, rfl⟩
  have hof := of_any hL cap hlen lv
  rw [← hl0] at hlen hol hof ⊢
  have HOF := Lib.hid hof
  have HN := Lib.hid hl0
  clear hL hl0 hof
  go_enter Tryz.func7, Tryz.ntmps7
  go_wp2_with fail
  refine HOF.out.mono ?_
  rintro _ w1 ⟨a1, cap1, rfl, hown1, hb1⟩
  simp only []
  obtain ⟨K, hK⟩ : ∃ K, K = ofL L lv := ⟨_, rfl⟩
  rw [← hK] at hown1 hol ⊢
  obtain ⟨_, hat⟩ := hown1.at_
  obtain ⟨len, hl⟩ : ∃ len, len = K.length := ⟨_, rfl⟩
  rw [← hl] at hol ⊢
  have HK := Lib.hid (And.intro hK hl)
  have HAT := Lib.hid hat
  have HB1 := Lib.hid hb1
  clear hK hl hat hown1 hb1
  go_wp2
  go_loopw [9, 16] (fun v y wr => ∃ i : Nat, i ≤ len ∧ y = .int .i64 (i : Int) ∧ OwnI wr w1.heap.size v (ov (K.take i) p q) ∧ Below w1.heap.size w1 wr) (fun _ y _ => len - (intOf y).toNat)
  case atStart => exact ⟨0, by omega, rfl, World.ownsRow_nil _ _ _ _, Below.refl _ _⟩
  case round =>
    obtain ⟨i, hi, rfl, hown, hbel⟩ := hrel
    obtain ⟨av, capv, rfl, _, _⟩ := row_form hown
    obtain ⟨R, hR⟩ : ∃ R, R = ov (K.take i) p q := ⟨_, rfl⟩
    have hRl : (ov (K.take i) p q).length ≤ 100000 := Nat.le_trans (ov_len _ _ _) (by rw [List.length_take]; omega)
    rw [← hR] at hown hRl ⊢
    obtain ⟨n, hn⟩ : ∃ n, n = R.length := ⟨_, rfl⟩
    have HO := Lib.hid hown
    have HB := Lib.hid (HB1.out.trans (hbel.mono HB1.out.size))
    have HRL := Lib.hid hRl
    have HBW := Lib.hid hbel
    clear hown
    by_cases hlt : i < len
    · have hil : i < K.length := by have := HK.out.2; omega
      obtain ⟨b, off, rfl, hb, hc⟩ : ∃ b off, a1 = some ⟨b, off, none⟩ ∧ b < w1.heap.size ∧ ∀ i (hi : i < K.length), K[i].here w1 b (off + i * 6) := by
        rcases HAT.out with h | h
        · rw [h] at hil; simp at hil
        · exact h
      have hx := (hc i hil).below hbel hb
      have hst := ov_snoc K i hil p q
      obtain ⟨x, hxx⟩ : ∃ x, K[i] = x := ⟨_, rfl⟩
      rw [hxx] at hx hst
      rw [← hR] at hst
      have HST := Lib.hid hst
      obtain ⟨c0, c1, c2, c3, c4, c5⟩ := hx
      rw [← hn]
      rw [← hn] at HO
      have HNN := Lib.hid hn
      have HRR := Lib.hid hR
      clear hc hbel hxx hst hn hR hRl
      obtain ⟨W1, hW1⟩ : ∃ W1, wr.alloc (.cells #[.int .i64 x.lv, .int .i64 x.nu, .int .i64 x.ct, .int .i64 x.sz, .string x.f, .string x.l] 57) = W1 := ⟨_, rfl⟩
      have hs1 : W1.heap.size = wr.heap.size + 1 := by rw [← hW1]; simp
      have k0 : W1.cell? ⟨wr.heap.size, 0, none⟩ = some (.int .i64 x.lv) := by rw [← hW1]; simp [go_sem]
      have k1 : W1.cell? ⟨wr.heap.size, 1, none⟩ = some (.int .i64 x.nu) := by rw [← hW1]; simp [go_sem]
      have k4 : W1.cell? ⟨wr.heap.size, 4, none⟩ = some (.string x.f) := by rw [← hW1]; simp [go_sem]
      have k5 : W1.cell? ⟨wr.heap.size, 5, none⟩ = some (.string x.l) := by rw [← hW1]; simp [go_sem]
      have hd1 : Below w1.heap.size w1 W1 := by rw [← hW1]; exact HBW.out.alloc HBW.out.size _
      have ho1 : OwnI W1 w1.heap.size (.slice av n capv) R := by rw [← hW1]; exact World.ownsRow.alloc HO.out _
      have HD1 := Lib.hid hd1
      have HO1 := Lib.hid ho1
      clear hd1 ho1
      by_cases e1 : kcmp x.f q ≤ 0
      · have t1 : decide (kcmp x.f q ≤ 0) = true := by simpa using e1
        by_cases e2 : 0 ≤ kcmp x.l p
        · have t2 : decide (0 ≤ kcmp x.l p) = true := by simpa using e2
          have hst : ov (K.take (i + 1)) p q = R ++ [x.nu] := by rw [HST.out, if_pos (by unfold meets; simp [e1, e2])]
          have HST2 := Lib.hid hst
          obtain ⟨W2, hW2⟩ : ∃ W2, W1.alloc (.cells #[.int .i64 x.nu] 3) = W2 := ⟨_, rfl⟩
          have hr2 : OwnI W2 w1.heap.size (.slice av n capv) R := by rw [← hW2]; exact World.ownsRow.alloc HO1.out _
          have hb2 : Below w1.heap.size w1 W2 := by rw [← hW2]; exact HD1.out.alloc HD1.out.size _
          have hnew : W2.cell? ⟨wr.heap.size + 1, 0, none⟩ = some (.int .i64 x.nu) := by rw [← hW2, ← hs1]; simp [go_sem]
          have HR := Lib.hid (And.intro hr2 (And.intro hb2 hnew))
          have HZ := Lib.hid (show w1.heap.size ≤ W2.heap.size from hb2.size)
          clear hr2 hb2 hnew hst
          go_wp2_with (first | (go_at_call 22; refine (compare_any _ _ _).mono ?_; rintro e w' ⟨rfl, rfl⟩) | (at_builtin; refine wpl_app_i rfl _ _ rfl w1.heap.size (.slice av n capv) R rfl HR.out.1 (wr.heap.size + 1) x.nu rfl HR.out.2.2 (by have := HRL.out; omega) HZ.out ?_; intro a3 cap3 w3 ho3 hb3))
          have HR3 := Lib.hid (And.intro ho3 (HR.out.2.1.trans hb3))
          clear ho3 hb3
          go_wp2
          go_roundw
          case rel => exact ⟨i + 1, by omega, by go_num, by rw [HST2.out]; exact HR3.out.1, HR3.out.2⟩
          case measure => simp [intOf]; omega
        · have t2 : decide (0 ≤ kcmp x.l p) = false := by simpa using e2
          have hst : ov (K.take (i + 1)) p q = R := by rw [HST.out, if_neg (by unfold meets; simp [e2])]; simp
          have HST2 := Lib.hid hst
          clear hst e2
          go_wp2_with (go_at_call 22; refine (compare_any _ _ _).mono ?_; rintro e w' ⟨rfl, rfl⟩)
          go_roundw
          case rel => exact ⟨i + 1, by omega, by go_num, by rw [HST2.out]; exact HO1.out, HD1.out⟩
          case measure => simp [intOf]; omega
      · have t1 : decide (kcmp x.f q ≤ 0) = false := by simpa using e1
        have hst : ov (K.take (i + 1)) p q = R := by rw [HST.out, if_neg (by unfold meets; simp [e1])]; simp
        have HST2 := Lib.hid hst
        clear hst e1
        go_wp2_with (go_at_call 22; refine (compare_any _ _ _).mono ?_; rintro e w' ⟨rfl, rfl⟩)
        go_roundw
        case rel => exact ⟨i + 1, by omega, by go_num, by rw [HST2.out]; exact HO1.out, HD1.out⟩
        case measure => simp [intOf]; omega
    · obtain rfl : i = len := by omega
      have hend : R = ovL L lv p q := by rw [hR, List.take_of_length_le (by have := HK.out.2; omega), HK.out.1, HV.out]
      have HE := Lib.hid hend
      clear hend hR
      go_wp2
      go_ret
      subst hn
      exact ⟨av, capv, by rw [← HE.out]; rfl, by rw [← HE.out]; exact row_mono HO.out HB1.out.size, HB.out⟩
end Go.Proofs.YtnfpnmfgppamgaaGreat
