/-
  MergeFirst: its walk.
-/
import Derived.Test.YtalhobkhhgggeaaMgO
namespace Go.Proofs.Ytalhobkhhgggeaa
open Go.RowKit Go.Lib

theorem less_cmp : ∀ (a b : List UInt8), Op.bytesLess a b = decide (Lib.compareBytes a b < 0)
  | [], [] => by simp [Op.bytesLess, Lib.compareBytes]
  | [], _ :: _ => by simp [Op.bytesLess, Lib.compareBytes]
  | _ :: _, [] => by simp [Op.bytesLess, Lib.compareBytes]
  | a :: x, b :: y => by
    rw [Op.bytesLess, Lib.compareBytes, less_cmp x y]
    by_cases h : a < b
    · simp [h]
    · by_cases h2 : b < a
      · have hne : ¬ a = b := fun e => by subst e; exact h h2
        simp [h, h2, hne]
      · have e : a = b := by
          rw [UInt8.lt_iff_toNat_lt] at h h2
          exact UInt8.toNat_inj.1 (by omega)
        subst e
        simp [h]
theorem less_k (a b : ByteArray) : Op.bytesLess a.toList b.toList = decide (kc a b < 0) := by
  rw [ByteArray.toList_eq, ByteArray.toList_eq, less_cmp]
  rfl
theorem ris_at {l : List KV} (h : Ris l) {i j : Nat} (hi : i < j) (hj : j < l.length) : kc (l[i]'(by omega)).1 l[j].1 < 0 := List.pairwise_iff_getElem.1 h i j (by omega) hj hi
/-- Where a key stands. -/
theorem pos_le {l : List KV} (h : Ris l) {i j : Nat} (hi : i < l.length) (hj : j < l.length) (hk : kc l[i].1 l[j].1 < 0) : i < j := by
  rcases Nat.lt_trichotomy i j with h1 | h1 | h1
  · exact h1
  · subst h1; rw [kc_self] at hk; omega
  · have := ris_at h h1 hi
    rw [kc_neg] at this
    omega
theorem RdP.at_ {w : World} {a : Option Addr} {c : Nat} {l : List KV} (h : RdP w a c l) {i : Nat} (hi : i < l.length) : ∃ b off, a = some ⟨b, off, none⟩ ∧ w.cell? ⟨b, off + i * 2, none⟩ = some (.string l[i].1) ∧ w.cell? ⟨b, off + i * 2 + 1, none⟩ = some (.string l[i].2) := by
  obtain ⟨b, off, h1, h2⟩ := h.2.2.resolve_left (fun e => by rw [e] at hi; simp at hi)
  exact ⟨b, off, h1, h2 i hi⟩
/-- None of the first k lists has the key, where it was not found. -/
def NoKey (L : List (List KV)) (mk : ByteArray) (k : Nat) (b : Bool) : Prop := b = false → ∀ t, t < k → ∀ l', L[t]? = some l' → ∀ p ∈ l', p.1 ≠ mk
def NoIn (x : List KV) (mk : ByteArray) (j : Nat) (b : Bool) : Prop := b = false → ∀ t, t < j → ∀ (h : t < x.length), x[t].1 ≠ mk
def Ahead (m x : List KV) (j t : Nat) : Prop := ∀ j' (h : j' < x.length), j ≤ j' → ∀ p (hp : p < m.length), m[p].1 = x[j'].1 → t ≤ p
set_option maxRecDepth 100000 in
set_option maxHeartbeats 8000000 in
theorem first_walk (a : Option Addr) (len cap : Nat) (L : List (List KV)) {W : World} (hl : LsIn W a len cap L) (w : World) (hW : W = w) :
    Calls Try.prog 5 #[.slice a len cap] w fun e w' => e = .returned (.bool true) ∧ Below w.heap.size w w' := by
  subst hW
  obtain ⟨hl1, hrd, hsz, hl6, hcap, hcap2⟩ := hl
  have hlt := light_any (c := cap) hrd hsz (by omega)
  rw [hl1] at hlt
  have HL := Lib.hid (And.intro hlt (And.intro hl1 hrd))
  clear hlt hl1 hrd hsz
  cases hb : lightL L with
  | false =>
    have hlt := HL.out.1
    rw [hb] at hlt
    have HLT := Lib.hid hlt
    clear hlt hb HL
    go_enter Try.func5, Try.ntmps5
    go_wp2_with fail
    refine HLT.out.mono ?_
    rintro e w1 ⟨rfl, hb1⟩
    have H1 := Lib.hid hb1
    clear hb1
    go_wp2_with fail
    refine (alive_any _).mono ?_
    rintro e w2 ⟨rfl, hb2⟩
    have H2 := Lib.hid hb2
    clear hb2
    go_wp2_with fail
    go_ret
    exact ⟨rfl, H1.out.trans (H2.out.mono H1.out.size)⟩
  | true =>
    have hlt := HL.out.1
    rw [hb] at hlt
    have h40 : len ≤ 40 ∧ lenS L ≤ 2000 := by
      unfold lightL at hb
      simp only [Bool.and_eq_true, decide_eq_true_eq] at hb
      exact ⟨by have := hb.1.2; rw [HL.out.2.1] at this; exact this, hb.2⟩
    obtain ⟨h40, h2000⟩ := h40
    have HLT := Lib.hid (And.intro hlt h2000)
    clear hlt hb h2000
    go_enter Try.func5, Try.ntmps5
    go_wp2_with fail
    refine HLT.out.1.mono ?_
    rintro e w1 ⟨rfl, hb1⟩
    have hm1 := merge_any (c := cap) (HL.out.2.2.below hb1) (by rw [HL.out.2.1]; omega) (by have := HLT.out.2; unfold lenS at this; omega)
    rw [HL.out.2.1] at hm1
    have H1 := Lib.hid (And.intro hb1 hm1)
    clear hb1 hm1
    go_wp2_with fail
    refine H1.out.2.mono ?_
    rintro e w2 ⟨hb2, ⟨hr, m, va, rfl, ho, hla, hlo⟩ | ⟨hr, rfl⟩⟩
    · have hn5 : m.length ≤ 2000 := by have := HLT.out.2; unfold lenS at this; omega
      obtain ⟨aa, ac, rfl, hrp⟩ := rdP_own ho
      have hb02 := H1.out.1.trans (hb2.mono H1.out.1.size)
      obtain ⟨n, hn⟩ : ∃ n, m.length = n := ⟨_, rfl⟩
      rw [hn] at hn5 ⊢
      have H2 := Lib.hid (And.intro hr (And.intro hla (And.intro hrp (And.intro hb02 (And.intro hn (HL.out.2.2.below hb02))))))
      clear hb2 hr ho hla hlo hrp hb02 hn
      go_wp2_with fail
      go_loopw [5] (fun y wr => ∃ i d : Nat, i ≤ n ∧ y = .int .i64 (i : Int) ∧ wr = w2.drewN d) (fun y _ => n - (RowKit.intOf y).toNat)
      case atStart => exact ⟨0, 0, by omega, rfl, rfl⟩
      case round =>
        obtain ⟨i, d, hi, rfl, hwr⟩ := hrel
        have HW := Lib.hid hwr
        clear hwr
        by_cases hlt : i < n
        · have him : i < m.length := by rw [H2.out.2.2.2.2.1]; exact hlt
          obtain ⟨mb, mo, rfl, q0, q1⟩ := H2.out.2.2.1.at_ him
          have u0 : wr.cell? ⟨mb, mo + i * 2, none⟩ = some (.string m[i].1) := by rw [HW.out]; exact q0
          have u1 : wr.cell? ⟨mb, mo + i * 2 + 1, none⟩ = some (.string m[i].2) := by rw [HW.out]; exact q1
          obtain ⟨mk, hmk⟩ : ∃ z, m[i].1 = z := ⟨_, rfl⟩
          obtain ⟨mv, hmv⟩ : ∃ z, m[i].2 = z := ⟨_, rfl⟩
          rw [hmk] at u0 q0
          rw [hmv] at u1 q1
          have HM := Lib.hid (And.intro q0 (And.intro q1 (And.intro hmk (And.intro hmv (H2.out.2.1.fst _ (List.getElem_mem him))))))
          have z1 : (i : Int) < (n : Int) := by omega
          clear q0 q1 hmv
          by_cases h0 : i = 0
          · have g1 : ¬ (0 < i) := by omega
            clear hmk h0
            go_wp2_with fail
            go_quiet (fail)
            clear g1
            go_wp2_with fail
            obtain ⟨wo, hwo⟩ : ∃ wo, wo = wr.drewN nq := ⟨_, rfl⟩
            rw [← hwo]
            have hwd : ∃ d, wo = w2.drewN d := ⟨_, by rw [hwo, HW.out]; exact World.drewN_drewN _ _ _⟩
            have HWO := Lib.hid hwd
            clear hwo hwd u0 u1 HW
            go_loopw [6, 7] (fun f y wr => ∃ (k d : Nat) (b : Bool), k ≤ len ∧ y = .int .i64 (k : Int) ∧ f = .bool b ∧ NoKey L mk k b ∧ wr = w2.drewN d) (fun _ y _ => len - (RowKit.intOf y).toNat)
            case atStart =>
              obtain ⟨d, hd⟩ := HWO.out
              exact ⟨0, d, false, by omega, rfl, rfl, fun _ t ht => by omega, hd⟩
            case round =>
              obtain ⟨k, d2, b, hk, rfl, rfl, hno, hwr⟩ := hrel
              have HW := Lib.hid (And.intro hwr hno)
              clear hwr hno
              have z2 : (0 : Int) ≤ (k : Int) := by omega
              cases b with
              | true =>
                by_cases hkl : k < len
                all_goals
                  go_wp2_with fail
                  go_roundw
                  case rel => exact ⟨i + 1, d2, by omega, by go_num, HW.out.1⟩
                  case measure => simp [RowKit.intOf]; omega
              | false =>
                by_cases hkl : k < len
                · have hkL : k < L.length := by rw [HL.out.2.1]; exact hkl
                  obtain ⟨ab, ao, rfl, hc⟩ := H2.out.2.2.2.2.2.resolve_left (fun e => by rw [e] at hkL; simp at hkL)
                  obtain ⟨xa, xc, c0, hrx⟩ := hc k hkL
                  obtain ⟨x, hx⟩ : ∃ x, L[k] = x := ⟨_, rfl⟩
                  rw [hx] at c0 hrx
                  obtain ⟨xn, hxn⟩ : ∃ xn, x.length = xn := ⟨_, rfl⟩
                  rw [hxn] at c0
                  have hxn5 : xn ≤ 2000 := by
                    have h1 := len_le_sum (L := L) (l := x) (by rw [← hx]; exact List.getElem_mem hkL)
                    have := HLT.out.2
                    unfold lenS at this
                    omega
                  have z3 : (k : Int) < (len : Int) := by omega
                  have HX := Lib.hid (And.intro hx (And.intro hxn (And.intro hrx c0)))
                  clear hc hx hxn hrx c0
                  obtain ⟨wp, hwp⟩ : ∃ wp, wp = wr := ⟨_, rfl⟩
                  rw [← hwp]
                  have HWP := Lib.hid (show ∃ d, wp = w2.drewN d from ⟨d2, by rw [hwp]; exact HW.out.1⟩)
                  clear hwp
                  go_wp2_with fail
                  go_loopw [6, 8] (fun f y wr => ∃ (j d : Nat) (b : Bool), j ≤ xn ∧ y = .int .i64 (j : Int) ∧ f = .bool b ∧ NoIn x mk j b ∧ wr = w2.drewN d) (fun _ y _ => xn - (RowKit.intOf y).toNat)
                  case atStart =>
                    obtain ⟨d, hd⟩ := HWP.out
                    exact ⟨0, d, false, by omega, rfl, rfl, fun _ t ht => by omega, hd⟩
                  case round =>
                    obtain ⟨j, d3, b, hj, rfl, rfl, hni, hwr⟩ := hrel
                    have HJ := Lib.hid (And.intro hwr hni)
                    have v0 : wr.cell? ⟨ab, ao + k, none⟩ = some (.slice xa xn xc) := by rw [hwr]; exact HX.out.2.2.2
                    have m0 : wr.cell? ⟨mb, mo + i * 2, none⟩ = some (.string mk) := by rw [hwr]; exact HM.out.1
                    have m1 : wr.cell? ⟨mb, mo + i * 2 + 1, none⟩ = some (.string mv) := by rw [hwr]; exact HM.out.2.1
                    have z4 : (0 : Int) ≤ (j : Int) := by omega
                    by_cases hjx : j < xn
                    · have hjl : j < x.length := by rw [HX.out.2.1]; exact hjx
                      obtain ⟨xb, xo, rfl, x0, x1⟩ := HX.out.2.2.1.at_ hjl
                      have y0 : wr.cell? ⟨xb, xo + j * 2, none⟩ = some (.string x[j].1) := by rw [hwr]; exact x0
                      have y1 : wr.cell? ⟨xb, xo + j * 2 + 1, none⟩ = some (.string x[j].2) := by rw [hwr]; exact x1
                      obtain ⟨xk, hxk⟩ : ∃ z, x[j].1 = z := ⟨_, rfl⟩
                      obtain ⟨xv, hxv⟩ : ∃ z, x[j].2 = z := ⟨_, rfl⟩
                      rw [hxk] at y0
                      rw [hxv] at y1
                      have z5 : (j : Int) < (xn : Int) := by omega
                      by_cases hkk : xk = mk
                      · have hfx : First L x[j] := ⟨k, x, by rw [← HX.out.1]; exact List.getElem?_eq_getElem hkL, List.getElem_mem hjl, fun t l' ht hl' p hp => by rw [hxk, hkk]; exact HW.out.2 rfl t ht l' hl' p hp⟩
                        have hvv : xv = mv := by
                          have h1 := First.uniq H2.out.1 hfx HM.out.2.2.2.2 (by rw [hxk, hkk, HM.out.2.2.1])
                          rw [← hxv, h1, HM.out.2.2.2.1]
                        have se : (xk.toList == mk.toList) = true := by rw [hkk]; simp
                        have se2 : (xv.toList == mv.toList) = true := by rw [hvv]; simp
                        have se3 : (xv.toList != mv.toList) = false := by rw [hvv]; simp
                        have se4 : xv.toList = mv.toList := by rw [hvv]
                        clear hfx hvv hkk hxk hxv x0 x1 hwr hni
                        go_wp2_with fail
                        go_quiet (fail)
                        go_wp2_with fail
                        obtain ⟨w9, hw9⟩ : ∃ w9, w9 = wr.drewN nq := ⟨_, rfl⟩
                        rw [← hw9]
                        have v0' : w9.cell? ⟨ab, ao + k, none⟩ = some (.slice (some ⟨xb, xo, none⟩) xn xc) := by rw [hw9]; exact v0
                        have m1' : w9.cell? ⟨mb, mo + i * 2 + 1, none⟩ = some (.string mv) := by rw [hw9]; exact m1
                        have y1' : w9.cell? ⟨xb, xo + j * 2 + 1, none⟩ = some (.string xv) := by rw [hw9]; exact y1
                        have HW9 := Lib.hid hw9
                        clear hw9
                        go_quiet (fail)
                        go_wp2_with fail
                        go_roundw
                        case rel => exact ⟨j + 1, _, true, by omega, by go_num, rfl, (fun h => nomatch h), by rw [HW9.out, HJ.out.1]; simp only [World.drewN_drewN]; rfl⟩
                        case measure => simp [RowKit.intOf]; omega
                      · have se : (xk.toList == mk.toList) = false := str_ne hkk
                        have hnx : NoIn x mk (j + 1) b := fun hb t ht hx => by
                          by_cases htj : t = j
                          · subst htj; rw [hxk]; exact hkk
                          · exact hni hb t (by omega) hx
                        have HNX := Lib.hid hnx
                        clear hkk hxk hxv x0 x1 hwr hni hnx
                        go_wp2_with fail
                        go_quiet (fail)
                        go_wp2_with fail
                        go_roundw
                        case rel => exact ⟨j + 1, _, b, by omega, by go_num, rfl, HNX.out, by rw [HJ.out.1]; exact World.drewN_drewN _ _ _⟩
                        case measure => simp [RowKit.intOf]; omega
                    · obtain rfl : j = xn := by omega
                      have hnk : NoKey L mk (k + 1) b := fun hb t ht l' hl' p hp => by
                        by_cases htk : t = k
                        · subst htk
                          rw [List.getElem?_eq_getElem hkL, HX.out.1] at hl'
                          obtain rfl := Option.some.inj hl'
                          obtain ⟨q, hq, rfl⟩ := List.mem_iff_getElem.1 hp
                          exact hni hb q (by rw [← HX.out.2.1]; exact hq) hq
                        · exact HW.out.2 rfl t (by omega) l' hl' p hp
                      have HNK := Lib.hid hnk
                      clear hwr hni hnk
                      go_wp2_with fail
                      go_roundw
                      case rel => exact ⟨k + 1, d3, b, by omega, by go_num, rfl, HNK.out, HJ.out.1⟩
                      case measure => simp [RowKit.intOf]; omega
                · exfalso
                  obtain ⟨q, l', h1, h2, _⟩ := HM.out.2.2.2.2
                  have h3 := (List.getElem?_eq_some_iff.1 h1).1
                  rw [HL.out.2.1] at h3
                  exact HW.out.2 rfl q (by omega) l' h1 _ h2 HM.out.2.2.1
          · have hpm : i - 1 < m.length := by omega
            obtain ⟨mb', mo', e, p0, _⟩ := H2.out.2.2.1.at_ hpm
            injection e with e
            injection e with e1 e2
            subst e1 e2
            have up : wr.cell? ⟨mb, mo + (i - 1) * 2, none⟩ = some (.string m[i - 1].1) := by rw [HW.out]; exact p0
            have hlt2 := ris_at H2.out.2.1.ris (i := i - 1) (j := i) (by omega) him
            rw [hmk] at hlt2
            obtain ⟨pk, hpk⟩ : ∃ z, m[i - 1].1 = z := ⟨_, rfl⟩
            rw [hpk] at up hlt2
            have sl : Op.bytesLess pk.toList mk.toList = true := by rw [less_k]; exact decide_eq_true hlt2
            have g1 : (0 : Int) < (i : Int) := by omega
            have g1n : 0 < i := by omega
            have g2 : (0 : Int) ≤ (i : Int) - 1 := by omega
            have g3 : (i : Int) - 1 < (n : Int) := by omega
            have g5 : ((i : Int) - 1).toNat = i - 1 := by omega
            have g4 : IntKind.i64.wrap ((i : Int) - 1) = (i : Int) - 1 := IntWalk.i64_in _ (by omega)
            clear hmk hpk hlt2 p0
            go_wp2_with fail
            go_quiet (fail)
            clear g4 g5 sl up
            go_wp2_with fail
            obtain ⟨wo, hwo⟩ : ∃ wo, wo = wr.drewN nq := ⟨_, rfl⟩
            rw [← hwo]
            have hwd : ∃ d, wo = w2.drewN d := ⟨_, by rw [hwo, HW.out]; exact World.drewN_drewN _ _ _⟩
            have HWO := Lib.hid hwd
            clear hwo hwd u0 u1 HW
            go_loopw [6, 7] (fun f y wr => ∃ (k d : Nat) (b : Bool), k ≤ len ∧ y = .int .i64 (k : Int) ∧ f = .bool b ∧ NoKey L mk k b ∧ wr = w2.drewN d) (fun _ y _ => len - (RowKit.intOf y).toNat)
            case atStart =>
              obtain ⟨d, hd⟩ := HWO.out
              exact ⟨0, d, false, by omega, rfl, rfl, fun _ t ht => by omega, hd⟩
            case round =>
              obtain ⟨k, d2, b, hk, rfl, rfl, hno, hwr⟩ := hrel
              have HW := Lib.hid (And.intro hwr hno)
              clear hwr hno
              have z2 : (0 : Int) ≤ (k : Int) := by omega
              cases b with
              | true =>
                by_cases hkl : k < len
                all_goals
                  go_wp2_with fail
                  go_roundw
                  case rel => exact ⟨i + 1, d2, by omega, by go_num, HW.out.1⟩
                  case measure => simp [RowKit.intOf]; omega
              | false =>
                by_cases hkl : k < len
                · have hkL : k < L.length := by rw [HL.out.2.1]; exact hkl
                  obtain ⟨ab, ao, rfl, hc⟩ := H2.out.2.2.2.2.2.resolve_left (fun e => by rw [e] at hkL; simp at hkL)
                  obtain ⟨xa, xc, c0, hrx⟩ := hc k hkL
                  obtain ⟨x, hx⟩ : ∃ x, L[k] = x := ⟨_, rfl⟩
                  rw [hx] at c0 hrx
                  obtain ⟨xn, hxn⟩ : ∃ xn, x.length = xn := ⟨_, rfl⟩
                  rw [hxn] at c0
                  have hxn5 : xn ≤ 2000 := by
                    have h1 := len_le_sum (L := L) (l := x) (by rw [← hx]; exact List.getElem_mem hkL)
                    have := HLT.out.2
                    unfold lenS at this
                    omega
                  have z3 : (k : Int) < (len : Int) := by omega
                  have HX := Lib.hid (And.intro hx (And.intro hxn (And.intro hrx c0)))
                  clear hc hx hxn hrx c0
                  obtain ⟨wp, hwp⟩ : ∃ wp, wp = wr := ⟨_, rfl⟩
                  rw [← hwp]
                  have HWP := Lib.hid (show ∃ d, wp = w2.drewN d from ⟨d2, by rw [hwp]; exact HW.out.1⟩)
                  clear hwp
                  go_wp2_with fail
                  go_loopw [6, 8] (fun f y wr => ∃ (j d : Nat) (b : Bool), j ≤ xn ∧ y = .int .i64 (j : Int) ∧ f = .bool b ∧ NoIn x mk j b ∧ wr = w2.drewN d) (fun _ y _ => xn - (RowKit.intOf y).toNat)
                  case atStart =>
                    obtain ⟨d, hd⟩ := HWP.out
                    exact ⟨0, d, false, by omega, rfl, rfl, fun _ t ht => by omega, hd⟩
                  case round =>
                    obtain ⟨j, d3, b, hj, rfl, rfl, hni, hwr⟩ := hrel
                    have HJ := Lib.hid (And.intro hwr hni)
                    have v0 : wr.cell? ⟨ab, ao + k, none⟩ = some (.slice xa xn xc) := by rw [hwr]; exact HX.out.2.2.2
                    have m0 : wr.cell? ⟨mb, mo + i * 2, none⟩ = some (.string mk) := by rw [hwr]; exact HM.out.1
                    have m1 : wr.cell? ⟨mb, mo + i * 2 + 1, none⟩ = some (.string mv) := by rw [hwr]; exact HM.out.2.1
                    have z4 : (0 : Int) ≤ (j : Int) := by omega
                    by_cases hjx : j < xn
                    · have hjl : j < x.length := by rw [HX.out.2.1]; exact hjx
                      obtain ⟨xb, xo, rfl, x0, x1⟩ := HX.out.2.2.1.at_ hjl
                      have y0 : wr.cell? ⟨xb, xo + j * 2, none⟩ = some (.string x[j].1) := by rw [hwr]; exact x0
                      have y1 : wr.cell? ⟨xb, xo + j * 2 + 1, none⟩ = some (.string x[j].2) := by rw [hwr]; exact x1
                      obtain ⟨xk, hxk⟩ : ∃ z, x[j].1 = z := ⟨_, rfl⟩
                      obtain ⟨xv, hxv⟩ : ∃ z, x[j].2 = z := ⟨_, rfl⟩
                      rw [hxk] at y0
                      rw [hxv] at y1
                      have z5 : (j : Int) < (xn : Int) := by omega
                      by_cases hkk : xk = mk
                      · have hfx : First L x[j] := ⟨k, x, by rw [← HX.out.1]; exact List.getElem?_eq_getElem hkL, List.getElem_mem hjl, fun t l' ht hl' p hp => by rw [hxk, hkk]; exact HW.out.2 rfl t ht l' hl' p hp⟩
                        have hvv : xv = mv := by
                          have h1 := First.uniq H2.out.1 hfx HM.out.2.2.2.2 (by rw [hxk, hkk, HM.out.2.2.1])
                          rw [← hxv, h1, HM.out.2.2.2.1]
                        have se : (xk.toList == mk.toList) = true := by rw [hkk]; simp
                        have se2 : (xv.toList == mv.toList) = true := by rw [hvv]; simp
                        have se3 : (xv.toList != mv.toList) = false := by rw [hvv]; simp
                        have se4 : xv.toList = mv.toList := by rw [hvv]
                        clear hfx hvv hkk hxk hxv x0 x1 hwr hni
                        go_wp2_with fail
                        go_quiet (fail)
                        go_wp2_with fail
                        obtain ⟨w9, hw9⟩ : ∃ w9, w9 = wr.drewN nq := ⟨_, rfl⟩
                        rw [← hw9]
                        have v0' : w9.cell? ⟨ab, ao + k, none⟩ = some (.slice (some ⟨xb, xo, none⟩) xn xc) := by rw [hw9]; exact v0
                        have m1' : w9.cell? ⟨mb, mo + i * 2 + 1, none⟩ = some (.string mv) := by rw [hw9]; exact m1
                        have y1' : w9.cell? ⟨xb, xo + j * 2 + 1, none⟩ = some (.string xv) := by rw [hw9]; exact y1
                        have HW9 := Lib.hid hw9
                        clear hw9
                        go_quiet (fail)
                        go_wp2_with fail
                        go_roundw
                        case rel => exact ⟨j + 1, _, true, by omega, by go_num, rfl, (fun h => nomatch h), by rw [HW9.out, HJ.out.1]; simp only [World.drewN_drewN]; rfl⟩
                        case measure => simp [RowKit.intOf]; omega
                      · have se : (xk.toList == mk.toList) = false := str_ne hkk
                        have hnx : NoIn x mk (j + 1) b := fun hb t ht hx => by
                          by_cases htj : t = j
                          · subst htj; rw [hxk]; exact hkk
                          · exact hni hb t (by omega) hx
                        have HNX := Lib.hid hnx
                        clear hkk hxk hxv x0 x1 hwr hni hnx
                        go_wp2_with fail
                        go_quiet (fail)
                        go_wp2_with fail
                        go_roundw
                        case rel => exact ⟨j + 1, _, b, by omega, by go_num, rfl, HNX.out, by rw [HJ.out.1]; exact World.drewN_drewN _ _ _⟩
                        case measure => simp [RowKit.intOf]; omega
                    · obtain rfl : j = xn := by omega
                      have hnk : NoKey L mk (k + 1) b := fun hb t ht l' hl' p hp => by
                        by_cases htk : t = k
                        · subst htk
                          rw [List.getElem?_eq_getElem hkL, HX.out.1] at hl'
                          obtain rfl := Option.some.inj hl'
                          obtain ⟨q, hq, rfl⟩ := List.mem_iff_getElem.1 hp
                          exact hni hb q (by rw [← HX.out.2.1]; exact hq) hq
                        · exact HW.out.2 rfl t (by omega) l' hl' p hp
                      have HNK := Lib.hid hnk
                      clear hwr hni hnk
                      go_wp2_with fail
                      go_roundw
                      case rel => exact ⟨k + 1, d3, b, by omega, by go_num, rfl, HNK.out, HJ.out.1⟩
                      case measure => simp [RowKit.intOf]; omega
                · exfalso
                  obtain ⟨q, l', h1, h2, _⟩ := HM.out.2.2.2.2
                  have h3 := (List.getElem?_eq_some_iff.1 h1).1
                  rw [HL.out.2.1] at h3
                  exact HW.out.2 rfl q (by omega) l' h1 _ h2 HM.out.2.2.1
        · obtain rfl : i = n := by omega
          have HWA := Lib.hid (show ∃ d, wr = w2.drewN d from ⟨d, HW.out⟩)
          obtain ⟨wo, hwo⟩ : ∃ wo, wo = wr := ⟨_, rfl⟩
          rw [← hwo]
          have HWO : Hid (∃ d, wo = w2.drewN d) := by rw [hwo]; exact HWA
          clear hwo HWA HW
          go_wp2_with fail
          go_loopw [9] (fun y wr => ∃ k d : Nat, k ≤ len ∧ y = .int .i64 (k : Int) ∧ wr = w2.drewN d) (fun y _ => len - (RowKit.intOf y).toNat)
          case atStart =>
            obtain ⟨d, hd⟩ := HWO.out
            exact ⟨0, d, by omega, rfl, hd⟩
          case round =>
            obtain ⟨k, d2, hk, rfl, hwr⟩ := hrel
            have HW := Lib.hid hwr
            clear hwr
            have z2 : (0 : Int) ≤ (k : Int) := by omega
            by_cases hkl : k < len
            · have hkL : k < L.length := by rw [HL.out.2.1]; exact hkl
              obtain ⟨ab, ao, rfl, hc⟩ := H2.out.2.2.2.2.2.resolve_left (fun e => by rw [e] at hkL; simp at hkL)
              obtain ⟨xa, xc, c0, hrx⟩ := hc k hkL
              have hrisx := H2.out.1 _ (List.getElem_mem hkL)
              have hallx := H2.out.2.1.all _ (List.getElem_mem hkL)
              obtain ⟨x, hx⟩ : ∃ x, L[k] = x := ⟨_, rfl⟩
              rw [hx] at c0 hrx hrisx hallx
              obtain ⟨xn, hxn⟩ : ∃ xn, x.length = xn := ⟨_, rfl⟩
              rw [hxn] at c0
              have hxn5 : xn ≤ 2000 := by
                have h1 := len_le_sum (L := L) (l := x) (by rw [← hx]; exact List.getElem_mem hkL)
                have := HLT.out.2
                unfold lenS at this
                omega
              have z3 : (k : Int) < (len : Int) := by omega
              have HX := Lib.hid (And.intro hrisx (And.intro hxn (And.intro hrx (And.intro c0 hallx))))
              clear hc hx hxn hrx c0 hrisx hallx
              obtain ⟨wp, hwp⟩ : ∃ wp, wp = wr := ⟨_, rfl⟩
              rw [← hwp]
              have HWP := Lib.hid (show ∃ d, wp = w2.drewN d from ⟨d2, by rw [hwp]; exact HW.out⟩)
              clear hwp
              go_wp2_with fail
              go_loopw [10, 11] (fun s y wr => ∃ j t d : Nat, j ≤ xn ∧ y = .int .i64 (j : Int) ∧ s = .int .i64 (t : Int) ∧ t ≤ i ∧ Ahead m x j t ∧ wr = w2.drewN d) (fun _ y _ => xn - (RowKit.intOf y).toNat)
              case atStart =>
                obtain ⟨d, hd⟩ := HWP.out
                exact ⟨0, 0, d, by omega, rfl, rfl, by omega, fun _ _ _ _ _ _ => Nat.zero_le _, hd⟩
              case round =>
                obtain ⟨j, t, d3, hj, rfl, rfl, htn, hah, hwr⟩ := hrel
                have v0 : wr.cell? ⟨ab, ao + k, none⟩ = some (.slice xa xn xc) := by rw [hwr]; exact HX.out.2.2.2.1
                have z4 : (0 : Int) ≤ (j : Int) := by omega
                by_cases hjx : j < xn
                · have hjl : j < x.length := by rw [HX.out.2.1]; exact hjx
                  obtain ⟨xb, xo, rfl, x0, _⟩ := HX.out.2.2.1.at_ hjl
                  obtain ⟨q, hq, hqk⟩ := HX.out.2.2.2.2 _ (List.getElem_mem hjl)
                  obtain ⟨p0, hp0, rfl⟩ := List.mem_iff_getElem.1 hq
                  have hp0n : p0 < i := by rw [← H2.out.2.2.2.2.1]; exact hp0
                  have htp := hah j hjl (Nat.le_refl _) p0 hp0 hqk
                  obtain ⟨mb, mo, rfl, _, _⟩ := H2.out.2.2.1.at_ hp0
                  obtain ⟨xk, hxk⟩ : ∃ z, x[j].1 = z := ⟨_, rfl⟩
                  rw [hxk] at x0 hqk
                  have z5 : (j : Int) < (xn : Int) := by omega
                  have HJ := Lib.hid (And.intro hwr (And.intro hah (And.intro hxk (And.intro hqk x0))))
                  have HWQ := Lib.hid (show ∃ d, wr = w2.drewN d from ⟨d3, hwr⟩)
                  clear hwr hah hxk hqk x0 hq
                  go_wp2_with fail
                  clear v0
                  obtain ⟨wq, hwq⟩ : ∃ wq, wq = wr := ⟨_, rfl⟩
                  rw [← hwq]
                  rw [← hwq] at HWQ
                  clear hwq
                  go_loopw [10] (fun s wr => ∃ t d : Nat, t ≤ p0 ∧ s = .int .i64 (t : Int) ∧ wr = w2.drewN d) (fun s _ => p0 + 1 - (RowKit.intOf s).toNat)
                  case atStart =>
                    obtain ⟨d, hd⟩ := HWQ.out
                    exact ⟨t, d, htp, rfl, hd⟩
                  case round =>
                    obtain ⟨s, d4, hs, rfl, hwr⟩ := hrel
                    have hsm : s < m.length := by omega
                    obtain ⟨mb', mo', e, m0, _⟩ := H2.out.2.2.1.at_ hsm
                    injection e with e
                    injection e with e1 e2
                    subst e1 e2
                    have v0 : wr.cell? ⟨ab, ao + k, none⟩ = some (.slice (some ⟨xb, xo, none⟩) xn xc) := by rw [hwr]; exact HX.out.2.2.2.1
                    have y0 : wr.cell? ⟨xb, xo + j * 2, none⟩ = some (.string xk) := by rw [hwr]; exact HJ.out.2.2.2.2
                    have u0 : wr.cell? ⟨mb, mo + s * 2, none⟩ = some (.string m[s].1) := by rw [hwr]; exact m0
                    obtain ⟨mk, hmk⟩ : ∃ z, m[s].1 = z := ⟨_, rfl⟩
                    rw [hmk] at u0
                    have z6 : (s : Int) < (i : Int) := by omega
                    have z7 : (0 : Int) ≤ (s : Int) := by omega
                    have HS := Lib.hid (And.intro hwr hmk)
                    clear hwr hmk m0
                    by_cases hless : kc mk xk < 0
                    · have sl : Op.bytesLess mk.toList xk.toList = true := by rw [less_k]; exact decide_eq_true hless
                      have hsp : s < p0 := pos_le H2.out.2.1.ris hsm hp0 (by rw [HS.out.2, HJ.out.2.2.2.1]; exact hless)
                      clear hless
                      go_wp2_with fail
                      go_quiet (fail)
                      go_wp2_with fail
                      go_roundw
                      case rel => exact ⟨s + 1, _, by omega, by go_num, by rw [HS.out.1]; exact World.drewN_drewN _ _ _⟩
                      case measure => simp [RowKit.intOf]; omega
                    · have sl : Op.bytesLess mk.toList xk.toList = false := by rw [less_k]; exact decide_eq_false hless
                      obtain rfl : s = p0 := by
                        rcases Nat.lt_or_ge s p0 with h | h
                        · have h1 := ris_at H2.out.2.1.ris h hp0
                          rw [HS.out.2, HJ.out.2.2.2.1] at h1
                          exact absurd h1 hless
                        · omega
                      have hmx : mk = xk := by rw [← HS.out.2, HJ.out.2.2.2.1]
                      have se2 : (mk.toList == xk.toList) = true := by rw [hmx]; simp
                      have se3 : (mk.toList != xk.toList) = false := by rw [hmx]; simp
                      have sl3 : Op.bytesLess xk.toList xk.toList = false := by rw [hmx] at sl; exact sl
                      have se4 : mk.toList = xk.toList := by rw [hmx]
                      have f1 : ((s : Int) == (i : Int)) = false := beq_eq_false_iff_ne.2 (by omega)
                      have f2 : (s == i) = false := beq_eq_false_iff_ne.2 (by omega)
                      have hah2 : Ahead m x (j + 1) s := fun j' h' hjj p hp hpk => by
                        have h1 := ris_at HX.out.1 (i := j) (j := j') (by omega) h'
                        rw [← hpk, HJ.out.2.2.1, ← hmx, ← HS.out.2] at h1
                        exact Nat.le_of_lt (pos_le H2.out.2.1.ris hsm hp h1)
                      have HAH := Lib.hid hah2
                      clear hless hmx hah2
                      go_wp2_with fail
                      go_quiet (fail)
                      go_wp2_with fail
                      obtain ⟨w9, hw9⟩ : ∃ w9, w9 = wr.drewN nq := ⟨_, rfl⟩
                      rw [← hw9]
                      have v0' : w9.cell? ⟨ab, ao + k, none⟩ = some (.slice (some ⟨xb, xo, none⟩) xn xc) := by rw [hw9]; exact v0
                      have u0' : w9.cell? ⟨mb, mo + s * 2, none⟩ = some (.string mk) := by rw [hw9]; exact u0
                      have y0' : w9.cell? ⟨xb, xo + j * 2, none⟩ = some (.string xk) := by rw [hw9]; exact y0
                      have HW9 := Lib.hid hw9
                      clear hw9
                      go_quiet (fail)
                      go_wp2_with fail
                      go_roundw
                      case rel => exact ⟨j + 1, s, _, by omega, by go_num, rfl, by omega, HAH.out, by rw [HW9.out, HS.out.1]; simp only [World.drewN_drewN]; rfl⟩
                      case measure => simp [RowKit.intOf]; omega
                · obtain rfl : j = xn := by omega
                  have HJ := Lib.hid hwr
                  clear hwr hah
                  go_wp2_with fail
                  go_roundw
                  case rel => exact ⟨k + 1, d3, by omega, by go_num, HJ.out⟩
                  case measure => simp [RowKit.intOf]; omega
            · obtain rfl : k = len := by omega
              go_wp2_with fail
              refine (alive_any _).mono ?_
              rintro e w5 ⟨rfl, hb5⟩
              have H5 := Lib.hid hb5
              clear hb5
              go_wp2_with fail
              go_ret
              have f1 : Below W.heap.size W wr := by rw [HW.out]; exact H2.out.2.2.2.1.trans ((tn_drewN (F := fun _ => False) w2 d2).below H2.out.2.2.2.1.size (fun _ e => e.elim))
              exact ⟨rfl, f1.trans (H5.out.mono f1.size)⟩
    · have H2 := Lib.hid (And.intro hb2 hr)
      clear hb2 hr
      go_wp2_with fail
      refine (alive_any _).mono ?_
      rintro e w3 ⟨rfl, hb3⟩
      have H3 := Lib.hid hb3
      clear hb3
      go_wp2_with fail
      go_ret
      have f1 := H1.out.1.trans (H2.out.1.mono H1.out.1.size)
      exact ⟨rfl, f1.trans (H3.out.mono f1.size)⟩
end Go.Proofs.Ytalhobkhhgggeaa
