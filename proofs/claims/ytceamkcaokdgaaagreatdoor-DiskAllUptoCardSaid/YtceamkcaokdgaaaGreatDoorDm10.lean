import Derived.Test.YtceamkcaokdgaaaGreatDoorDm9
import Derived.Test.YtceamkcaokdgaaaGreatDoorDm3
set_option linter.unusedSimpArgs false
set_option linter.unusedVariables false
/-
  The document's disk: how it lies; what only reads it: IsName, guard, at, Used, names, List, Read.
-/
namespace Go.Proofs.YtceamkcaokdgaaaGreatDoor
open Go.RowKit

def cFl (p : ByteArray × Fl) : List Value := [.string p.1, .string p.2.data, .int .i64 (p.2.syn : Int)]
theorem eFl_info : (Tryz.prog.info? 121).map (fun i => (i.zero, i.size, i.bytes)) = some (some (.agg #[.string ⟨#[]⟩, .string ⟨#[]⟩, .int .i64 0]), 3, 40) := by kernel_rfl
theorem eFl : Elm Tryz.prog 66 121 3 40 cFl where
  und := Tryz.underlying66
  info := by
    obtain ⟨i0, hi0, hz0, hs0, hy0⟩ := info_parts eFl_info
    exact ⟨i0, _, hi0, hz0, hs0, hy0, rfl⟩
  pos := by decide
  few := by decide
  len _ := rfl
  one := by
    intro x u hu
    simp [cFl] at hu
    rcases hu with rfl | rfl | rfl <;> rfl
def fzN : Option Fz → Int
  | none => -1
  | some z => (z.n : Int)
/-- At rb stands the document's disk R; the blocks of F are no fuse's. -/
structure RfAt (F : Nat → Prop) (w : World) (rb : Nat) (lv : Value) (R : Dk) : Prop where
  c0 : w.cell? ⟨rb, 0, none⟩ = some lv
  c1 : w.cell? ⟨rb, 1, none⟩ = some (.bool (!R.on))
  c2 : w.cell? ⟨rb, 2, none⟩ = some (.int .i64 R.quota)
  c3 : w.cell? ⟨rb, 3, none⟩ = some (.int .i64 (fzN R.fuse))
  c4 : ∃ x : Int, w.cell? ⟨rb, 4, none⟩ = some (.int .i64 x) ∧ ∀ z, R.fuse = some z → z.flip = x
  c5 : ∃ a n c, w.cell? ⟨rb, 5, none⟩ = some (.slice a n c) ∧ ∀ z, R.fuse = some z → RdC F w (.slice a n c) z.cuts
  c6 : w.cell? ⟨rb, 6, none⟩ = some (.int .i64 (R.acts : Int))
  fz : ∀ j, w.frozen? ⟨rb, j, none⟩ = false
  row : Own eFl w 0 lv R.m
  ne : lv.ownBlock ≠ some rb
  ok : R.Ok
  nd : keysN R.m
def RFoot (rb : Nat) (lv : Value) (q : Nat) : Prop := q = rb ∨ lv.ownBlock = some q
variable {F G : Nat → Prop} {w w' : World} {rb : Nat} {lv : Value} {R : Dk}
theorem RfAt.ltb (h : RfAt F w rb lv R) : rb < w.heap.size := World.block_lt_of_cell? w _ h.c0
theorem RfAt.lt (h : RfAt F w rb lv R) : ∀ q, RFoot rb lv q → q < w.heap.size := by
  rintro q (rfl | hq)
  · exact h.ltb
  · exact (h.row.lt q hq).2
theorem RfAt.turn (h : RfAt F w rb lv R) (ht : Tn G w w') (hG : ∀ q, q < w.heap.size → G q → F q ∧ ¬ RFoot rb lv q) : RfAt F w' rb lv R := by
  have hn : ¬ G rb := fun e => (hG rb h.ltb e).2 (.inl rfl)
  obtain ⟨x, h4, h4b⟩ := h.c4
  obtain ⟨a, n, c, h5, h5b⟩ := h.c5
  exact ⟨ht.cell h.c0 hn, ht.cell h.c1 hn, ht.cell h.c2 hn, ht.cell h.c3 hn, ⟨x, ht.cell h4 hn, h4b⟩, ⟨a, n, c, ht.cell h5 hn, fun z hz => (h5b z hz).tn ht (fun q hq e => (hG q hq e).1)⟩, ht.cell h.c6 hn,
    fun j => (ht.frozen (p := ⟨rb, j, none⟩) h.ltb hn).trans (h.fz j), ht.row h.row (fun q hq e => (hG q (h.row.lt q hq).2 e).2 (.inr hq)), h.ne, h.ok, h.nd⟩
theorem RfAt.below (h : RfAt F w rb lv R) (hb : Below w.heap.size w w') : RfAt F w' rb lv R := h.turn (G := fun _ => False) (Tn.ofBelow hb) (fun _ _ e => e.elim)
theorem RfAt.more (h : RfAt F w rb lv R) {F' : Nat → Prop} (hF : ∀ q, F' q → F q ∨ w.heap.size ≤ q) : RfAt F' w rb lv R := by
  obtain ⟨a, n, c, h5, h5b⟩ := h.c5
  refine ⟨h.c0, h.c1, h.c2, h.c3, h.c4, ⟨a, n, c, h5, fun z hz => ?_⟩, h.c6, h.fz, h.row, h.ne, h.ok, h.nd⟩
  obtain ⟨a', c', e, hr⟩ := h5b z hz
  refine ⟨a', c', e, hr.imp id ?_⟩
  rintro ⟨b, off, ha, hbf, hbl, hc⟩
  exact ⟨b, off, ha, fun hg => (hF b hg).elim hbf (fun h => by omega), hbl, hc⟩
theorem rf_form (h : RfAt F w rb lv R) : ∃ a cap, lv = .slice a R.m.length cap ∧ R.m.length ≤ cap ∧ cap ≤ 9223372036854775807 := by
  obtain ⟨a, cap, hv, h1, h2⟩ := row_form h.row
  exact ⟨a, cap, hv, h1, h2⟩
theorem rf_cells {B : Nat} {v : Value} {m : Fm} (h : Own eFl w B v m) {i : Nat} (hi : i < m.length) :
    ∃ g cap, v = .slice (some ⟨g, 0, none⟩) m.length cap ∧ B ≤ g ∧ g < w.heap.size ∧ w.cell? ⟨g, i * 3, none⟩ = some (.string m[i].1) ∧ w.cell? ⟨g, i * 3 + 1, none⟩ = some (.string m[i].2.data) ∧ w.cell? ⟨g, i * 3 + 2, none⟩ = some (.int .i64 (m[i].2.syn : Int)) := by
  have h0 := h
  obtain ⟨h1, h2⟩ := h
  rcases h2 with ⟨_, h3⟩ | ⟨g, cap, cur, rfl, hg, hh, hn, hc, hcl, htk⟩
  · omega
  · have c0 := h0.cellAt (i * 3) (by omega)
    have c1 := h0.cellAt (i * 3 + 1) (by omega)
    have c2 := h0.cellAt (i * 3 + 2) (by omega)
    have e0 := eFl.get m i 0 hi (by decide)
    have e1 := eFl.get m i 1 hi (by decide)
    have e2 := eFl.get m i 2 hi (by decide)
    rw [Nat.add_zero] at e0
    rw [e0] at c0
    rw [e1] at c1
    rw [e2] at c2
    exact ⟨g, cap, rfl, hg, (Array.getElem?_eq_some_iff.1 hh).1, c0, c1, c2⟩
theorem strEq (s : ByteArray) : (s.toList == s.toList) = true := beq_self_eq_true _
theorem strNe {u s : ByteArray} (h : u ≠ s) : (u.toList == s.toList) = false := by
  rw [beq_eq_false_iff_ne]
  intro e
  rw [ByteArray.toList_eq, ByteArray.toList_eq] at e
  exact h (ba_inj e)

theorem okc_false {c : UInt8} (h : okc c = false) : ¬ (97 ≤ c.toNat ∧ c.toNat ≤ 122) ∧ ¬ (48 ≤ c.toNat ∧ c.toNat ≤ 57) ∧ c.toNat ≠ 46 ∧ c.toNat ≠ 45 ∧ c.toNat ≠ 95 ∧ c.toNat ≠ 47 := by
  have hall : ∀ n, n < 256 → okc (UInt8.ofNat n) = false → ¬ (97 ≤ n ∧ n ≤ 122) ∧ ¬ (48 ≤ n ∧ n ≤ 57) ∧ n ≠ 46 ∧ n ≠ 45 ∧ n ≠ 95 ∧ n ≠ 47 := by decide +kernel
  exact hall c.toNat c.toNat_lt (by simpa using h)
theorem okc_true {c : UInt8} (h : okc c = true) : (97 ≤ c.toNat ∧ c.toNat ≤ 122) ∨ (48 ≤ c.toNat ∧ c.toNat ≤ 57) ∨ c.toNat = 46 ∨ c.toNat = 45 ∨ c.toNat = 95 ∨ c.toNat = 47 := by
  have hall : ∀ n, n < 256 → okc (UInt8.ofNat n) = true → (97 ≤ n ∧ n ≤ 122) ∨ (48 ≤ n ∧ n ≤ 57) ∨ n = 46 ∨ n = 45 ∨ n = 95 ∨ n = 47 := by decide +kernel
  exact hall c.toNat c.toNat_lt (by simpa using h)
set_option maxRecDepth 100000 in
set_option maxHeartbeats 1000000 in
theorem risname_any (s : ByteArray) (hs : s.size ≤ 140737488351232) (w : World) : Calls Tryz.prog 120 #[.string s] w fun e w' => e = .returned (.bool (nmB s)) ∧ w = w' := by
  by_cases h0 : s.size < 1
  · have hn : nmB s = false := by
      unfold nmB
      have : s.size = 0 := by omega
      simp [this]
    rw [hn]
    have t0 : (s.size : Int) < 1 := by omega
    clear hn h0
    go_enter Tryz.func120, Tryz.ntmps120
    go_wp2
    go_ret
    exact ⟨rfl, rfl⟩
  · by_cases h1 : 64 < s.size
    · have hn : nmB s = false := by
        unfold nmB
        have : ¬ s.size ≤ 64 := by omega
        simp [this]
      rw [hn]
      have t0 : ¬ (s.size : Int) < 1 := by omega
      have t1 : (64 : Int) < (s.size : Int) := by omega
      clear hn h0 h1
      go_enter Tryz.func120, Tryz.ntmps120
      go_wp2
      go_ret
      exact ⟨rfl, rfl⟩
    · have hn : nmB s = s.data.toList.all okc := by
        unfold nmB
        have e1 : s.size ≠ 0 := by omega
        have e2 : s.size ≤ 64 := by omega
        simp [e1, e2]
      rw [hn]
      obtain ⟨v, hv⟩ : ∃ v, s.data.toList.all okc = v := ⟨_, rfl⟩
      rw [hv]
      have HV := Lib.hid hv
      have t0 : ¬ (s.size : Int) < 1 := by omega
      have t1 : ¬ (64 : Int) < (s.size : Int) := by omega
      have hs64 : s.size ≤ 64 := by omega
      clear hn h0 h1 hv hs
      go_enter Tryz.func120, Tryz.ntmps120
      go_wp2
      go_loop [3] (fun x => ∃ i : Nat, i ≤ s.size ∧ x = .int .i64 (i : Int) ∧ (s.data.toList.take i).all okc = true) (fun x => s.size - (intOf x).toNat)
      case atStart => exact ⟨0, by omega, rfl, rfl⟩
      case round =>
        obtain ⟨i, hi, rfl, hall⟩ := hrel
        have HA := Lib.hid hall
        clear hall
        by_cases hlt : i < s.size
        · have hil : i < s.data.toList.length := by simpa using hlt
          have hst : s.data.toList.take (i + 1) = s.data.toList.take i ++ [s.data.toList[i]] := List.take_succ_eq_append_getElem hil
          have hgi : s.data.toList[i] = s[i] := rfl
          rw [hgi] at hst
          have HST := Lib.hid hst
          have hmem : s[i] ∈ s.data.toList := by rw [← hgi]; exact List.getElem_mem hil
          have HMM := Lib.hid hmem
          obtain ⟨c, hc⟩ : ∃ c, s[i] = c := ⟨_, rfl⟩
          have HC := Lib.hid hc
          have r1 : (i : Int) < (s.size : Int) := by omega
          have e0 : ((s[i]).toNat : Int) = (c.toNat : Int) := by rw [hc]
          have e0n : (s[i]).toNat = c.toNat := by rw [hc]
          clear hst hgi hmem hc
          cases hok : okc c with
          | true =>
            rcases okc_true hok with ⟨a1, a2⟩ | ⟨a1, a2⟩ | a1 | a1 | a1 | a1
            all_goals
              have HO := Lib.hid hok
              clear hok
              go_wp2_with fail
              go_round
              case rel => exact ⟨i + 1, by omega, by go_num, by rw [HST.out, List.all_append, HA.out, HC.out]; simp [HO.out]⟩
              case measure => simp [intOf]; omega
          | false =>
            obtain ⟨a1, a2, a3, a4, a5, a6⟩ := okc_false hok
            have f3 : ¬ (c.toNat : Int) = 46 := by omega
            have f4 : ¬ (c.toNat : Int) = 45 := by omega
            have f5 : ¬ (c.toNat : Int) = 95 := by omega
            have f6 : ¬ (c.toNat : Int) = 47 := by omega
            have g3 : ((c.toNat : Int) == 46) = false := by simp; omega
            have g4 : ((c.toNat : Int) == 45) = false := by simp; omega
            have g5 : ((c.toNat : Int) == 95) = false := by simp; omega
            have g6 : ((c.toNat : Int) == 47) = false := by simp; omega
            have hc2 : (c.toNat < 48) ∨ (57 < c.toNat ∧ c.toNat < 97) ∨ 122 < c.toNat := by omega
            have hv0 : v = false := by
              rw [← HV.out, Bool.eq_false_iff]
              intro e
              have := List.all_eq_true.1 e _ HMM.out
              rw [HC.out, hok] at this
              cases this
            subst hv0
            clear hok a1 a2
            rcases hc2 with a1 | ⟨a1, a2⟩ | a1
            · go_wp2_with fail
              go_ret
              exact ⟨rfl, rfl⟩
            · have k2 : decide ((c.toNat : Int) ≤ 57) = false := by simp; omega
              go_wp2_with fail
              go_ret
              exact ⟨rfl, rfl⟩
            · have k1 : decide ((c.toNat : Int) ≤ 122) = false := by simp; omega
              have k2 : decide ((c.toNat : Int) ≤ 57) = false := by simp; omega
              go_wp2_with fail
              go_ret
              exact ⟨rfl, rfl⟩
        · obtain rfl : i = s.size := by omega
          have hv1 : v = true := by
            rw [← HV.out]
            have := HA.out
            rw [List.take_of_length_le (by simp)] at this
            exact this
          subst hv1
          go_wp2
          go_ret
          exact ⟨rfl, rfl⟩
end Go.Proofs.YtceamkcaokdgaaaGreatDoor
/-
  The document's disk: guard, at, Used, names, List, Read.
-/
namespace Go.Proofs.YtceamkcaokdgaaaGreatDoor
open Go.RowKit
variable {F G : Nat → Prop} {w w' : World} {rb : Nat} {lv : Value} {R : Dk}

theorem rguard_any (h : RfAt F w rb lv R) (s : ByteArray) (hs : s.size ≤ 140737488351232) : Calls Tryz.prog 115 #[.pointer (some ⟨rb, 0, none⟩), .string s] w fun e w' => e = .returned (.int .i64 (R.asked [s])) ∧ w = w' := by
  have c1 := h.c1
  have hr : R.asked [s] = if R.on = false then 20 else if nmB s = true then 0 else 21 := by
    unfold Dk.asked
    cases R.on <;> simp
  rw [hr]
  clear hr h
  cases hon : R.on with
  | false =>
    rw [hon] at c1
    rw [if_pos rfl]
    clear hon
    go_enter Tryz.func115, Tryz.ntmps115
    go_wp2
    go_ret
    exact ⟨rfl, rfl⟩
  | true =>
    rw [hon] at c1
    rw [if_neg (by decide)]
    have hn := risname_any s hs w
    cases hb : nmB s with
    | true =>
      rw [hb] at hn
      rw [if_pos rfl]
      clear hon hb
      go_enter Tryz.func115, Tryz.ntmps115
      go_wp2_with (go_at_call 120; refine hn.mono ?_; rintro e w1 ⟨rfl, rfl⟩)
      go_ret
      exact ⟨rfl, rfl⟩
    | false =>
      rw [hb] at hn
      rw [if_neg (by decide)]
      clear hon hb
      go_enter Tryz.func115, Tryz.ntmps115
      go_wp2_with (go_at_call 120; refine hn.mono ?_; rintro e w1 ⟨rfl, rfl⟩)
      go_ret
      exact ⟨rfl, rfl⟩

set_option maxRecDepth 100000 in
theorem rat_any (h : RfAt F w rb lv R) (s : ByteArray) : Calls Tryz.prog 116 #[.pointer (some ⟨rb, 0, none⟩), .string s] w fun e w' => e = .returned (.int .i64 (atI R.m s)) ∧ w = w' := by
  obtain ⟨a, cap, rfl, _, _⟩ := rf_form h
  have c0 := h.c0
  have hlen := h.ok.few
  obtain ⟨n, hn⟩ : ∃ n, n = R.m.length := ⟨_, rfl⟩
  rw [← hn] at c0 hlen
  obtain ⟨av, hav⟩ : ∃ av, atI R.m s = av := ⟨_, rfl⟩
  rw [hav]
  have HV := Lib.hid hav
  have H := Lib.hid h.row
  have HN := Lib.hid hn
  clear h hn hav
  go_enter Tryz.func116, Tryz.ntmps116
  go_wp2
  go_loop [5] (fun x => ∃ i : Nat, i ≤ n ∧ x = .int .i64 (i : Int) ∧ ∀ j (hj : j < R.m.length), j < i → R.m[j].1 ≠ s) (fun x => n - (intOf x).toNat)
  case atStart => exact ⟨0, by omega, rfl, fun j hj h => by omega⟩
  case round =>
    obtain ⟨i, hi, rfl, hbef⟩ := hrel
    have HB := Lib.hid hbef
    clear hbef
    by_cases hlt : i < n
    · have hil : i < R.m.length := by have := HN.out; omega
      obtain ⟨g, cap', hv, _, hg, k0, _, _⟩ := rf_cells H.out hil
      injection hv with e1 e2 e3
      subst e1
      obtain ⟨u, hu⟩ : ∃ u, R.m[i].1 = u := ⟨_, rfl⟩
      rw [hu] at k0
      have HU := Lib.hid hu
      have r1 : (i : Int) < (n : Int) := by omega
      clear e2 e3 hu
      by_cases hus : u = s
      · have hat : av = (i : Int) := by
          rw [← HV.out]
          have h1 := atN_of hil (by rw [HU.out]; exact hus) (fun j hj hji => HB.out j hj hji)
          unfold atI
          rw [h1, if_pos hil]
        subst hat hus
        have t1 := strEq u
        go_wp2
        go_ret
        exact ⟨rfl, rfl⟩
      · have t1 := strNe hus
        have HU2 := Lib.hid hus
        clear hus
        go_wp2
        go_round
        case rel => exact ⟨i + 1, by omega, by go_num, fun j hj hji => by
          by_cases e : j = i
          · subst e; rw [HU.out]; exact HU2.out
          · exact HB.out j hj (by omega)⟩
        case measure => simp [intOf]; omega
    · obtain rfl : i = n := by omega
      have hat : av = -1 := by
        rw [← HV.out]
        have h1 := atN_none (m := R.m) (s := s) (fun j hj => HB.out j hj (by have := HN.out; omega))
        unfold atI
        rw [h1, if_neg (by omega)]
      subst hat
      go_wp2
      go_ret
      exact ⟨rfl, rfl⟩

set_option maxRecDepth 100000 in
theorem rused_any (h : RfAt F w rb lv R) : Calls Tryz.prog 42 #[.pointer (some ⟨rb, 0, none⟩)] w fun e w' => e = .returned (.int .i64 (used R.m : Int)) ∧ w = w' := by
  obtain ⟨a, cap, rfl, _, _⟩ := rf_form h
  have c0 := h.c0
  have hlen := h.ok.few
  obtain ⟨n, hn⟩ : ∃ n, n = R.m.length := ⟨_, rfl⟩
  rw [← hn] at c0 hlen
  have H := Lib.hid (And.intro h.row h.ok)
  have HN := Lib.hid hn
  obtain ⟨U, hU⟩ : ∃ U, used R.m = U := ⟨_, rfl⟩
  rw [hU]
  have HU := Lib.hid hU
  clear h hn hU
  go_enter Tryz.func42, Tryz.ntmps42
  go_wp2
  go_loop [3, 4] (fun y x => ∃ (i b : Nat), i ≤ n ∧ x = .int .i64 (i : Int) ∧ y = .int .i64 (b : Int) ∧ b = used (R.m.take i)) (fun _ x => n - (intOf x).toNat)
  case atStart => exact ⟨0, 0, by omega, rfl, rfl, by simp [used]⟩
  case round =>
    obtain ⟨i, b, hi, rfl, rfl, hb⟩ := hrel
    have HBB := Lib.hid hb
    have hbb : b ≤ 1048576 * i := by rw [hb]; exact rused_le R.m H.out.2.syn i
    clear hb
    by_cases hlt : i < n
    · have hil : i < R.m.length := by have := HN.out; omega
      obtain ⟨g, cap', hv, _, hg, _, k1, _⟩ := rf_cells H.out.1 hil
      injection hv with e1 e2 e3
      subst e1
      have hst := used_take_succ R.m i hil
      have hsz := (H.out.2.syn R.m[i] (List.getElem_mem hil)).2
      obtain ⟨d, hd⟩ : ∃ d, R.m[i].2.data = d := ⟨_, rfl⟩
      rw [hd] at k1 hst hsz
      have HST := Lib.hid hst
      have r1 : (i : Int) < (n : Int) := by omega
      clear e2 e3 hd hst
      go_wp2
      go_round
      case rel => exact ⟨i + 1, b + d.size, by omega, by go_num, by go_num, by rw [HST.out, HBB.out]⟩
      case measure => simp [intOf]; omega
    · obtain rfl : i = n := by omega
      obtain rfl : U = b := by rw [← HU.out, HBB.out, List.take_of_length_le (by have := HN.out; omega)]
      go_wp2
      go_ret
      exact ⟨rfl, rfl⟩

/-- The names that begin so, as they lie. -/
def preN (p : ByteArray) (m : Fm) : List ByteArray := (m.map (·.1)).filter (fun s => p.data.toList.isPrefixOf s.data.toList)
theorem preN_take_succ (p : ByteArray) (m : Fm) (i : Nat) (hi : i < m.length) : preN p (m.take (i + 1)) = preN p (m.take i) ++ if p.data.toList.isPrefixOf m[i].1.data.toList then [m[i].1] else [] := by
  unfold preN
  rw [List.take_succ_eq_append_getElem hi, List.map_append, List.filter_append]
  congr 1
  simp only [List.map_cons, List.map_nil, List.filter_cons, List.filter_nil]
theorem preN_len (p : ByteArray) (m : Fm) : (preN p m).length ≤ m.length := by
  unfold preN
  exact Nat.le_trans (List.length_filter_le _ _) (by rw [List.length_map]; exact Nat.le_refl _)
theorem preN_sort (p : ByteArray) (m : Fm) : sortB (preN p m) = (sortB (m.map (·.1))).filter (fun s => p.data.toList.isPrefixOf s.data.toList) :=
  (sortB_eq (((sortB_perm _).filter _).trans (List.Perm.refl _)) (List.Pairwise.filter _ (sortB_sorted _))).symm
theorem preN_nodup {p : ByteArray} {m : Fm} (h : keysN m) : (preN p m).Nodup := List.Nodup.sublist List.filter_sublist h
set_option maxRecDepth 100000 in
set_option maxHeartbeats 1000000 in
theorem rnames_any (h : RfAt F w rb lv R) (p : ByteArray) : Calls Tryz.prog 124 #[.pointer (some ⟨rb, 0, none⟩), .string p] w fun e w' =>
    ∃ a c, e = .returned (.slice a (sortB (preN p R.m)).length c) ∧ Own kTexts w' w.heap.size (.slice a (sortB (preN p R.m)).length c) (sortB (preN p R.m)) ∧ Below w.heap.size w w' := by
  have hlt := h.ltb
  have hpl := (sortB_perm (preN p R.m)).length_eq
  have hsd := fun W v (hv : SrX W v (preN p R.m)) => rsorted_any _ (preN p R.m) (Nat.le_refl _) (preN_nodup h.nd) (Nat.le_trans (preN_len p R.m) h.ok.few) (fun s hs => by
    obtain ⟨q, hq, rfl⟩ := List.mem_map.1 (List.mem_filter.1 hs).1
    have := h.ok.nam q hq
    omega) W v hv
  obtain ⟨ln, hln⟩ : ∃ ln, (preN p R.m).length = ln := ⟨_, rfl⟩
  rw [hln] at hpl
  rw [hpl]
  have HS := Lib.hid hsd
  have HLN := Lib.hid hln
  clear hsd hln
  obtain ⟨a, cap, rfl, _, _⟩ := rf_form h
  have c0 := h.c0
  have hlen := h.ok.few
  obtain ⟨n, hn⟩ : ∃ n, n = R.m.length := ⟨_, rfl⟩
  rw [← hn] at c0 hlen
  have H := Lib.hid (And.intro h.row (And.intro hpl hlt))
  have HN := Lib.hid hn
  clear h hn hpl hlt
  go_enter Tryz.func124, Tryz.ntmps124
  go_wp2
  go_loopw [5, 6] (fun y x wr => ∃ i : Nat, i ≤ n ∧ x = .int .i64 (i : Int) ∧ Own kTexts wr w.heap.size y (preN p (R.m.take i)) ∧ Below w.heap.size w wr) (fun _ x _ => n - (intOf x).toNat)
  case atStart => exact ⟨0, by omega, rfl, World.ownsRow_nil _ _ _ _, Below.refl _ _⟩
  case round =>
    obtain ⟨i, hi, rfl, hown, hbel⟩ := hrel
    obtain ⟨m, hm⟩ : ∃ m, (preN p (R.m.take i)).length = m := ⟨_, rfl⟩
    have hmi : m ≤ i := by rw [← hm]; exact Nat.le_trans (preN_len p _) (by rw [List.length_take]; omega)
    obtain ⟨av, capv, rfl, _, _⟩ := row_form hown
    rw [hm] at hown ⊢
    have HO := Lib.hid hown
    have HB := Lib.hid hbel
    have HM := Lib.hid hm
    have d0 := (hbel.cell (p := ⟨rb, 0, none⟩) H.out.2.2).trans c0
    clear hown hbel hm
    by_cases hlt : i < n
    · have hil : i < R.m.length := by have := HN.out; omega
      obtain ⟨g, cap', hv, _, hg, k0, _, _⟩ := rf_cells H.out.1 hil
      injection hv with e1 e2 e3
      subst e1
      have d1 := (HB.out.cell (p := ⟨g, i * 3, none⟩) hg).trans k0
      have hst := preN_take_succ p R.m i hil
      obtain ⟨u, hu⟩ : ∃ u, R.m[i].1 = u := ⟨_, rfl⟩
      rw [hu] at d1 hst
      have hbg := begins_any u p
      have r1 : (i : Int) < (n : Int) := by omega
      cases hpre : p.data.toList.isPrefixOf u.data.toList with
      | true =>
        rw [hpre, if_pos rfl] at hst
        have HST := Lib.hid hst
        have HBG : Hid (∀ W : World, Calls Tryz.prog 163 #[.string u, .string p] W fun e w' => e = .returned (.bool true) ∧ Below W.heap.size W w') := fun W => by rw [← hpre]; exact hbg W
        clear e2 e3 hu hst hpre hbg k0
        go_wp2_with (first
          | (at_builtin; refine wpl_app kTexts rfl _ _ rfl rfl rfl (l := preN p (R.m.take i)) (l2 := [u]) (B := w.heap.size) (row_below HO.out (H1.out.alloc H1.out.size (.cells #[.string u] 9))) (src_one _ u _ _ rfl 1) (by rw [HM.out]; simp; omega) (by have := HB.out.size; have := H1.out.size; simp; omega) ?_; rw [HM.out]; intro a3 cap3 w3 ho3 hb3 _ _; have H3 := Lib.hid (And.intro ho3 ((HB.out.trans ((H1.out.alloc H1.out.size (.cells #[.string u] 9)).mono HB.out.size)).trans hb3)); clear ho3 hb3)
          | (go_at_call 163; refine (HBG.out _).mono ?_; rintro e w1 ⟨rfl, hb1⟩; have H1 := Lib.hid hb1; have d2 := (hb1.cell (p := ⟨rb, 0, none⟩) (World.block_lt_of_cell? _ _ d0)).trans d0; have d3 := (hb1.cell (p := ⟨g, i * 3, none⟩) (World.block_lt_of_cell? _ _ d1)).trans d1; clear hb1))
        go_roundw
        case rel => exact ⟨i + 1, by omega, by go_num, by rw [HST.out]; exact H3.out.1, H3.out.2⟩
        case measure => simp [intOf]; omega
      | false =>
        rw [hpre, if_neg (by decide), List.append_nil] at hst
        have HST := Lib.hid hst
        have HBG : Hid (∀ W : World, Calls Tryz.prog 163 #[.string u, .string p] W fun e w' => e = .returned (.bool false) ∧ Below W.heap.size W w') := fun W => by rw [← hpre]; exact hbg W
        clear e2 e3 hu hst hpre hbg k0
        go_wp2_with (go_at_call 163; refine (HBG.out _).mono ?_; rintro e w1 ⟨rfl, hb1⟩; have H1 := Lib.hid hb1; clear hb1)
        go_roundw
        case rel => exact ⟨i + 1, by omega, by go_num, by rw [HST.out]; exact row_below HO.out H1.out, HB.out.trans (H1.out.mono HB.out.size)⟩
        case measure => simp [intOf]; omega
    · obtain rfl : i = n := by omega
      have hall : R.m.take i = R.m := List.take_of_length_le (by have := HN.out; omega)
      rw [hall] at HO HM
      have hml : m = ln := by rw [← HM.out, HLN.out]
      subst hml
      clear hall
      go_wp2_with (go_at_call 164; with_reducible refine (HS.out _ _ (SrX.of HO.out)).mono ?_; rw [HM.out]; rintro e w2 ⟨a2, c2, rfl, ho2, hb2⟩; have H2 := Lib.hid (And.intro ho2 hb2); clear ho2 hb2)
      go_ret
      exact ⟨a2, c2, rfl, row_mono H2.out.1 HB.out.size, HB.out.trans (H2.out.2.mono HB.out.size)⟩
end Go.Proofs.YtceamkcaokdgaaaGreatDoor
