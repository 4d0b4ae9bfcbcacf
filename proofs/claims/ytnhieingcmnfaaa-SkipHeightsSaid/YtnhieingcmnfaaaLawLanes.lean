/-
  The law SkipLanes's walk.
-/
import Derived.Test.YtnhieingcmnfaaaTwo
import Derived.StillTailTactics
namespace Go.Proofs.Ytnhieingcmnfaaa
open Go.RowKit Go.Maps

/-- A world behind w. -/
structure HW (w : World) where
  val : World
  ok : Below w.heap.size w val
instance (w : World) : Nonempty (HW w) := ⟨⟨w, Below.refl _ _⟩⟩
theorem wp_region_held_lit {P : Program} {id : Nat} {Q : Exit → Act → World → Prop} {a : Act} {w : World} {l : List Oper} (hm : P.follows .mixedOrders = true) (hB : Region.lexB .any l.toArray = true)
    (h : wpQuiet P l.toArray (fun w' => ∃ x : HW w, w' = x.val) (fun a' => ∀ w', (∃ x : HW w, w' = x.val) → Q .normal a' w') l a) : (Code.region id l.toArray true).wp P Q a w :=
  wp_region_quiet (C := fun w' => ∃ x : HW w, w' = x.val) hm hB ⟨⟨w.drew, (Below.refl _ _).drew⟩, rfl⟩ (by simpa using h)
theorem calls_held {P : Program} {f : FuncId} {args : Array Value} {w : World} {x : HW w} {v : Value} (h : Calls P f args x.val fun e w' => e = .returned v ∧ Below x.val.heap.size x.val w') :
    Calls P f args x.val fun e w'' => e = .returned v ∧ ∃ y : HW w, w'' = y.val :=
  h.mono fun _ w'' ⟨he, hb⟩ => ⟨he, ⟨w'', x.ok.trans (hb.mono x.ok.size)⟩, rfl⟩
theorem calls_held_same {P : Program} {f : FuncId} {args : Array Value} {w : World} {x : HW w} {v : Value} (h : Calls P f args x.val fun e w' => e = .returned v ∧ x.val = w') :
    Calls P f args x.val fun e w'' => e = .returned v ∧ ∃ y : HW w, w'' = y.val :=
  h.mono fun _ _ ⟨he, hb⟩ => ⟨he, x, hb.symm⟩
theorem NAt.held {B : Nat} {w : World} {sb : Nat} {E : List Nd} {fr : Bool} (h : NAt B w sb E fr) (x : HW w) : NAt B x.val sb E fr := h.below x.ok

set_option maxRecDepth 100000 in
set_option maxHeartbeats 2000000 in
theorem lanes_law (a : Option Addr) (len cap : Nat) (l : List ByteArray) (a2 : Option Addr) (len2 cap2 : Nat) (l2 : List Int) {W : World} (hl : StrsAt W a len l) (hlen : len ≤ maxLen) (hl2 : IntsAt W a2 len2 l2) (hlen2 : len2 ≤ maxLen) (w : World) (hWw : W = w) :
    Calls Try.prog 3 #[.slice a len cap, .slice a2 len2 cap2] w fun e w' => e = .returned (.bool true) ∧ Below w.heap.size w w' := by
  subst hWw
  unfold maxLen at hlen hlen2
  obtain ⟨hll, hcells, hwf⟩ := hl
  obtain ⟨hll2, hcells2, hwf2⟩ := hl2
  generalize hw : W = w at *
  clear hw
  by_cases hbig : 100 < len ∨ len2 = 0
  · clear hcells hwf hll hcells2 hwf2 hll2
    have t : decide ((100 : Int) < (len : Int)) = true ∨ decide ((100 : Int) < (len : Int)) = false ∧ ((len2 : Int) == 0) = true := by
      simp only [decide_eq_true_eq, decide_eq_false_iff_not, beq_iff_eq]; omega
    clear hbig
    rcases t with t1 | ⟨t1, t2⟩
    all_goals
      go_enter Try.func3, Try.ntmps3
      go_wp2_with fail
      refine (alive_any w).mono ?_
      rintro e w1 ⟨rfl, b1⟩
      go_wp2
      go_ret
      exact ⟨rfl, b1⟩
  · have HC := Lib.hid hcells
    have HLL := Lib.hid hll
    have HC2 := Lib.hid hcells2
    have HLL2 := Lib.hid hll2
    have HWF2 : Hid (∀ n ∈ l2, (Lit.int .i64 n).wf = true) := hwf2
    have HSZ : Hid (∀ s ∈ l, s.size ≤ maxLen) := hwf
    have h2 : len ≤ 100 := by omega
    have h20 : 0 < len2 := by omega
    have t2 : ((len2 : Int) == 0) = false := by simp; omega
    clear hcells hll hwf hbig hlen hcells2 hll2 hwf2
    go_enter Try.func3, Try.ntmps3
    go_wp2_with fail
    refine (new_n w).mono ?_
    rintro _ w00 ⟨sa, rfl, hn00, hb00⟩
    simp only []
    go_wp2_with fail
    refine (two_new w00 w.heap.size hb00.size hn00).mono ?_
    rintro _ w0 ⟨sb, rfl, hn0, hb0⟩
    have hbb := hb00.trans (hb0.mono hb00.size)
    simp only []
    clear hb00 hb0 hn00
    go_wp2
    go_loopw [7] (fun x wr => ∃ (i : Nat) (E : List Nd), i ≤ len ∧ x = .int .i64 (i : Int) ∧ Two w.heap.size wr sa E sb (E.map up) ∧ E.length ≤ i ∧ Below w.heap.size w wr) (fun x _ => len - (intOf x).toNat)
    case atStart => exact ⟨0, [], by omega, rfl, hn0, by simp, hbb⟩
    case round =>
      obtain ⟨i, E, hi, rfl, hn, hEl, hbel⟩ := hrel
      have HN := Lib.hid hn
      clear hn hn0 hbb
      by_cases hlt : i < len
      · obtain ⟨b, off, rfl, hb, hc⟩ : ∃ b off, a = some ⟨b, off, none⟩ ∧ b < w.heap.size ∧ ∀ i (hi : i < l.length), w.cell? ⟨b, off + i, none⟩ = some (.string l[i]) := by
          rcases HC.out with h | h
          · omega
          · exact h
        obtain ⟨b2, off2, rfl, hb2, hc2⟩ : ∃ b off, a2 = some ⟨b, off, none⟩ ∧ b < w.heap.size ∧ ∀ i (hi : i < l2.length), w.cell? ⟨b, off + i, none⟩ = some (.int .i64 l2[i]) := by
          rcases HC2.out with h | h
          · omega
          · exact h
        have hil : i < l.length := by have := HLL.out; omega
        have hml : i % len2 < l2.length := by have := HLL2.out; have := Nat.mod_lt i h20; omega
        have hci0 := hc i hil
        have hci2 := (hbel.cell (p := ⟨b2, off2 + i % len2, none⟩) hb2).trans (hc2 _ hml)
        obtain ⟨T, hT⟩ : ∃ T, l[i] = T := ⟨_, rfl⟩
        obtain ⟨hh, hhh⟩ : ∃ hh, l2[i % len2] = hh := ⟨_, rfl⟩
        have hTm := HSZ.out T (by rw [← hT]; exact List.getElem_mem hil)
        have hwh := int_wf (HWF2.out hh (by rw [← hhh]; exact List.getElem_mem hml))
        unfold maxLen at hTm
        rw [hT] at hci0
        rw [hhh] at hci2
        have hci := (hbel.cell (p := ⟨b, off + i, none⟩) hb).trans hci0
        have HCI := Lib.hid hci0
        have hrem : (i : Int).tmod (len2 : Int) = ((i % len2 : Nat) : Int) := by
          rw [Int.tmod_eq_emod_of_nonneg (by omega)]; simp
        have HREM := Lib.hid hrem
        obtain ⟨m, hm⟩ : ∃ m, m = i % len2 := ⟨_, rfl⟩
        have hmlt : m < len2 := by rw [hm]; exact Nat.mod_lt i h20
        rw [← hm] at hci2 HREM
        obtain ⟨hwh1, hwh2⟩ := hwh
        clear hc hT hc2 hhh hrem hm hil hml hci0
        by_cases hbig : 300 < T.size
        · go_wp2_with fail
          refine (alive_any wr).mono ?_
          rintro e w1 ⟨rfl, b1⟩
          go_wp2
          go_ret
          exact ⟨rfl, hbel.trans (b1.mono hbel.size)⟩
        · have ht3 : T.size ≤ 300 := by omega
          have HB := Lib.hid hbel
          have hz := hbel.size
          clear hbel
          have hrem := HREM.out
          go_wp2_with fail
          refine (two_put HN.out hz _ _ _ (by omega)).mono ?_
          rintro _ w1 ⟨rfl, hn1, hb1⟩
          simp only []
          have hz1 := hb1.size
          have hcj := (hb1.cell (p := ⟨b, off + i, none⟩) hb).trans hci
          have hck := (hb1.cell (p := ⟨b2, off2 + m, none⟩) hb2).trans hci2
          have HN1 := Lib.hid hn1.swap
          have HB1 := Lib.hid (HB.out.trans hb1)
          clear hn1 hb1 hci hci2
          go_wp2_with fail
          refine (two_put HN1.out (by omega) _ _ _ (by rw [List.length_map]; omega)).mono ?_
          rintro _ w2 ⟨rfl, hn2, hb2⟩
          rw [putL_up _ _ _ (by omega) (by omega)] at hn2
          simp only []
          have HN2 := Lib.hid hn2.swap
          have HB2 := Lib.hid (HB1.out.trans hb2)
          have hpl := putL_len E false T ⟨#[]⟩ (min (max hh 1) 12)
          have HPL := Lib.hid hpl
          clear hn2 hb2 hcj hck hpl
          go_wp2
          go_roundw
          case rel => exact ⟨i + 1, _, by omega, by go_num, HN2.out, by have := HPL.out; omega, HB2.out⟩
          case measure => simp [intOf]; omega
      · obtain rfl : i = len := by omega
        have HB := Lib.hid hbel
        have hz := hbel.size
        clear hbel
        go_wp2_with fail
        refine (lanes_n HN.out.a).mono ?_
        rintro _ w1 ⟨v1, rfl, hr1, hb1⟩
        have HN1 := Lib.hid (HN.out.below hb1)
        have HB1 := Lib.hid (HB.out.trans (hb1.mono hz))
        have hz1 := hb1.size
        simp only []
        clear hb1
        go_wp2_with fail
        refine (lanes_n HN1.out.b).mono ?_
        rintro _ w2 ⟨v2, rfl, hr2, hb2⟩
        have hr1' := (Tn.ofBelow (F := fun _ => False) hb2).row hr1 (fun _ _ e => e)
        have HN2 := Lib.hid (HN1.out.below hb2)
        have HB2 := Lib.hid (HB1.out.trans (hb2.mono (by omega)))
        have hz2 := hb2.size
        simp only []
        obtain ⟨c1, c2, c3, c4, c5, c6⟩ := lanes_up HN.out.a.hts
        obtain ⟨a1, cap1, rfl, hx⟩ := row_ints hr1'
        obtain ⟨a3, cap3, rfl, hy⟩ := row_ints hr2
        have hmono := fun j => laneN_up HN.out.a.hts j
        have hdown := fun {j j' : Nat} => laneN_mono E (j := j) (j' := j')
        have hall := laneN_all HN.out.a.hts
        obtain ⟨p, hp⟩ : ∃ p, (lanesOf E).length = p := ⟨_, rfl⟩
        obtain ⟨q, hq⟩ : ∃ q, (lanesOf (E.map up)).length = q := ⟨_, rfl⟩
        have hx2 : p = 0 ∨ ∃ g, a1 = some ⟨g, 0, none⟩ ∧ g < w2.heap.size ∧ ∀ j, j < p → w2.cell? ⟨g, j, none⟩ = some (.int .i64 (laneN E j : Int)) := by
          rcases hx with h | ⟨g, h1, _, h2, h3⟩
          · exact Or.inl (by omega)
          · exact Or.inr ⟨g, h1, h2, fun j hj => by rw [h3 j (by omega), (c5 j (by omega)).1]⟩
        have hy2 : q = 0 ∨ ∃ g, a3 = some ⟨g, 0, none⟩ ∧ g < w2.heap.size ∧ ∀ j, j < q → w2.cell? ⟨g, j, none⟩ = some (.int .i64 (laneN (E.map up) j : Int)) := by
          rcases hy with h | ⟨g, h1, _, h2, h3⟩
          · exact Or.inl (by omega)
          · exact Or.inr ⟨g, h1, h2, fun j hj => by rw [h3 j (by omega), c6 j (by omega)]⟩
        rw [hp, hq] at c1
        rw [hp] at c2 c4
        rw [hq] at c3
        rw [hp, hq]
        have HX := Lib.hid (And.intro hx2 hy2)
        have HL : Hid ((∀ j, laneN E j ≤ laneN (E.map up) j) ∧ (∀ {j j' : Nat}, j ≤ j' → laneN E j' ≤ laneN E j) ∧ laneN E 0 = E.length ∧ (p = 0 ↔ E.length = 0) ∧ ∀ j, j < p → laneN E j ≠ 0) := ⟨hmono, hdown, hall, c4, fun j hj => (c5 j (by omega)).2⟩
        clear hb2 hr1 hr1' hr2 hx hy hx2 hy2 c4 c5 c6 hmono hdown hall hp hq
        go_wp2
        go_loopw [11] (fun x wr => ∃ k : Nat, k ≤ p ∧ x = .int .i64 (k : Int) ∧ Below w2.heap.size w2 wr) (fun x _ => p - (intOf x).toNat)
        case atStart => exact ⟨0, by omega, rfl, Below.refl _ _⟩
        case round =>
          obtain ⟨k, hk, rfl, hbel⟩ := hrel
          by_cases hlt : k < p
          · obtain ⟨g1, rfl, hg1, hc1⟩ : ∃ g, a1 = some ⟨g, 0, none⟩ ∧ g < w2.heap.size ∧ ∀ j, j < p → w2.cell? ⟨g, j, none⟩ = some (.int .i64 (laneN E j : Int)) := HX.out.1.resolve_left (by omega)
            obtain ⟨g2, rfl, hg2, hc2⟩ : ∃ g, a3 = some ⟨g, 0, none⟩ ∧ g < w2.heap.size ∧ ∀ j, j < q → w2.cell? ⟨g, j, none⟩ = some (.int .i64 (laneN (E.map up) j : Int)) := HX.out.2.resolve_left (by omega)
            have d1 := (hbel.cell (p := ⟨g1, k, none⟩) hg1).trans (hc1 k hlt)
            have d2 := (hbel.cell (p := ⟨g2, k, none⟩) hg2).trans (hc2 k (by omega))
            have f1 := HL.out.1 k
            have f2 := HL.out.2.2.2.2 k hlt
            obtain ⟨x0, hx0⟩ : ∃ x, laneN E k = x := ⟨_, rfl⟩
            obtain ⟨y0, hy0⟩ : ∃ x, laneN (E.map up) k = x := ⟨_, rfl⟩
            rw [hx0] at d1 f1 f2
            rw [hy0] at d2 f1
            have e1 : decide ((x0 : Int) < 1) = false := by simp; omega
            have e1b : ¬ x0 = 0 := f2
            have e2 : decide ((y0 : Int) < (x0 : Int)) = false := by simp; omega
            have e2b : decide (y0 < x0) = false := by simp; omega
            have e3 : decide ((q : Int) ≤ (k : Int)) = false := by simp; omega
            have e3b : decide (q ≤ k) = false := by simp; omega
            have e4 : (0 : Int) ≤ (k : Int) := by omega
            have e5 : (k : Int) < (p : Int) := by omega
            have e6 : (k : Int) < (q : Int) := by omega
            have HK := Lib.hid (And.intro hbel (And.intro hg1 hg2))
            by_cases hk0 : 0 < k
            · obtain ⟨m, hm⟩ : ∃ m, m = k - 1 := ⟨_, rfl⟩
              have d3 := (hbel.cell (p := ⟨g1, m, none⟩) hg1).trans (hc1 m (by omega))
              have f3 := HL.out.2.1 (show m ≤ k by omega)
              obtain ⟨z0, hz0⟩ : ∃ x, laneN E m = x := ⟨_, rfl⟩
              rw [hz0] at d3 f3
              rw [hx0] at f3
              have e7 : decide ((0 : Int) < (k : Int)) = true := by simp; omega
              have e7b : decide (0 < k) = true := by simp; omega
              have e8 : decide ((z0 : Int) < (x0 : Int)) = false := by simp; omega
              have e8b : decide (z0 < x0) = false := by simp; omega
              have e9 : (0 : Int) ≤ (m : Int) := by omega
              have e10 : (m : Int) < (p : Int) := by omega
              have e11 : IntKind.i64.wrap ((k : Int) - 1) = (m : Int) := by rw [IntWalk.i64_in _ (by omega)]; omega
              have e12 : (k : Int) - 1 = (m : Int) := by omega
              clear hc1 hc2 hx0 hy0 hz0 hbel hg1 hg2 hm f1 f2 f3
              go_wp2_with fail
              go_quiet (fail)
              go_wp2
              go_roundw
              case rel => exact ⟨k + 1, by omega, by go_num, below_drewN HK.out.1 _⟩
              case measure => simp [intOf]; omega
            · have e7 : decide ((0 : Int) < (k : Int)) = false := by simp; omega
              have e7b : decide (0 < k) = false := by simp; omega
              clear hc1 hc2 hx0 hy0 hbel hg1 hg2 f1 f2
              go_wp2_with fail
              go_quiet (fail)
              go_wp2
              go_roundw
              case rel => exact ⟨k + 1, by omega, by go_num, below_drewN HK.out.1 _⟩
              case measure => simp [intOf]; omega
          · obtain rfl : k = p := by omega
            have HB3 := Lib.hid (HB2.out.trans (hbel.mono (by omega)))
            have HA := Lib.hid (HN2.out.below hbel).a
            obtain ⟨ct, hct⟩ : ∃ x, E.length = x := ⟨_, rfl⟩
            have hcnt : ∀ x : HW wr, Calls Try.prog 12 #[.pointer (some ⟨sa, 0, none⟩)] x.val fun e w' => e = .returned (.int .i64 (ct : Int)) ∧ x.val = w' := fun x => by
              rw [← hct]
              exact count_n (HA.out.held x)
            have HCNT := Lib.hid hcnt
            have e1 : decide ((k : Int) ≤ 12) = true := by simp; omega
            have e1b : decide (k ≤ 12) = true := by simp; omega
            have f3 := HL.out.2.2.1
            have f4 := HL.out.2.2.2.1
            rw [hct] at f3 f4
            clear hcnt hct
            rcases Nat.eq_zero_or_pos k with h0 | h0
            · have e2 : ((k : Int) == 0) = true := by simp; omega
              have e3 : ((ct : Int) == 0) = true := by have := f4.1 h0; simp; omega
              have e2b : k = 0 := h0
              have HB4 := Lib.hid hbel
              clear f3 f4 h0 hbel e2b
              go_wp2_with fail
              refine wp_region_held_lit (by kernel_rfl) (by kernel_rfl) ?_
              repeat (go_big_quiet_step (first
                | (go_at_call 8; exact calls_held (alive_any _))
                | (go_at_call 12; exact calls_held_same (HCNT.out _))))
              refine wpQuiet_nil ?_
              intro _ hw'
              obtain ⟨hx, hw''⟩ := hw'
              subst hw''
              go_wp2
              go_ret
              exact ⟨rfl, HB3.out.trans (hx.ok.mono HB3.out.size)⟩
            · obtain ⟨g1, rfl, hg1, hc1⟩ : ∃ g, a1 = some ⟨g, 0, none⟩ ∧ g < w2.heap.size ∧ ∀ j, j < k → w2.cell? ⟨g, j, none⟩ = some (.int .i64 (laneN E j : Int)) := HX.out.1.resolve_left (by omega)
              have d1 := (hbel.cell (p := ⟨g1, 0, none⟩) hg1).trans (hc1 0 h0)
              rw [f3] at d1
              have hcx : ∀ x : HW wr, x.val.cell? ⟨g1, 0, none⟩ = some (.int .i64 (ct : Int)) := fun x => (x.ok.cell (p := ⟨g1, 0, none⟩) (World.block_lt_of_cell? _ _ d1)).trans d1
              have e2 : ((k : Int) == 0) = false := by simp; omega
              have e3 : ((ct : Int) == 0) = false := by
                have : ct ≠ 0 := fun e => by have := f4.2 e; omega
                simp; omega
              have e5 : 0 < k := h0
              have HB4 := Lib.hid hbel
              clear f3 f4 h0 hbel hc1 d1
              go_wp2_with fail
              refine wp_region_held_lit (by kernel_rfl) (by kernel_rfl) ?_
              repeat (go_big_quiet_step (first
                | (go_at_call 8; exact calls_held (alive_any _))
                | (go_at_call 12; exact calls_held_same (HCNT.out _))))
              refine wpQuiet_nil ?_
              intro _ hw'
              obtain ⟨hx, hw''⟩ := hw'
              subst hw''
              go_wp2
              go_ret
              exact ⟨rfl, HB3.out.trans (hx.ok.mono HB3.out.size)⟩
end Go.Proofs.Ytnhieingcmnfaaa
