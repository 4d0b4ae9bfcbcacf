/-
  The walk of the reference's Digits.
-/
import Derived.Test.YtioddambldnfnaaRawH
import Derived.Laws.AppendOwnNone
import Derived.OwnWalk
namespace Go.Proofs.Ytioddambldnfnaa
open Go.RowKit

theorem own_new1 (w : World) (B : Nat) (c : UInt8) (h : B ≤ w.heap.size) : OwnB (w.alloc (.cells #[.int .u8 (c.toNat : Int)] 5)) B (.slice (some ⟨w.heap.size, 0, none⟩) 1 1) [c] := by
  refine ⟨by simp [bCells], Or.inr ⟨w.heap.size, 1, #[.int .u8 (c.toNat : Int)], rfl, h, heap_alloc_new _ _, Nat.le_refl _, by unfold maxLen; omega, rfl, rfl⟩⟩

/-- append(v, x...), both owned. -/
theorem wpList_append_bb {w : World} {ops : Array Oper} {rest : List Oper} {o : Oper} {a : Act} {Q : Exit → Act → World → Prop} (hgd : o.guard = none)
    (s x : Operand) (ho : o.op = .call { callee := .builtin .append, args := #[s, x], argTypes := #[23, 23] }) (B : Nat) (v : Value) (l : List UInt8)
    (hs : a.eval s = v) (hown : OwnB w B v l) (B2 : Nat) (v2 : Value) (l2 : List UInt8) (hx : a.eval x = v2) (hown2 : OwnB w B2 v2 l2) (hlen : l.length + l2.length ≤ 140737488355328) (hbase : B ≤ w.heap.size)
    (h : ∀ v' w', OwnB w' B v' (l ++ l2) → w.grownBy w' v.ownBlock → wpList Try.prog ops Q rest (a.put o.dst v') w') :
    wpList Try.prog ops Q (o :: rest) a w := by
  obtain ⟨hl2, h2⟩ := hown2
  rcases h2 with ⟨rfl, h0⟩ | ⟨g, cap, cur, rfl, hg, hh, hn, hcap, hsz, htake⟩
  · have : l2 = [] := by simpa using h0
    subst this
    obtain ⟨i, hi, hz, hsz, hby⟩ := info_parts info_u8
    refine wpList_append_own_none hgd s x 23 ho B 5 i 1 Try.underlying23 hi v l.length (bCells l) hs hown hx ?_
    exact h v w (by simpa using hown) (World.grownBy.refl _ _)
  · refine wpList_append_b hgd s x ho B v l hs hown ⟨g, 0, none⟩ l2.length cap l2 hx rfl ?_ hlen hbase h
    intro j u hj
    have hjl : j < l2.length := by
      have := (List.getElem?_eq_some_iff.1 hj).1
      simpa [bCells] using this
    rw [← htake, List.getElem?_take, if_pos (by omega)] at hj
    rw [add_none]
    simp only [World.cell?, hh, Nat.zero_add]
    simpa using hj

/-- The digits so far, and what is still to write. -/
def _root_.Go.Proofs.Ytioddambldnfnaa.Rw.DP (m n : Nat) (l : List UInt8) : Prop :=
  (n = 0 ∧ l = Rw.decF m) ∨ (0 < n ∧ ∃ f, n < 10 ^ (f + 1) ∧ l.length + f = 18 ∧ Rw.decK f n ++ l = Rw.decF m)
theorem _root_.Go.Proofs.Ytioddambldnfnaa.Rw.DP.step {m n : Nat} {l : List UInt8} (h : Rw.DP m n l) (hn : 0 < n) : Rw.DP m (n / 10) (UInt8.ofNat (48 + n % 10) :: l) := by
  rcases h with ⟨h, _⟩ | ⟨_, f, hf, hl, hd⟩
  · omega
  · by_cases h10 : n < 10
    · refine Or.inl ⟨by omega, ?_⟩
      rw [Rw.decK_small f h10] at hd
      rw [← hd, show n % 10 = n from by omega]; rfl
    · obtain ⟨f', rfl⟩ : ∃ f', f = f' + 1 := by
        rcases f with _ | f'
        · omega
        · exact ⟨f', rfl⟩
      refine Or.inr ⟨by omega, f', by rw [Nat.pow_succ] at hf; omega, by simp; omega, ?_⟩
      rw [← hd, Rw.decK_big f' (by omega)]; simp
theorem _root_.Go.Proofs.Ytioddambldnfnaa.Rw.DP.len {m n : Nat} {l : List UInt8} (h : Rw.DP m n l) : l.length ≤ 19 := by
  rcases h with ⟨_, h⟩ | ⟨_, f, hf, hl, hd⟩
  · rw [h]; exact (Rw.decK_len 18 m).2
  · omega

set_option maxRecDepth 100000 in
set_option maxHeartbeats 1000000 in
theorem refdigits_any (v : Int) (w : World) (h0 : -9223372036854775808 ≤ v) (h1 : v ≤ 9223372036854775807) :
    Calls Try.prog 24 #[.int .i64 v] w fun e w' => e = .returned (.string ⟨(Rw.digF v).toArray⟩) ∧ Below w.heap.size w w' := by
  by_cases hv : v = 0
  · subst hv
    clear h0 h1
    go_enter Try.func24, Try.ntmps24
    go_wp2
    go_ret
    exact ⟨ret_s (by kernel_rfl), Below.refl _ _⟩
  · have t0 : (v == 0) = false := beq_eq_false_iff_ne.2 hv
    have HP0 : Hid (Rw.DP v.natAbs v.natAbs []) := Or.inr ⟨by omega, 18, by omega, rfl, by rw [List.append_nil]; rfl⟩
    have H0 := Lib.hid h0
    have H1 := Lib.hid h1
    clear hv h0 h1
    go_enter Try.func24, Try.ntmps24
    go_wp2
    go_loopw [3, 4] (fun b x wr => ∃ (z : Int) (l : List UInt8), x = .int .i64 z ∧ -9223372036854775808 ≤ z ∧ z ≤ 9223372036854775807 ∧ Rw.DP v.natAbs z.natAbs l ∧ OwnB wr w.heap.size b l ∧ Below w.heap.size w wr)
      (fun _ x _ => (intOf x).natAbs)
    case atStart => exact ⟨v, [], rfl, H0.out, H1.out, HP0.out, OwnB.nil _ _, Below.refl _ _⟩
    case round =>
      obtain ⟨z, l, rfl, hz0, hz1, hdp, hown, hbel⟩ := hrel
      have hlen := hdp.len
      have HDP := Lib.hid hdp
      have HLEN := Lib.hid hlen
      clear hdp hlen
      by_cases hz : z = 0
      · subst hz
        have HL : Hid (l = Rw.decF v.natAbs) := by
          rcases HDP.out with ⟨_, h⟩ | ⟨h, _⟩
          · exact h
          · exact absurd h (by decide)
        clear hz0 hz1
        by_cases hneg : v < 0
        · go_wp2_with (at_builtin; refine wpList_append_bb rfl _ _ rfl w.heap.size (.slice (some ⟨wr.heap.size, 0, none⟩) 1 1) [45] rfl (own_new1 wr w.heap.size 45 hbel.size) w.heap.size _ l rfl (hown.alloc _) ?c2 ?c3 ?_)
          case c2 => have := HLEN.out; simp; omega
          case c3 => have := hbel.size; simp; omega
          intro v' w1 hown1 hg
          have hbel1 : Below w.heap.size w w1 := (hbel.alloc hbel.size _).grown hg (by have := hbel.size; simp; omega) fun k hk => by
            obtain rfl : k = wr.heap.size := by simpa [Value.ownBlock] using hk.symm
            exact hbel.size
          have hs := hown1.str
          clear hg hown hbel
          go_wp2
          go_ret
          refine ⟨ret_s ?_, hbel1⟩
          unfold Rw.digF
          rw [if_pos hneg, HL.out]
        · have hs := hown.str
          go_wp2
          go_ret
          refine ⟨ret_s ?_, hbel⟩
          unfold Rw.digF
          rw [if_neg (by omega), HL.out]
      · have tz : (z == 0) = false := beq_eq_false_iff_ne.2 hz
        obtain ⟨q, hq⟩ : ∃ q, z.tdiv 10 = q := ⟨_, rfl⟩
        obtain ⟨d, hd⟩ : ∃ d, z.tmod 10 = d := ⟨_, rfl⟩
        have hqd : q.natAbs = z.natAbs / 10 ∧ d.natAbs = z.natAbs % 10 := by
          rw [← hq, ← hd]
          exact ⟨Int.natAbs_tdiv _ _, by rw [Int.natAbs_tmod]; rfl⟩
        obtain ⟨hqa, hda⟩ := hqd
        have hq0 : -9223372036854775808 ≤ q := by omega
        have hq1 : q ≤ 9223372036854775807 := by omega
        obtain ⟨c, hc, Hc⟩ : ∃ c : UInt8, 48 + (d.natAbs : Int) = (c.toNat : Int) ∧ Hid (c = UInt8.ofNat (48 + z.natAbs % 10)) := ⟨UInt8.ofNat (48 + z.natAbs % 10), by simp; omega, rfl⟩
        have HST : Hid (Rw.DP v.natAbs q.natAbs (c :: l)) := by
          have := HDP.out.step (by omega)
          rw [← hqa, ← Hc.out] at this
          exact this
        have HM : Hid (q.natAbs < z.natAbs) := by unfold Hid; omega
        by_cases hneg : d < 0
        · have td : decide (d < 0) = true := by simpa using hneg
          have hc2 : 48 + -d = (c.toNat : Int) := by omega
          have hd0 : -9 ≤ d := by omega
          clear hc hqa hda hz
          go_wp2_with (at_builtin; refine wpList_append_bb rfl _ _ rfl w.heap.size (.slice (some ⟨wr.heap.size, 0, none⟩) 1 1) [c] rfl (own_new1 wr w.heap.size c hbel.size) w.heap.size _ l rfl (hown.alloc _) ?c2 ?c3 ?_)
          case c2 => have := HLEN.out; simp; omega
          case c3 => have := hbel.size; simp; omega
          intro v' w1 hown1 hg
          have hbel1 : Below w.heap.size w w1 := (hbel.alloc hbel.size _).grown hg (by have := hbel.size; simp; omega) fun k hk => by
            obtain rfl : k = wr.heap.size := by simpa [Value.ownBlock] using hk.symm
            exact hbel.size
          clear hg hown hbel
          go_wp2
          go_roundw
          case rel => exact ⟨q, c :: l, rfl, hq0, hq1, HST.out, hown1, hbel1⟩
          case measure => exact HM.out
        · have td : decide (d < 0) = false := by simpa using hneg
          have hc2 : 48 + d = (c.toNat : Int) := by omega
          have hd0 : d ≤ 9 := by omega
          have hd1 : 0 ≤ d := by omega
          clear hc hqa hda hz hneg
          go_wp2_with (at_builtin; refine wpList_append_bb rfl _ _ rfl w.heap.size (.slice (some ⟨wr.heap.size, 0, none⟩) 1 1) [c] rfl (own_new1 wr w.heap.size c hbel.size) w.heap.size _ l rfl (hown.alloc _) ?c2 ?c3 ?_)
          case c2 => have := HLEN.out; simp; omega
          case c3 => have := hbel.size; simp; omega
          intro v' w1 hown1 hg
          have hbel1 : Below w.heap.size w w1 := (hbel.alloc hbel.size _).grown hg (by have := hbel.size; simp; omega) fun k hk => by
            obtain rfl : k = wr.heap.size := by simpa [Value.ownBlock] using hk.symm
            exact hbel.size
          clear hg hown hbel
          go_wp2
          go_roundw
          case rel => exact ⟨q, c :: l, rfl, hq0, hq1, HST.out, hown1, hbel1⟩
          case measure => exact HM.out
end Go.Proofs.Ytioddambldnfnaa
