/-
  The walk of the law RawOrder.
-/
import Derived.Test.YtioddambldnfnaaRawM
import Derived.Test.YtioddambldnfnaaRawL
import Derived.Test.YtioddambldnfnaaRawO
import Derived.Deep.DeepCutAuto
namespace Go.Proofs.Ytioddambldnfnaa
open Go.RowKit

/-- What the first four calls of Compare tell. -/
def OrderFacts (a b c : List UInt8) : Prop :=
  Lib.compareBytes b a = -Lib.compareBytes a b ∧ (Lib.compareBytes a b = 0 ↔ a = b) ∧ (-1 ≤ Lib.compareBytes a b ∧ Lib.compareBytes a b ≤ 1) ∧
    (Lib.compareBytes a b ≤ 0 → Lib.compareBytes b c ≤ 0 → Lib.compareBytes a c ≤ 0 ∧ (Lib.compareBytes a b < 0 ∨ Lib.compareBytes b c < 0 → Lib.compareBytes a c < 0))
theorem order_facts (a b c : List UInt8) : OrderFacts a b c :=
  ⟨Rw.cmp_neg a b, ⟨Rw.cmp_zero a b, fun h => h ▸ Rw.cmp_self a⟩, Rw.cmp_range a b, fun h1 h2 => ⟨(Rw.cmp_trans a b c h1 h2).1, (Rw.cmp_trans a b c h1 h2).2⟩⟩

theorem put_yes (v n : Int) (w : World) (h : Rw.putOk v n = true) :
    Calls Try.prog 14 #[.int .i64 v, .int .i64 n] w fun e w' => e = .returned (.tuple #[.string ⟨(Rw.beF n.toNat v.toNat).toArray⟩, .int .i64 0]) ∧ Below w.heap.size w w' :=
  (put_any v n w).mono fun e w' ⟨h1, h2⟩ => ⟨by rw [h1]; unfold putAns; rw [if_pos h], h2⟩

/-- What the last test tells of two numbers that were laid. -/
theorem put_order (v u n : Int) (hv : Rw.putOk v n = true) (hu : Rw.putOk u n = true) :
    decide (Lib.compareBytes (Rw.beF n.toNat v.toNat) (Rw.beF n.toNat u.toNat) < 0) = decide (v < u) ∧ (Lib.compareBytes (Rw.beF n.toNat v.toNat) (Rw.beF n.toNat u.toNat) == 0) = (v == u) := by
  simp only [Rw.putOk, Bool.and_eq_true, decide_eq_true_eq] at hv hu
  have h := Rw.cmp_be n.toNat v.toNat u.toNat hv.2 hu.2
  constructor
  · rw [decide_eq_decide, ← h.1]; omega
  · rw [Bool.eq_iff_iff, beq_iff_eq, beq_iff_eq, ← h.2]; omega

set_option maxRecDepth 100000 in
set_option maxHeartbeats 1000000 in
theorem order_any (a b c : ByteArray) (v u n : Int) (_ : a.size ≤ maxLen) (_ : b.size ≤ maxLen) (_ : c.size ≤ maxLen) (_ : (Lit.int .i64 v).wf = true) (_ : (Lit.int .i64 u).wf = true) (_ : (Lit.int .i64 n).wf = true) (w : World) :
    Calls Try.prog 4 #[.string a, .string b, .string c, .int .i64 v, .int .i64 u, .int .i64 n] w fun e w' => e = .returned (.bool true) ∧ Below w.heap.size w w' := by
  have F := order_facts a.data.toList b.data.toList c.data.toList
  go_enter Try.func4, Try.ntmps4
  go_wp2_with fail
  · refine (alive_any w).mono ?_
    rintro e w1 ⟨rfl, b1⟩
    go_wp2
    go_ret
    exact ⟨rfl, b1⟩
  · have Fh := Lib.hid F
    clear F
    go_upto_region 4 with (go_at_call 13; refine (compare_any _ _ _).mono ?_; rintro e w' ⟨rfl, rfl⟩)
    go_cut [77] (fun t w' => t = .bool false ∧ w' = w)
    case first =>
      have F := Fh.out
      unfold OrderFacts at F
      obtain ⟨f1, f2, f3, f4⟩ := F
      have f2b : (a.toList == b.toList) = (Lib.compareBytes a.data.toList b.data.toList == 0) := by
        rw [ByteArray.toList_eq, ByteArray.toList_eq, Bool.eq_iff_iff, beq_iff_eq, beq_iff_eq]
        exact f2.symm
      have F4 := Lib.hid f4
      clear f2 f4
      go_wp2_with (go_at_call 13; refine (compare_any _ _ _).mono ?_; rintro e w' ⟨rfl, rfl⟩)
      all_goals first
        | (go_meet; exact ⟨rfl, rfl⟩)
        | (exfalso; have f4 := F4.out; omega)
        | (go_meet; have f4 := F4.out; refine ⟨congrArg Value.bool ?_, rfl⟩; simp; omega)
    case rest =>
      obtain ⟨rfl, rfl⟩ := hcut
      cases hv : Rw.putOk v n with
      | false =>
        go_wp2_with fail
        refine (put_no v n _ hv).mono ?_
        rintro e w1 ⟨rfl, rfl⟩
        cases hu : Rw.putOk u n with
        | false =>
          go_wp2_with fail
          refine (put_no u n _ hu).mono ?_
          rintro e w1 ⟨rfl, rfl⟩
          clear hu hv
          go_wp2_with fail
          refine (alive_any _).mono ?_
          rintro e w1 ⟨rfl, b1⟩
          go_wp2
          go_ret
          exact ⟨rfl, b1⟩
        | true =>
          go_wp2_with fail
          refine (put_yes u n _ hu).mono ?_
          rintro e w1 ⟨rfl, b1⟩
          clear hu hv
          go_wp2_with fail
          refine (alive_any _).mono ?_
          rintro e w2 ⟨rfl, b2⟩
          go_wp2
          go_ret
          exact ⟨rfl, b1.trans (b2.mono b1.size)⟩
      | true =>
        go_wp2_with fail
        refine (put_yes v n _ hv).mono ?_
        rintro e w1 ⟨rfl, b1⟩
        cases hu : Rw.putOk u n with
        | false =>
          go_wp2_with fail
          refine (put_no u n _ hu).mono ?_
          rintro e w1 ⟨rfl, rfl⟩
          clear hu hv
          go_wp2_with fail
          refine (alive_any _).mono ?_
          rintro e w2 ⟨rfl, b2⟩
          go_wp2
          go_ret
          exact ⟨rfl, b1.trans (b2.mono b1.size)⟩
        | true =>
          go_wp2_with fail
          refine (put_yes u n _ hu).mono ?_
          rintro e w2 ⟨rfl, b2⟩
          have hc := put_order v u n hv hu
          clear hu hv
          go_wp2_with fail
          refine (compare_any _ _ _).mono ?_
          rintro e w' ⟨rfl, rfl⟩
          obtain ⟨k1, k2⟩ := hc
          go_wp2_with fail
          refine (alive_any _).mono ?_
          rintro e w3 ⟨rfl, b3⟩
          go_wp2
          go_ret
          exact ⟨rfl, (b1.trans (b2.mono b1.size)).trans (b3.mono (Nat.le_trans b1.size b2.size))⟩
end Go.Proofs.Ytioddambldnfnaa
