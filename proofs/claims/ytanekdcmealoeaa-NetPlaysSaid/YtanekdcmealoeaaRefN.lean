/-
  What a round of NetPlays looks at when it ends.
-/
import Derived.Test.YtanekdcmealoeaaRefL
namespace Go.Proofs.Ytanekdcmealoeaa
open Go.RowKit Go.Maps

theorem looks {B : Nat} {w : World} {nb rb c q : Nat} {s : St} (h : Pair B w nb rb c q s s) : ∃ (a1 : Option Addr) (n1 cap1 : Nat) (x1 : Int), s.l.length = n1 ∧ s.lost = x1 ∧ n1 ≤ 400 ∧ 0 ≤ x1 ∧
    (∀ y : HWd w, y.val.cell? ⟨rb, 1, none⟩ = some (.slice a1 n1 cap1)) ∧ (∀ y : HWd w, y.val.cell? ⟨rb, 3, none⟩ = some (.int .i64 x1)) ∧
    Hid (∀ y : HWd w, Calls Try.prog 12 #[.pointer (some ⟨nb, 0, none⟩)] y.val fun e w' => e = .returned (.int .i64 (n1 : Int)) ∧ ∃ z : HWd w, w' = z.val) ∧
    Hid (∀ y : HWd w, Calls Try.prog 13 #[.pointer (some ⟨nb, 0, none⟩)] y.val fun e w' => e = .returned (.int .i64 x1) ∧ ∃ z : HWd w, w' = z.val) ∧
    Hid (∀ (y : HWd w) (a b : Int), (Lit.int .i64 a).wf = true → (Lit.int .i64 b).wf = true → Calls Try.prog 15 #[.pointer (some ⟨nb, 0, none⟩), .int .i64 a, .int .i64 b] y.val fun e w' => e = .returned (.bool (s.cut a b)) ∧ ∃ z : HWd w, w' = z.val) ∧
    Hid (∀ (y : HWd w) (a b : Int), Calls Try.prog 25 #[.pointer (some ⟨rb, 0, none⟩), .int .i64 a, .int .i64 b] y.val fun e w' => e = .returned (.bool (s.cut a b)) ∧ ∃ z : HWd w, w' = z.val) := by
  obtain ⟨lr, cr, cl, hr, _, _⟩ := h.ref
  obtain ⟨a1, cap1, hlr⟩ := hr.form
  refine ⟨a1, _, cap1, _, rfl, rfl, hr.len, hr.l0, fun y => ?_, fun y => ?_, fun y => calls_heldd_same (plen (h.same y.prop)), fun y => calls_heldd_same (plost (h.same y.prop)), fun y a b ha hb => calls_heldd (piscut_low (h.same y.prop) a b ha hb), fun y a b => calls_heldd_same (qiscut (h.same y.prop) a b)⟩
  · rw [← hlr]; exact (hr.below y.prop).c1
  · exact (hr.below y.prop).c3

theorem peekB {B : Nat} {w : World} {nb rb c q : Nat} {s1 s2 : St} (h : Pair B w nb rb c q s1 s2) (i : Int) :
    Calls Try.prog 19 #[.pointer (some ⟨nb, 0, none⟩), .int .i64 i] w fun e w' => e = .returned (.tuple #[.int .i64 (s1.msg i).f, .int .i64 (s1.msg i).t, .string (s1.msg i).d, .int .i64 (s1.askE i)]) ∧ Below w.heap.size w w' := by
  obtain ⟨mb, lv, h1, _⟩ := h.net
  cases hi : s1.has i with
  | true =>
    obtain ⟨k, rfl, hk⟩ := St.has_true hi
    refine (peek_ok h1 k hk).mono ?_
    rintro e w' ⟨rfl, hb⟩
    exact ⟨by rw [(St.msg_nat hk).2, St.askE, if_pos hi], hb⟩
  | false =>
    refine (peek_bad h1 i (St.has_false hi)).mono ?_
    rintro e w' ⟨rfl, hb⟩
    exact ⟨by simp [St.msg, St.askE, hi, msg0], hb⟩

theorem OAt.held {w : World} {ob : Nat} {o : LOp} (h : OAt w ob o) (hlt : ob < w.heap.size) : (∀ y : HWd w, y.val.cell? ⟨ob, 1, none⟩ = some (.int .i64 o.a)) ∧ ∀ y : HWd w, y.val.cell? ⟨ob, 2, none⟩ = some (.int .i64 o.b) :=
  ⟨fun y => (y.prop.cell (p := ⟨ob, 1, none⟩) hlt).trans h.c1, fun y => (y.prop.cell (p := ⟨ob, 2, none⟩) hlt).trans h.c2⟩
end Go.Proofs.Ytanekdcmealoeaa
