/-
  The document's net: Deliver in the whole, Drop.
-/
import Derived.Test.YtanekdcmealoeaaRefE
namespace Go.Proofs.Ytanekdcmealoeaa
open Go.RowKit Go.Maps

set_option maxRecDepth 100000 in
theorem rdeliver_bad {w : World} {rb : Nat} {lr cr : Value} {cl : List (Int × Int)} {s : St} (h : RefAt w rb lr cr cl s) (i : Int) (hi : i < 0 ∨ s.l.length ≤ i) :
    Calls Try.prog 21 #[.pointer (some ⟨rb, 0, none⟩), .int .i64 i] w fun e w' => e = .returned (.tuple #[.int .i64 0, .int .i64 0, .string ⟨#[]⟩, .int .i64 5]) ∧ Below w.heap.size w w' := by
  have HP := Lib.hid (rpeek_bad h i hi)
  clear h hi
  go_enter Try.func21, Try.ntmps21
  go_wp2_with (go_at_call 20; refine HP.out.mono ?_; rintro _ W1 ⟨rfl, hb0⟩; simp only [])
  refine ⟨rfl, _, ?_, rfl, hb0⟩
  simp [results, Try.results21, go_sem]

theorem rdeliver_any {w : World} {rb : Nat} {lr cr : Value} {cl : List (Int × Int)} {s : St} (h : RefAt w rb lr cr cl s) (i : Int) :
    Calls Try.prog 21 #[.pointer (some ⟨rb, 0, none⟩), .int .i64 i] w fun e w' =>
      e = .returned (.tuple #[.int .i64 (s.msg i).f, .int .i64 (s.msg i).t, .string (s.msg i).d, .int .i64 (s.askE i)]) ∧ ∃ lr', RefAt w' rb lr' cr cl (s.deliver i) ∧ RStep rb lr cr w lr' cr w' := by
  cases hi : s.has i with
  | true =>
    obtain ⟨k, rfl, hk⟩ := St.has_true hi
    refine (rdeliver_ok h k hk).mono ?_
    rintro e w' ⟨rfl, lr', hr, hs⟩
    exact ⟨by rw [(St.msg_nat hk).2, St.askE, if_pos hi], lr', by rw [St.deliver, if_pos hi]; exact hr, hs⟩
  | false =>
    refine (rdeliver_bad h i (St.has_false hi)).mono ?_
    rintro e w' ⟨rfl, hb⟩
    exact ⟨by simp [St.msg, St.askE, hi, msg0], lr, by rw [St.deliver, hi]; exact h.below hb, RStep.refl (Tn.ofBelow hb)⟩

set_option maxRecDepth 100000 in
theorem rdrop_any {w : World} {rb : Nat} {lr cr : Value} {cl : List (Int × Int)} {s : St} (h : RefAt w rb lr cr cl s) (i : Int) (hx : s.lost ≤ 100000) :
    Calls Try.prog 22 #[.pointer (some ⟨rb, 0, none⟩), .int .i64 i] w fun e w' =>
      e = .returned (.int .i64 (s.askE i)) ∧ ∃ lr', RefAt w' rb lr' cr cl (s.drop i) ∧ RStep rb lr cr w lr' cr w' := by
  have HP := Lib.hid (rdeliver_any h i)
  have h0 := h.l0
  cases hi : s.has i with
  | true =>
    have ha : s.askE i = 0 := by rw [St.askE, if_pos hi]
    have hd : s.drop i = (s.deliver i).lose := by rw [St.drop, if_pos hi, St.deliver, if_pos hi]
    have hdl : (s.deliver i).lost = s.lost := by rw [St.deliver, if_pos hi]; rfl
    have hls : (s.deliver i).lose = { s.deliver i with lost := s.lost + 1 } := by rw [St.lose, if_pos (by omega), hdl]
    rw [hd, hls, ha]
    rw [ha] at HP
    obtain ⟨x, hxe⟩ : ∃ x, x = s.lost := ⟨_, rfl⟩
    rw [← hxe] at h0 hx hdl ⊢
    have hadd : IntKind.i64.wrap (x + 1) = x + 1 := by rw [IntKind.wrap_i64]; omega
    clear h ha hd hls hxe
    go_enter Try.func22, Try.ntmps22
    go_wp2_with fail
    refine HP.out.mono ?_
    rintro _ W1 ⟨rfl, lr', hr, hs⟩
    have k3 := hr.c3
    rw [hdl] at k3
    have kf := hr.fz 3
    have HR := Lib.hid hr
    have HS := Lib.hid hs
    clear hr hs hdl
    simp only []
    go_wp2
    refine ⟨rfl, _, ?_, rfl, lr', HR.out.setLost _ (by omega), HS.out.trans (RStep.refl (Tn.setCell _ _ _ rfl))⟩
    simp [results, Try.results22, go_sem]
  | false =>
    have ha : s.askE i = 5 := by simp [St.askE, hi]
    have hd : s.drop i = s := by simp [St.drop, hi]
    have hd2 : s.deliver i = s := by simp [St.deliver, hi]
    rw [hd, ha]
    rw [ha, hd2] at HP
    clear h ha hd hd2
    go_enter Try.func22, Try.ntmps22
    go_wp2_with fail
    refine HP.out.mono ?_
    rintro _ W1 ⟨rfl, lr', hr, hs⟩
    have HR := Lib.hid hr
    have HS := Lib.hid hs
    clear hr hs
    simp only []
    go_wp2
    refine ⟨rfl, _, ?_, rfl, lr', HR.out, HS.out⟩
    simp [results, Try.results22, go_sem]
end Go.Proofs.Ytanekdcmealoeaa
