/-
  The net and the document's net side by side.
-/
import Derived.Test.YtanekdcmealoeaaRefI
namespace Go.Proofs.Ytanekdcmealoeaa
open Go.RowKit Go.Maps

theorem NetAt.more {nb mb : Nat} {lv : Value} {w : World} {c : Nat} {s : St} (h1 : NetAt w nb mb lv c s) : NetAt w nb mb lv (c + 1) s := by
  obtain ⟨D, hD, hc⟩ := h1.map
  exact { h1 with map := ⟨D, hD.mono (Nat.le_succ _), hc⟩ }

theorem send_st {nb mb : Nat} {lv : Value} {w : World} {c : Nat} {s : St} (h1 : NetAt w nb mb lv c s) (a b : Int) (d : ByteArray) :
    Calls Try.prog 10 #[.pointer (some ⟨nb, 0, none⟩), .int .i64 a, .int .i64 b, .string d] w fun e w' => e = .returned (.int .i64 (s.sendE a b d)) ∧ ∃ lv', NetAt w' nb mb lv' c (s.send a b d) ∧ Step nb mb lv w lv' w' := by
  unfold St.sendE St.send
  by_cases hw : s.way a b = false
  · rw [if_pos hw, if_pos hw]
    refine (send_none h1 a b d hw).mono ?_
    rintro e w' ⟨rfl, rfl⟩
    exact ⟨rfl, _, h1, Step.refl (Tn.refl _ _)⟩
  rw [if_neg hw, if_neg hw]
  have hw : s.way a b = true := by simpa using hw
  by_cases hd : 65536 < d.size
  · rw [if_pos hd, if_pos hd]
    refine (send_long h1 a b d hw hd).mono ?_
    rintro e w' ⟨rfl, rfl⟩
    exact ⟨rfl, _, h1, Step.refl (Tn.refl _ _)⟩
  rw [if_neg hd, if_neg hd]
  by_cases hc : s.cut a b = true
  · rw [if_pos (Or.inl hc)]
    refine (send_cut h1 a b d hw (by omega) hc).mono ?_
    rintro e w' ⟨rfl, hn, hs⟩
    exact ⟨rfl, _, hn, hs⟩
  have hc : s.cut a b = false := by simpa using hc
  by_cases hl : 400 ≤ s.l.length
  · rw [if_pos (Or.inr hl)]
    refine (send_full h1 a b d hw (by omega) hc hl).mono ?_
    rintro e w' ⟨rfl, hn, hs⟩
    exact ⟨rfl, _, hn, hs⟩
  · rw [if_neg (by rw [hc]; simp; omega)]
    refine (send_ok h1 a b d hw (by omega) hc (by omega)).mono ?_
    rintro e w' ⟨rfl, lv', hn, hs⟩
    exact ⟨rfl, _, hn, hs⟩

theorem peek_st {nb mb : Nat} {lv : Value} {w : World} {c : Nat} {s : St} (h1 : NetAt w nb mb lv c s) (i : Int) :
    Calls Try.prog 19 #[.pointer (some ⟨nb, 0, none⟩), .int .i64 i] w fun e w' =>
      e = .returned (.tuple #[.int .i64 (s.msg i).f, .int .i64 (s.msg i).t, .string (s.msg i).d, .int .i64 (s.askE i)]) ∧ ∃ lv', NetAt w' nb mb lv' c s ∧ Step nb mb lv w lv' w' := by
  cases hi : s.has i with
  | true =>
    obtain ⟨k, rfl, hk⟩ := St.has_true hi
    refine (peek_ok h1 k hk).mono ?_
    rintro e w' ⟨rfl, hb⟩
    refine ⟨?_, lv, h1.below hb, Step.refl (Tn.ofBelow hb)⟩
    rw [(St.msg_nat hk).2, St.askE, if_pos hi]
  | false =>
    refine (peek_bad h1 i (St.has_false hi)).mono ?_
    rintro e w' ⟨rfl, hb⟩
    refine ⟨?_, lv, h1.below hb, Step.refl (Tn.ofBelow hb)⟩
    simp [St.msg, St.askE, hi, msg0]

theorem deliver_st {nb mb : Nat} {lv : Value} {w : World} {c : Nat} {s : St} (h1 : NetAt w nb mb lv c s) (i : Int) :
    Calls Try.prog 11 #[.pointer (some ⟨nb, 0, none⟩), .int .i64 i] w fun e w' =>
      e = .returned (.tuple #[.int .i64 (s.msg i).f, .int .i64 (s.msg i).t, .string (s.msg i).d, .int .i64 (s.askE i)]) ∧ ∃ lv', NetAt w' nb mb lv' c (s.deliver i) ∧ Step nb mb lv w lv' w' := by
  cases hi : s.has i with
  | true =>
    obtain ⟨k, rfl, hk⟩ := St.has_true hi
    refine (deliver_ok h1 k hk).mono ?_
    rintro e w' ⟨rfl, lv', hn, hs⟩
    refine ⟨?_, ?_⟩
    · rw [(St.msg_nat hk).2, St.askE, if_pos hi]
    · rw [St.deliver, if_pos hi]; exact ⟨_, hn, hs⟩
  | false =>
    refine (deliver_bad h1 i (St.has_false hi)).mono ?_
    rintro e w' ⟨rfl, hb⟩
    refine ⟨?_, lv, ?_, Step.refl (Tn.ofBelow hb)⟩
    · simp [St.msg, St.askE, hi, msg0]
    · rw [St.deliver, hi]; exact h1.below hb

theorem drop_st {nb mb : Nat} {lv : Value} {w : World} {c : Nat} {s : St} (h1 : NetAt w nb mb lv c s) (i : Int) :
    Calls Try.prog 16 #[.pointer (some ⟨nb, 0, none⟩), .int .i64 i] w fun e w' => e = .returned (.int .i64 (s.askE i)) ∧ ∃ lv', NetAt w' nb mb lv' c (s.drop i) ∧ Step nb mb lv w lv' w' := by
  cases hi : s.has i with
  | true =>
    obtain ⟨k, rfl, hk⟩ := St.has_true hi
    refine (drop_ok h1 k hk).mono ?_
    rintro e w' ⟨rfl, lv', hn, hs⟩
    refine ⟨by rw [St.askE, if_pos hi], ?_⟩
    rw [St.drop, if_pos hi]; exact ⟨_, hn, hs⟩
  | false =>
    refine (drop_bad h1 i (St.has_false hi)).mono ?_
    rintro e w' ⟨rfl, hb⟩
    refine ⟨by simp [St.askE, hi], lv, ?_, Step.refl (Tn.ofBelow hb)⟩
    rw [St.drop, hi]; exact h1.below hb

theorem twice_st {nb mb : Nat} {lv : Value} {w : World} {c : Nat} {s : St} (h1 : NetAt w nb mb lv c s) (i : Int) :
    Calls Try.prog 17 #[.pointer (some ⟨nb, 0, none⟩), .int .i64 i] w fun e w' => e = .returned (.int .i64 (s.twiceE i)) ∧ ∃ lv', NetAt w' nb mb lv' c (s.twice i) ∧ Step nb mb lv w lv' w' := by
  cases hi : s.has i with
  | true =>
    obtain ⟨k, rfl, hk⟩ := St.has_true hi
    by_cases hr : s.l.length < 400
    · refine (twice_ok h1 k hk hr).mono ?_
      rintro e w' ⟨rfl, lv', hn, hs⟩
      refine ⟨by rw [St.twiceE, if_pos hi, if_pos hr], ?_⟩
      rw [St.twice, if_pos hi, if_pos hr, (St.msg_nat hk).2]; exact ⟨_, hn, hs⟩
    · refine (twice_full h1 k hk (by omega)).mono ?_
      rintro e w' ⟨rfl, hb⟩
      refine ⟨by rw [St.twiceE, if_pos hi, if_neg hr], lv, ?_, Step.refl (Tn.ofBelow hb)⟩
      rw [St.twice, if_pos hi, if_neg hr]; exact h1.below hb
  | false =>
    refine (twice_bad h1 i (St.has_false hi)).mono ?_
    rintro e w' ⟨rfl, hb⟩
    refine ⟨by simp [St.twiceE, hi], lv, ?_, Step.refl (Tn.ofBelow hb)⟩
    rw [St.twice, hi]; exact h1.below hb

theorem cut_st {nb mb : Nat} {lv : Value} {w : World} {c : Nat} {s : St} (h1 : NetAt w nb mb lv c s) (a b : Int) (x : Bool) (hc : c < 1000) :
    Calls Try.prog 14 #[.pointer (some ⟨nb, 0, none⟩), .int .i64 a, .int .i64 b, .bool x] w fun e w' => e = .returned (.int .i64 (s.cutE a b)) ∧ ∃ lv', NetAt w' nb mb lv' (c + 1) (s.cuts a b x) ∧ Step nb mb lv w lv' w' := by
  unfold St.cutE St.cuts
  cases hw : s.way a b with
  | false =>
    refine (cut_none h1 a b x hw).mono ?_
    rintro e w' ⟨rfl, rfl⟩
    exact ⟨rfl, _, h1.more, Step.refl (Tn.refl _ _)⟩
  | true =>
    cases x with
    | true =>
      refine (cut_set h1 a b hw hc).mono ?_
      rintro e w' ⟨rfl, hn, hs⟩
      exact ⟨rfl, _, hn, hs⟩
    | false =>
      refine (cut_mend h1 a b hw).mono ?_
      rintro e w' ⟨rfl, hn, hs⟩
      exact ⟨rfl, _, hn.more, hs⟩

theorem iscut_st {nb mb : Nat} {lv : Value} {w : World} {c : Nat} {s : St} (h1 : NetAt w nb mb lv c s) (a b : Int) (ha : (Lit.int .i64 a).wf = true) (hb : (Lit.int .i64 b).wf = true) :
    Calls Try.prog 15 #[.pointer (some ⟨nb, 0, none⟩), .int .i64 a, .int .i64 b] w fun e w' => e = .returned (.bool (s.cut a b)) ∧ ∃ lv', NetAt w' nb mb lv' c s ∧ Step nb mb lv w lv' w' := by
  refine (iscut_any h1 a b ha hb).mono ?_
  rintro e w' ⟨rfl, hb⟩
  exact ⟨rfl, lv, h1.below hb, Step.refl (Tn.ofBelow hb)⟩


theorem rsend_any {w : World} {rb : Nat} {lr cr : Value} {cl : List (Int × Int)} {s : St} (h : RefAt w rb lr cr cl s) (a b : Int) (d : ByteArray) (hx : s.lost ≤ 100000) :
    Calls Try.prog 18 #[.pointer (some ⟨rb, 0, none⟩), .int .i64 a, .int .i64 b, .string d] w fun e w' => e = .returned (.int .i64 (s.sendE a b d)) ∧ ∃ lr', RefAt w' rb lr' cr cl (s.send a b d) ∧ RStep rb lr cr w lr' cr w' := by
  unfold St.sendE St.send
  by_cases hw : s.way a b = false
  · rw [if_pos hw, if_pos hw]
    refine (rsend_none h a b d hw).mono ?_
    rintro e w' ⟨rfl, rfl⟩
    exact ⟨rfl, _, h, RStep.refl (Tn.refl _ _)⟩
  rw [if_neg hw, if_neg hw]
  have hw : s.way a b = true := by simpa using hw
  by_cases hd : 65536 < d.size
  · rw [if_pos hd, if_pos hd]
    refine (rsend_long h a b d hw hd).mono ?_
    rintro e w' ⟨rfl, rfl⟩
    exact ⟨rfl, _, h, RStep.refl (Tn.refl _ _)⟩
  rw [if_neg hd, if_neg hd]
  by_cases hc : s.cut a b = true ∨ 400 ≤ s.l.length
  · rw [if_pos hc]
    refine (rsend_lose h a b d hw (by omega) hc hx).mono ?_
    rintro e w' ⟨rfl, hn, hs⟩
    exact ⟨rfl, _, hn, hs⟩
  · rw [if_neg hc]
    have h1 : s.cut a b = false := by
      cases e : s.cut a b with
      | false => rfl
      | true => exact absurd (Or.inl e) hc
    refine (rsend_ok h a b d hw (by omega) h1 (by have : ¬ 400 ≤ s.l.length := fun e => hc (Or.inr e); omega)).mono ?_
    rintro e w' ⟨rfl, lv', hn, hs⟩
    exact ⟨rfl, _, hn, hs⟩

theorem rtwice_any {w : World} {rb : Nat} {lr cr : Value} {cl : List (Int × Int)} {s : St} (h : RefAt w rb lr cr cl s) (i : Int) :
    Calls Try.prog 23 #[.pointer (some ⟨rb, 0, none⟩), .int .i64 i] w fun e w' => e = .returned (.int .i64 (s.twiceE i)) ∧ ∃ lr', RefAt w' rb lr' cr cl (s.twice i) ∧ RStep rb lr cr w lr' cr w' := by
  cases hi : s.has i with
  | true =>
    obtain ⟨k, rfl, hk⟩ := St.has_true hi
    by_cases hr : s.l.length < 400
    · refine (rtwice_ok h k hk hr).mono ?_
      rintro e w' ⟨rfl, lr', hn, hs⟩
      refine ⟨by rw [St.twiceE, if_pos hi, if_pos hr], lr', ?_, hs⟩
      rw [St.twice, if_pos hi, if_pos hr, (St.msg_nat hk).2]; exact hn
    · refine (rtwice_full h k hk (by omega)).mono ?_
      rintro e w' ⟨rfl, rfl⟩
      refine ⟨by rw [St.twiceE, if_pos hi, if_neg hr], lr, ?_, RStep.refl (Tn.refl _ _)⟩
      rw [St.twice, if_pos hi, if_neg hr]; exact h
  | false =>
    refine (rtwice_bad h i (St.has_false hi)).mono ?_
    rintro e w' ⟨rfl, rfl⟩
    refine ⟨by simp [St.twiceE, hi], lr, ?_, RStep.refl (Tn.refl _ _)⟩
    rw [St.twice, hi]; exact h

theorem rcut_any {w : World} {rb : Nat} {lr cr : Value} {cl : List (Int × Int)} {s : St} (h : RefAt w rb lr cr cl s) (a b : Int) (x : Bool) (hsm : cl.length ≤ 1000) :
    Calls Try.prog 24 #[.pointer (some ⟨rb, 0, none⟩), .int .i64 a, .int .i64 b, .bool x] w fun e w' =>
      e = .returned (.int .i64 (s.cutE a b)) ∧ ∃ cr' cl', RefAt w' rb lr cr' cl' (s.cuts a b x) ∧ RStep rb lr cr w lr cr' w' ∧ cl'.length ≤ cl.length + 1 := by
  unfold St.cutE St.cuts
  cases hw : s.way a b with
  | false =>
    refine (rcut_none h a b x hw).mono ?_
    rintro e w' ⟨rfl, rfl⟩
    exact ⟨rfl, _, _, h, RStep.refl (Tn.refl _ _), by omega⟩
  | true => exact rcut_ok h a b x hw hsm

/-- The net in state s1 and the document's net in state s2, apart from each other, in blocks from B on. -/
def Pair (B : Nat) (w : World) (nb rb c q : Nat) (s1 s2 : St) : Prop :=
  B ≤ w.heap.size ∧ ∃ mb lv lr cr cl, NetAt w nb mb lv c s1 ∧ RefAt w rb lr cr cl s2 ∧ cl.length ≤ q ∧ (∀ k, Foot nb mb lv k → ¬ RFoot rb lr cr k) ∧ (∀ k, Foot nb mb lv k → B ≤ k) ∧ ∀ k, RFoot rb lr cr k → B ≤ k

theorem Pair.net {B : Nat} {w : World} {nb rb c q : Nat} {s1 s2 : St} (h : Pair B w nb rb c q s1 s2) :
    ∃ mb lv, NetAt w nb mb lv c s1 ∧ ∀ w' c' s1', (∃ lv', NetAt w' nb mb lv' c' s1' ∧ Step nb mb lv w lv' w') → Pair B w' nb rb c' q s1' s2 ∧ Below B w w' := by
  obtain ⟨h0, mb, lv, lr, cr, cl, hn, hr, hq, hd, hf1, hf2⟩ := h
  refine ⟨mb, lv, hn, fun w' c' s1' ⟨lv', hn', hs⟩ => ?_⟩
  obtain ⟨hb, hf⟩ := hs.low h0 hf1
  refine ⟨⟨Nat.le_trans h0 hb.size, mb, lv', lr, cr, cl, hn', hr.turn hs.tn (fun k hk e => hd k e hk), hq, ?_, hf, hf2⟩, hb⟩
  rintro k (hk | hk | hk) he
  · exact hd k (Or.inl hk) he
  · exact hd k (Or.inr (Or.inl hk)) he
  · rcases hs.new k hk with h | h
    · exact hd k (Or.inr (Or.inr h)) he
    · have := hr.foot_lt k he; omega

theorem Pair.ref {B : Nat} {w : World} {nb rb c q : Nat} {s1 s2 : St} (h : Pair B w nb rb c q s1 s2) :
    ∃ lr cr cl, RefAt w rb lr cr cl s2 ∧ cl.length ≤ q ∧ ∀ w' s2' cl' q', (∃ lr' cr', RefAt w' rb lr' cr' cl' s2' ∧ RStep rb lr cr w lr' cr' w') → cl'.length ≤ q' → Pair B w' nb rb c q' s1 s2' ∧ Below B w w' := by
  obtain ⟨h0, mb, lv, lr, cr, cl, hn, hr, hq, hd, hf1, hf2⟩ := h
  refine ⟨lr, cr, cl, hr, hq, fun w' s2' cl' q' ⟨lr', cr', hr', hs⟩ hq' => ?_⟩
  have hrb : B ≤ rb := hf2 rb (Or.inl rfl)
  have hb : Below B w w' := hs.tn.below h0 (fun k e => by omega)
  refine ⟨⟨Nat.le_trans h0 hb.size, mb, lv, lr', cr', cl', hn.turn hs.tn (fun k hk e => hd k hk (Or.inl e)), hr', hq', ?_, hf1, ?_⟩, hb⟩
  · intro k hk he
    rcases hs.new k he with h | h
    · exact hd k hk h
    · have := hn.foot_lt k hk; omega
  · intro k hk
    rcases hs.new k hk with h | h
    · exact hf2 k h
    · omega

theorem Pair.same {B : Nat} {w w' : World} {nb rb c q : Nat} {s1 s2 : St} (h : Pair B w nb rb c q s1 s2) (hb : Below w.heap.size w w') : Pair B w' nb rb c q s1 s2 := by
  obtain ⟨h0, mb, lv, lr, cr, cl, hn, hr, hq, hd, hf1, hf2⟩ := h
  exact ⟨Nat.le_trans h0 hb.size, mb, lv, lr, cr, cl, hn.below hb, hr.below hb, hq, hd, hf1, hf2⟩

theorem psend {B : Nat} {w : World} {nb rb c q : Nat} {s1 s2 : St} (h : Pair B w nb rb c q s1 s2) (a b : Int) (d : ByteArray) :
    Calls Try.prog 10 #[.pointer (some ⟨nb, 0, none⟩), .int .i64 a, .int .i64 b, .string d] w fun e w' => e = .returned (.int .i64 (s1.sendE a b d)) ∧ Pair B w' nb rb c q (s1.send a b d) s2 ∧ Below B w w' := by
  obtain ⟨mb, lv, hn, hk⟩ := h.net
  refine (send_st hn a b d).mono ?_
  rintro e w' ⟨rfl, hw⟩
  exact ⟨rfl, hk _ _ _ hw⟩

theorem ppeek {B : Nat} {w : World} {nb rb c q : Nat} {s1 s2 : St} (h : Pair B w nb rb c q s1 s2) (i : Int) :
    Calls Try.prog 19 #[.pointer (some ⟨nb, 0, none⟩), .int .i64 i] w fun e w' => e = .returned (.tuple #[.int .i64 (s1.msg i).f, .int .i64 (s1.msg i).t, .string (s1.msg i).d, .int .i64 (s1.askE i)]) ∧ Pair B w' nb rb c q s1 s2 ∧ Below B w w' := by
  obtain ⟨mb, lv, hn, hk⟩ := h.net
  refine (peek_st hn i).mono ?_
  rintro e w' ⟨rfl, hw⟩
  exact ⟨rfl, hk _ _ _ hw⟩

theorem pdeliver {B : Nat} {w : World} {nb rb c q : Nat} {s1 s2 : St} (h : Pair B w nb rb c q s1 s2) (i : Int) :
    Calls Try.prog 11 #[.pointer (some ⟨nb, 0, none⟩), .int .i64 i] w fun e w' => e = .returned (.tuple #[.int .i64 (s1.msg i).f, .int .i64 (s1.msg i).t, .string (s1.msg i).d, .int .i64 (s1.askE i)]) ∧ Pair B w' nb rb c q (s1.deliver i) s2 ∧ Below B w w' := by
  obtain ⟨mb, lv, hn, hk⟩ := h.net
  refine (deliver_st hn i).mono ?_
  rintro e w' ⟨rfl, hw⟩
  exact ⟨rfl, hk _ _ _ hw⟩

theorem pdrop {B : Nat} {w : World} {nb rb c q : Nat} {s1 s2 : St} (h : Pair B w nb rb c q s1 s2) (i : Int) :
    Calls Try.prog 16 #[.pointer (some ⟨nb, 0, none⟩), .int .i64 i] w fun e w' => e = .returned (.int .i64 (s1.askE i)) ∧ Pair B w' nb rb c q (s1.drop i) s2 ∧ Below B w w' := by
  obtain ⟨mb, lv, hn, hk⟩ := h.net
  refine (drop_st hn i).mono ?_
  rintro e w' ⟨rfl, hw⟩
  exact ⟨rfl, hk _ _ _ hw⟩

theorem ptwice {B : Nat} {w : World} {nb rb c q : Nat} {s1 s2 : St} (h : Pair B w nb rb c q s1 s2) (i : Int) :
    Calls Try.prog 17 #[.pointer (some ⟨nb, 0, none⟩), .int .i64 i] w fun e w' => e = .returned (.int .i64 (s1.twiceE i)) ∧ Pair B w' nb rb c q (s1.twice i) s2 ∧ Below B w w' := by
  obtain ⟨mb, lv, hn, hk⟩ := h.net
  refine (twice_st hn i).mono ?_
  rintro e w' ⟨rfl, hw⟩
  exact ⟨rfl, hk _ _ _ hw⟩

theorem pcut {B : Nat} {w : World} {nb rb c q : Nat} {s1 s2 : St} (h : Pair B w nb rb c q s1 s2) (a b : Int) (x : Bool) (hc : c < 1000) :
    Calls Try.prog 14 #[.pointer (some ⟨nb, 0, none⟩), .int .i64 a, .int .i64 b, .bool x] w fun e w' => e = .returned (.int .i64 (s1.cutE a b)) ∧ Pair B w' nb rb (c + 1) q (s1.cuts a b x) s2 ∧ Below B w w' := by
  obtain ⟨mb, lv, hn, hk⟩ := h.net
  refine (cut_st hn a b x hc).mono ?_
  rintro e w' ⟨rfl, hw⟩
  exact ⟨rfl, hk _ _ _ hw⟩

theorem piscut {B : Nat} {w : World} {nb rb c q : Nat} {s1 s2 : St} (h : Pair B w nb rb c q s1 s2) (a b : Int) (ha : (Lit.int .i64 a).wf = true) (hb : (Lit.int .i64 b).wf = true) :
    Calls Try.prog 15 #[.pointer (some ⟨nb, 0, none⟩), .int .i64 a, .int .i64 b] w fun e w' => e = .returned (.bool (s1.cut a b)) ∧ Pair B w' nb rb c q s1 s2 ∧ Below B w w' := by
  obtain ⟨mb, lv, hn, hk⟩ := h.net
  refine (iscut_st hn a b ha hb).mono ?_
  rintro e w' ⟨rfl, hw⟩
  exact ⟨rfl, hk _ _ _ hw⟩

theorem qsend {B : Nat} {w : World} {nb rb c q : Nat} {s1 s2 : St} (h : Pair B w nb rb c q s1 s2) (a b : Int) (d : ByteArray) (hx : s2.lost ≤ 100000) :
    Calls Try.prog 18 #[.pointer (some ⟨rb, 0, none⟩), .int .i64 a, .int .i64 b, .string d] w fun e w' => e = .returned (.int .i64 (s2.sendE a b d)) ∧ Pair B w' nb rb c q s1 (s2.send a b d) ∧ Below B w w' := by
  obtain ⟨lr, cr, cl, hr, hq, hk⟩ := h.ref
  refine (rsend_any hr a b d hx).mono ?_
  rintro e w' ⟨rfl, lr', hw, hs⟩
  exact ⟨rfl, hk _ _ cl _ ⟨lr', cr, hw, hs⟩ hq⟩

theorem qdeliver {B : Nat} {w : World} {nb rb c q : Nat} {s1 s2 : St} (h : Pair B w nb rb c q s1 s2) (i : Int) :
    Calls Try.prog 21 #[.pointer (some ⟨rb, 0, none⟩), .int .i64 i] w fun e w' => e = .returned (.tuple #[.int .i64 (s2.msg i).f, .int .i64 (s2.msg i).t, .string (s2.msg i).d, .int .i64 (s2.askE i)]) ∧ Pair B w' nb rb c q s1 (s2.deliver i) ∧ Below B w w' := by
  obtain ⟨lr, cr, cl, hr, hq, hk⟩ := h.ref
  refine (rdeliver_any hr i).mono ?_
  rintro e w' ⟨rfl, lr', hw, hs⟩
  exact ⟨rfl, hk _ _ cl _ ⟨lr', cr, hw, hs⟩ hq⟩

theorem qdrop {B : Nat} {w : World} {nb rb c q : Nat} {s1 s2 : St} (h : Pair B w nb rb c q s1 s2) (i : Int) (hx : s2.lost ≤ 100000) :
    Calls Try.prog 22 #[.pointer (some ⟨rb, 0, none⟩), .int .i64 i] w fun e w' => e = .returned (.int .i64 (s2.askE i)) ∧ Pair B w' nb rb c q s1 (s2.drop i) ∧ Below B w w' := by
  obtain ⟨lr, cr, cl, hr, hq, hk⟩ := h.ref
  refine (rdrop_any hr i hx).mono ?_
  rintro e w' ⟨rfl, lr', hw, hs⟩
  exact ⟨rfl, hk _ _ cl _ ⟨lr', cr, hw, hs⟩ hq⟩

theorem qtwice {B : Nat} {w : World} {nb rb c q : Nat} {s1 s2 : St} (h : Pair B w nb rb c q s1 s2) (i : Int) :
    Calls Try.prog 23 #[.pointer (some ⟨rb, 0, none⟩), .int .i64 i] w fun e w' => e = .returned (.int .i64 (s2.twiceE i)) ∧ Pair B w' nb rb c q s1 (s2.twice i) ∧ Below B w w' := by
  obtain ⟨lr, cr, cl, hr, hq, hk⟩ := h.ref
  refine (rtwice_any hr i).mono ?_
  rintro e w' ⟨rfl, lr', hw, hs⟩
  exact ⟨rfl, hk _ _ cl _ ⟨lr', cr, hw, hs⟩ hq⟩

theorem qcut {B : Nat} {w : World} {nb rb c q : Nat} {s1 s2 : St} (h : Pair B w nb rb c q s1 s2) (a b : Int) (x : Bool) (hq0 : q ≤ 1000) :
    Calls Try.prog 24 #[.pointer (some ⟨rb, 0, none⟩), .int .i64 a, .int .i64 b, .bool x] w fun e w' => e = .returned (.int .i64 (s2.cutE a b)) ∧ Pair B w' nb rb c (q + 1) s1 (s2.cuts a b x) ∧ Below B w w' := by
  obtain ⟨lr, cr, cl, hr, hq, hk⟩ := h.ref
  refine (rcut_any hr a b x (by omega)).mono ?_
  rintro e w' ⟨rfl, cr', cl', hw, hs, hl⟩
  exact ⟨rfl, hk _ _ cl' _ ⟨_, cr', hw, hs⟩ (by omega)⟩

theorem qpeek {B : Nat} {w : World} {nb rb c q : Nat} {s1 s2 : St} (h : Pair B w nb rb c q s1 s2) (i : Int) :
    Calls Try.prog 20 #[.pointer (some ⟨rb, 0, none⟩), .int .i64 i] w fun e w' => e = .returned (.tuple #[.int .i64 (s2.msg i).f, .int .i64 (s2.msg i).t, .string (s2.msg i).d, .int .i64 (s2.askE i)]) ∧ Pair B w' nb rb c q s1 s2 ∧ Below B w w' := by
  obtain ⟨lr, cr, cl, hr, hq, hk⟩ := h.ref
  refine (rpeek_any hr i).mono ?_
  rintro e w' ⟨rfl, hb⟩
  exact ⟨rfl, h.same hb, hb.mono h.1⟩

theorem qiscut {B : Nat} {w : World} {nb rb c q : Nat} {s1 s2 : St} (h : Pair B w nb rb c q s1 s2) (a b : Int) :
    Calls Try.prog 25 #[.pointer (some ⟨rb, 0, none⟩), .int .i64 a, .int .i64 b] w fun e w' => e = .returned (.bool (s2.cut a b)) ∧ w = w' := by
  obtain ⟨lr, cr, cl, hr, hq, hk⟩ := h.ref
  exact riscut_any hr a b

theorem plen {B : Nat} {w : World} {nb rb c q : Nat} {s1 s2 : St} (h : Pair B w nb rb c q s1 s2) :
    Calls Try.prog 12 #[.pointer (some ⟨nb, 0, none⟩)] w fun e w' => e = .returned (.int .i64 (s1.l.length : Int)) ∧ w = w' := by
  obtain ⟨mb, lv, hn, _⟩ := h.net
  exact len_any hn
theorem plost {B : Nat} {w : World} {nb rb c q : Nat} {s1 s2 : St} (h : Pair B w nb rb c q s1 s2) :
    Calls Try.prog 13 #[.pointer (some ⟨nb, 0, none⟩)] w fun e w' => e = .returned (.int .i64 s1.lost) ∧ w = w' := by
  obtain ⟨mb, lv, hn, _⟩ := h.net
  exact lost_any hn
end Go.Proofs.Ytanekdcmealoeaa
