/-
  Every call of a net in one form: the net's state, in blocks from B on.
-/
import Derived.Test.YtanekdcmealoeaaNetN
namespace Go.Proofs.Ytanekdcmealoeaa
open Go.RowKit Go.Maps

/-- At nb stands a net with state s; its blocks lie from B on; at most c ways were ever cut. -/
def NAt (B : Nat) (w : World) (nb c : Nat) (s : St) : Prop := B ≤ w.heap.size ∧ ∃ mb lv, NetAt w nb mb lv c s ∧ ∀ k, Foot nb mb lv k → B ≤ k

def St.has (s : St) (i : Int) : Bool := decide (0 ≤ i) && decide (i < s.l.length)
def St.msg (s : St) (i : Int) : Msg := if s.has i = true then s.l.getD i.toNat msg0 else msg0
def St.askE (s : St) (i : Int) : Int := if s.has i = true then 0 else 5
def St.deliver (s : St) (i : Int) : St := if s.has i = true then s.take i.toNat else s
def St.drop (s : St) (i : Int) : St := if s.has i = true then (s.take i.toNat).lose else s
def St.twiceE (s : St) (i : Int) : Int := if s.has i = true then (if s.l.length < 400 then 0 else 24) else 5
def St.twice (s : St) (i : Int) : St := if s.has i = true then (if s.l.length < 400 then s.add (s.msg i) else s) else s
def St.cutE (s : St) (a b : Int) : Int := if s.way a b = true then 0 else 1
def St.cuts (s : St) (a b : Int) (x : Bool) : St := if s.way a b = true then s.setCut a b x else s

theorem St.has_true {s : St} {i : Int} (h : s.has i = true) : ∃ k : Nat, i = (k : Int) ∧ k < s.l.length := by
  simp only [St.has, Bool.and_eq_true, decide_eq_true_eq] at h
  exact ⟨i.toNat, by omega, by omega⟩
theorem St.has_false {s : St} {i : Int} (h : s.has i = false) : i < 0 ∨ s.l.length ≤ i := by
  simp only [St.has, Bool.and_eq_false_iff, decide_eq_false_iff_not] at h
  omega
theorem St.msg_nat {s : St} {k : Nat} (hk : k < s.l.length) : s.has (k : Int) = true ∧ s.msg (k : Int) = s.l[k] := by
  have h : s.has (k : Int) = true := by simp [St.has]; omega
  exact ⟨h, by unfold St.msg; rw [if_pos h]; simp [hk]⟩

theorem NAt.same {B : Nat} {w w' : World} {nb c : Nat} {s : St} (h : NAt B w nb c s) (hb : Below w.heap.size w w') : NAt B w' nb c s := by
  obtain ⟨h0, mb, lv, h1, h2⟩ := h
  exact ⟨Nat.le_trans h0 hb.size, mb, lv, h1.below hb, h2⟩

theorem NAt.step {B : Nat} {w w' : World} {nb mb c' : Nat} {lv lv' : Value} {s' : St} (h0 : B ≤ w.heap.size) (hf : ∀ k, Foot nb mb lv k → B ≤ k) (hn : NetAt w' nb mb lv' c' s') (hs : Step nb mb lv w lv' w') : NAt B w' nb c' s' ∧ Below B w w' := by
  obtain ⟨h1, h2⟩ := hs.low h0 hf
  exact ⟨⟨Nat.le_trans h0 h1.size, mb, lv', hn, h2⟩, h1⟩

theorem send_at {B : Nat} {w : World} {nb c : Nat} {s : St} (h : NAt B w nb c s) (a b : Int) (d : ByteArray) :
    Calls Try.prog 10 #[.pointer (some ⟨nb, 0, none⟩), .int .i64 a, .int .i64 b, .string d] w fun e w' => e = .returned (.int .i64 (s.sendE a b d)) ∧ NAt B w' nb c (s.send a b d) ∧ Below B w w' := by
  have hh := h
  obtain ⟨h0, mb, lv, h1, h2⟩ := h
  unfold St.sendE St.send
  by_cases hw : s.way a b = false
  · rw [if_pos hw, if_pos hw]
    refine (send_none h1 a b d hw).mono ?_
    rintro e w' ⟨rfl, rfl⟩
    exact ⟨rfl, hh, Below.refl _ _⟩
  rw [if_neg hw, if_neg hw]
  have hw : s.way a b = true := by simpa using hw
  by_cases hd : 65536 < d.size
  · rw [if_pos hd, if_pos hd]
    refine (send_long h1 a b d hw hd).mono ?_
    rintro e w' ⟨rfl, rfl⟩
    exact ⟨rfl, hh, Below.refl _ _⟩
  rw [if_neg hd, if_neg hd]
  by_cases hc : s.cut a b = true
  · rw [if_pos (Or.inl hc)]
    refine (send_cut h1 a b d hw (by omega) hc).mono ?_
    rintro e w' ⟨rfl, hn, hs⟩
    exact ⟨rfl, NAt.step h0 h2 hn hs⟩
  have hc : s.cut a b = false := by simpa using hc
  by_cases hl : 400 ≤ s.l.length
  · rw [if_pos (Or.inr hl)]
    refine (send_full h1 a b d hw (by omega) hc hl).mono ?_
    rintro e w' ⟨rfl, hn, hs⟩
    exact ⟨rfl, NAt.step h0 h2 hn hs⟩
  · rw [if_neg (by rw [hc]; simp; omega)]
    refine (send_ok h1 a b d hw (by omega) hc (by omega)).mono ?_
    rintro e w' ⟨rfl, lv', hn, hs⟩
    exact ⟨rfl, NAt.step h0 h2 hn hs⟩

theorem peek_at {B : Nat} {w : World} {nb c : Nat} {s : St} (h : NAt B w nb c s) (i : Int) :
    Calls Try.prog 19 #[.pointer (some ⟨nb, 0, none⟩), .int .i64 i] w fun e w' =>
      e = .returned (.tuple #[.int .i64 (s.msg i).f, .int .i64 (s.msg i).t, .string (s.msg i).d, .int .i64 (s.askE i)]) ∧ NAt B w' nb c s ∧ Below B w w' := by
  have hh := h
  obtain ⟨h0, mb, lv, h1, h2⟩ := h
  cases hi : s.has i with
  | true =>
    obtain ⟨k, rfl, hk⟩ := St.has_true hi
    refine (peek_ok h1 k hk).mono ?_
    rintro e w' ⟨rfl, hb⟩
    refine ⟨?_, hh.same hb, hb.mono h0⟩
    rw [(St.msg_nat hk).2, St.askE, if_pos hi]
  | false =>
    refine (peek_bad h1 i (St.has_false hi)).mono ?_
    rintro e w' ⟨rfl, hb⟩
    refine ⟨?_, hh.same hb, hb.mono h0⟩
    simp [St.msg, St.askE, hi, msg0]

theorem deliver_at {B : Nat} {w : World} {nb c : Nat} {s : St} (h : NAt B w nb c s) (i : Int) :
    Calls Try.prog 11 #[.pointer (some ⟨nb, 0, none⟩), .int .i64 i] w fun e w' =>
      e = .returned (.tuple #[.int .i64 (s.msg i).f, .int .i64 (s.msg i).t, .string (s.msg i).d, .int .i64 (s.askE i)]) ∧ NAt B w' nb c (s.deliver i) ∧ Below B w w' := by
  have hh := h
  obtain ⟨h0, mb, lv, h1, h2⟩ := h
  cases hi : s.has i with
  | true =>
    obtain ⟨k, rfl, hk⟩ := St.has_true hi
    refine (deliver_ok h1 k hk).mono ?_
    rintro e w' ⟨rfl, lv', hn, hs⟩
    refine ⟨?_, ?_⟩
    · rw [(St.msg_nat hk).2, St.askE, if_pos hi]
    · rw [St.deliver, if_pos hi]; exact NAt.step h0 h2 hn hs
  | false =>
    refine (deliver_bad h1 i (St.has_false hi)).mono ?_
    rintro e w' ⟨rfl, hb⟩
    refine ⟨?_, ?_, hb.mono h0⟩
    · simp [St.msg, St.askE, hi, msg0]
    · rw [St.deliver, hi]; exact hh.same hb

theorem drop_at {B : Nat} {w : World} {nb c : Nat} {s : St} (h : NAt B w nb c s) (i : Int) :
    Calls Try.prog 16 #[.pointer (some ⟨nb, 0, none⟩), .int .i64 i] w fun e w' => e = .returned (.int .i64 (s.askE i)) ∧ NAt B w' nb c (s.drop i) ∧ Below B w w' := by
  have hh := h
  obtain ⟨h0, mb, lv, h1, h2⟩ := h
  cases hi : s.has i with
  | true =>
    obtain ⟨k, rfl, hk⟩ := St.has_true hi
    refine (drop_ok h1 k hk).mono ?_
    rintro e w' ⟨rfl, lv', hn, hs⟩
    refine ⟨by rw [St.askE, if_pos hi], ?_⟩
    rw [St.drop, if_pos hi]; exact NAt.step h0 h2 hn hs
  | false =>
    refine (drop_bad h1 i (St.has_false hi)).mono ?_
    rintro e w' ⟨rfl, hb⟩
    refine ⟨by simp [St.askE, hi], ?_, hb.mono h0⟩
    rw [St.drop, hi]; exact hh.same hb

theorem twice_at {B : Nat} {w : World} {nb c : Nat} {s : St} (h : NAt B w nb c s) (i : Int) :
    Calls Try.prog 17 #[.pointer (some ⟨nb, 0, none⟩), .int .i64 i] w fun e w' => e = .returned (.int .i64 (s.twiceE i)) ∧ NAt B w' nb c (s.twice i) ∧ Below B w w' := by
  have hh := h
  obtain ⟨h0, mb, lv, h1, h2⟩ := h
  cases hi : s.has i with
  | true =>
    obtain ⟨k, rfl, hk⟩ := St.has_true hi
    by_cases hr : s.l.length < 400
    · refine (twice_ok h1 k hk hr).mono ?_
      rintro e w' ⟨rfl, lv', hn, hs⟩
      refine ⟨by rw [St.twiceE, if_pos hi, if_pos hr], ?_⟩
      rw [St.twice, if_pos hi, if_pos hr, (St.msg_nat hk).2]; exact NAt.step h0 h2 hn hs
    · refine (twice_full h1 k hk (by omega)).mono ?_
      rintro e w' ⟨rfl, hb⟩
      refine ⟨by rw [St.twiceE, if_pos hi, if_neg hr], ?_, hb.mono h0⟩
      rw [St.twice, if_pos hi, if_neg hr]; exact hh.same hb
  | false =>
    refine (twice_bad h1 i (St.has_false hi)).mono ?_
    rintro e w' ⟨rfl, hb⟩
    refine ⟨by simp [St.twiceE, hi], ?_, hb.mono h0⟩
    rw [St.twice, hi]; exact hh.same hb

theorem NAt.more {B : Nat} {w : World} {nb c : Nat} {s : St} (h : NAt B w nb c s) : NAt B w nb (c + 1) s := by
  obtain ⟨h0, mb, lv, h1, h2⟩ := h
  obtain ⟨D, hD, hc⟩ := h1.map
  exact ⟨h0, mb, lv, { h1 with map := ⟨D, hD.mono (Nat.le_succ _), hc⟩ }, h2⟩

theorem cut_at {B : Nat} {w : World} {nb c : Nat} {s : St} (h : NAt B w nb c s) (a b : Int) (x : Bool) (hc : c < 1000) :
    Calls Try.prog 14 #[.pointer (some ⟨nb, 0, none⟩), .int .i64 a, .int .i64 b, .bool x] w fun e w' => e = .returned (.int .i64 (s.cutE a b)) ∧ NAt B w' nb (c + 1) (s.cuts a b x) ∧ Below B w w' := by
  have hh := h
  obtain ⟨h0, mb, lv, h1, h2⟩ := h
  unfold St.cutE St.cuts
  cases hw : s.way a b with
  | false =>
    refine (cut_none h1 a b x hw).mono ?_
    rintro e w' ⟨rfl, rfl⟩
    exact ⟨rfl, hh.more, Below.refl _ _⟩
  | true =>
    cases x with
    | true =>
      refine (cut_set h1 a b hw hc).mono ?_
      rintro e w' ⟨rfl, hn, hs⟩
      exact ⟨rfl, NAt.step h0 h2 hn hs⟩
    | false =>
      refine (cut_mend h1 a b hw).mono ?_
      rintro e w' ⟨rfl, hn, hs⟩
      have := NAt.step h0 h2 hn hs
      exact ⟨rfl, this.1.more, this.2⟩

theorem iscut_at {B : Nat} {w : World} {nb c : Nat} {s : St} (h : NAt B w nb c s) (a b : Int) (ha : (Lit.int .i64 a).wf = true) (hb : (Lit.int .i64 b).wf = true) :
    Calls Try.prog 15 #[.pointer (some ⟨nb, 0, none⟩), .int .i64 a, .int .i64 b] w fun e w' => e = .returned (.bool (s.cut a b)) ∧ NAt B w' nb c s ∧ Below B w w' := by
  have hh := h
  obtain ⟨h0, mb, lv, h1, h2⟩ := h
  refine (iscut_any h1 a b ha hb).mono ?_
  rintro e w' ⟨rfl, hb⟩
  exact ⟨rfl, hh.same hb, hb.mono h0⟩

theorem len_at {B : Nat} {w : World} {nb c : Nat} {s : St} (h : NAt B w nb c s) :
    Calls Try.prog 12 #[.pointer (some ⟨nb, 0, none⟩)] w fun e w' => e = .returned (.int .i64 (s.l.length : Int)) ∧ w = w' := by
  obtain ⟨h0, mb, lv, h1, h2⟩ := h
  exact len_any h1

theorem lost_at {B : Nat} {w : World} {nb c : Nat} {s : St} (h : NAt B w nb c s) :
    Calls Try.prog 13 #[.pointer (some ⟨nb, 0, none⟩)] w fun e w' => e = .returned (.int .i64 s.lost) ∧ w = w' := by
  obtain ⟨h0, mb, lv, h1, h2⟩ := h
  exact lost_any h1

theorem new_at (w : World) (n : Int) (h1 : 1 ≤ n) (h8 : n ≤ 8) :
    Calls Try.prog 9 #[.int .i64 n] w fun e w' => ∃ nb, e = .returned (.pointer (some ⟨nb, 0, none⟩)) ∧ NAt w.heap.size w' nb 0 (St.new n) ∧ Below w.heap.size w w' := by
  refine (new_ok w n h1 h8).mono ?_
  rintro e w' ⟨v, rfl, nb, mb, lv, rfl, hn, hb, hf⟩
  exact ⟨nb, rfl, ⟨hb.size, mb, lv, hn, hf⟩, hb⟩
end Go.Proofs.Ytanekdcmealoeaa
