/-
  The two nets beside a block that is none of theirs.
-/
import Derived.Test.YtanekdcmealoeaaRefJ
namespace Go.Proofs.Ytanekdcmealoeaa
open Go.RowKit Go.Maps

/-- The same, and block ob is none of theirs. -/
def PairO (ob B : Nat) (w : World) (nb rb c q : Nat) (s1 s2 : St) : Prop :=
  B ≤ w.heap.size ∧ ∃ mb lv lr cr cl, NetAt w nb mb lv c s1 ∧ RefAt w rb lr cr cl s2 ∧ cl.length ≤ q ∧ (∀ k, Foot nb mb lv k → ¬ RFoot rb lr cr k) ∧ (∀ k, Foot nb mb lv k → B ≤ k) ∧ (∀ k, RFoot rb lr cr k → B ≤ k) ∧
    ob < w.heap.size ∧ ¬ Foot nb mb lv ob ∧ ¬ RFoot rb lr cr ob

theorem PairO.pair {ob B : Nat} {w : World} {nb rb c q : Nat} {s1 s2 : St} (h : PairO ob B w nb rb c q s1 s2) : Pair B w nb rb c q s1 s2 := by
  obtain ⟨h0, mb, lv, lr, cr, cl, hn, hr, hq, hd, hf1, hf2, _⟩ := h
  exact ⟨h0, mb, lv, lr, cr, cl, hn, hr, hq, hd, hf1, hf2⟩
theorem PairO.lt {ob B : Nat} {w : World} {nb rb c q : Nat} {s1 s2 : St} (h : PairO ob B w nb rb c q s1 s2) : ob < w.heap.size := by
  obtain ⟨h0, mb, lv, lr, cr, cl, hn, hr, hq, hd, hf1, hf2, ho, _⟩ := h
  exact ho
theorem Pair.withO {ob B : Nat} {w w' : World} {nb rb c q : Nat} {s1 s2 : St} (h : Pair B w nb rb c q s1 s2) (hb : Below w.heap.size w w') (h1 : w.heap.size ≤ ob) (h2 : ob < w'.heap.size) : PairO ob B w' nb rb c q s1 s2 := by
  obtain ⟨h0, mb, lv, lr, cr, cl, hn, hr, hq, hd, hf1, hf2⟩ := h
  exact ⟨Nat.le_trans h0 hb.size, mb, lv, lr, cr, cl, hn.below hb, hr.below hb, hq, hd, hf1, hf2, h2, fun e => by have := hn.foot_lt _ e; omega, fun e => by have := hr.foot_lt _ e; omega⟩

theorem PairO.net {ob B : Nat} {w : World} {nb rb c q : Nat} {s1 s2 : St} (h : PairO ob B w nb rb c q s1 s2) :
    ∃ mb lv, NetAt w nb mb lv c s1 ∧ ∀ w' c' s1', (∃ lv', NetAt w' nb mb lv' c' s1' ∧ Step nb mb lv w lv' w') → PairO ob B w' nb rb c' q s1' s2 ∧ Below B w w' ∧ w'.heap[ob]? = w.heap[ob]? := by
  obtain ⟨h0, mb, lv, lr, cr, cl, hn, hr, hq, hd, hf1, hf2, ho, ho1, ho2⟩ := h
  refine ⟨mb, lv, hn, fun w' c' s1' ⟨lv', hn', hs⟩ => ?_⟩
  obtain ⟨hb, hf⟩ := hs.low h0 hf1
  refine ⟨⟨Nat.le_trans h0 hb.size, mb, lv', lr, cr, cl, hn', hr.turn hs.tn (fun k hk e => hd k e hk), hq, ?_, hf, hf2, Nat.lt_of_lt_of_le ho hb.size, ?_, ho2⟩, hb, hs.tn.block _ ho ho1⟩
  · rintro k (hk | hk | hk) he
    · exact hd k (Or.inl hk) he
    · exact hd k (Or.inr (Or.inl hk)) he
    · rcases hs.new k hk with h | h
      · exact hd k (Or.inr (Or.inr h)) he
      · have := hr.foot_lt k he; omega
  · rintro (hk | hk | hk)
    · exact ho1 (Or.inl hk)
    · exact ho1 (Or.inr (Or.inl hk))
    · rcases hs.new _ hk with h | h
      · exact ho1 (Or.inr (Or.inr h))
      · omega

theorem PairO.ref {ob B : Nat} {w : World} {nb rb c q : Nat} {s1 s2 : St} (h : PairO ob B w nb rb c q s1 s2) :
    ∃ lr cr cl, RefAt w rb lr cr cl s2 ∧ cl.length ≤ q ∧ ∀ w' s2' cl' q', (∃ lr' cr', RefAt w' rb lr' cr' cl' s2' ∧ RStep rb lr cr w lr' cr' w') → cl'.length ≤ q' → PairO ob B w' nb rb c q' s1 s2' ∧ Below B w w' ∧ w'.heap[ob]? = w.heap[ob]? := by
  obtain ⟨h0, mb, lv, lr, cr, cl, hn, hr, hq, hd, hf1, hf2, ho, ho1, ho2⟩ := h
  refine ⟨lr, cr, cl, hr, hq, fun w' s2' cl' q' ⟨lr', cr', hr', hs⟩ hq' => ?_⟩
  have hrb : B ≤ rb := hf2 rb (Or.inl rfl)
  have hb : Below B w w' := hs.tn.below h0 (fun k e => by omega)
  refine ⟨⟨Nat.le_trans h0 hb.size, mb, lv, lr', cr', cl', hn.turn hs.tn (fun k hk e => hd k hk (Or.inl e)), hr', hq', ?_, hf1, ?_, Nat.lt_of_lt_of_le ho hb.size, ho1, ?_⟩, hb, hs.tn.block _ ho (fun e => ho2 (Or.inl e))⟩
  · intro k hk he
    rcases hs.new k he with h | h
    · exact hd k hk h
    · have := hn.foot_lt k hk; omega
  · intro k hk
    rcases hs.new k hk with h | h
    · exact hf2 k h
    · omega
  · intro e
    rcases hs.new _ e with h | h
    · exact ho2 h
    · omega

theorem PairO.same {ob B : Nat} {w w' : World} {nb rb c q : Nat} {s1 s2 : St} (h : PairO ob B w nb rb c q s1 s2) (hb : Below w.heap.size w w') : PairO ob B w' nb rb c q s1 s2 := by
  obtain ⟨h0, mb, lv, lr, cr, cl, hn, hr, hq, hd, hf1, hf2, ho, ho1, ho2⟩ := h
  exact ⟨Nat.le_trans h0 hb.size, mb, lv, lr, cr, cl, hn.below hb, hr.below hb, hq, hd, hf1, hf2, Nat.lt_of_lt_of_le ho hb.size, ho1, ho2⟩

/-- The variable o of a round. -/
structure OAt (w : World) (ob : Nat) (o : LOp) : Prop where
  c0 : w.cell? ⟨ob, 0, none⟩ = some (.int .i64 o.k)
  c1 : w.cell? ⟨ob, 1, none⟩ = some (.int .i64 o.a)
  c2 : w.cell? ⟨ob, 2, none⟩ = some (.int .i64 o.b)
  c3 : w.cell? ⟨ob, 3, none⟩ = some (.string o.d)
theorem OAt.next {w w' : World} {ob : Nat} {o : LOp} (h : OAt w ob o) (hb : w'.heap[ob]? = w.heap[ob]?) : OAt w' ob o :=
  ⟨(World.cell?_of_block (a := ⟨ob, 0, none⟩) hb).trans h.c0, (World.cell?_of_block (a := ⟨ob, 1, none⟩) hb).trans h.c1, (World.cell?_of_block (a := ⟨ob, 2, none⟩) hb).trans h.c2, (World.cell?_of_block (a := ⟨ob, 3, none⟩) hb).trans h.c3⟩

/-- Worlds in which nothing that was there has turned. -/
structure HWd (w : World) where
  val : World
  prop : Below w.heap.size w val
instance (w : World) : Nonempty (HWd w) := ⟨⟨w, Below.refl _ _⟩⟩
theorem wp_region_heldd {P : Program} {id : Nat} {Q : Exit → Act → World → Prop} {a : Act} {w : World} {l : List Oper} (hm : P.follows .mixedOrders = true) (hB : Region.lexB .any l.toArray = true)
    (h : wpQuiet P l.toArray (fun w' => ∃ x : HWd w, w' = x.val) (fun a' => ∀ w', (∃ x : HWd w, w' = x.val) → Q .normal a' w') l a) : (Code.region id l.toArray true).wp P Q a w :=
  wp_region_quiet (C := fun w' => ∃ x : HWd w, w' = x.val) hm hB ⟨⟨w.drew, (Below.refl _ _).drew⟩, rfl⟩ (by simpa using h)
theorem calls_heldd {P : Program} {f : FuncId} {args : Array Value} {w : World} {x : HWd w} {v : Value} (h : Calls P f args x.val fun e w' => e = .returned v ∧ Below x.val.heap.size x.val w') :
    Calls P f args x.val fun e w'' => e = .returned v ∧ ∃ y : HWd w, w'' = y.val :=
  h.mono fun _ w' ⟨he, hb⟩ => ⟨he, ⟨w', x.prop.trans (hb.mono x.prop.size)⟩, rfl⟩
theorem calls_heldd_same {P : Program} {f : FuncId} {args : Array Value} {w : World} {x : HWd w} {v : Value} (h : Calls P f args x.val fun e w' => e = .returned v ∧ x.val = w') :
    Calls P f args x.val fun e w'' => e = .returned v ∧ ∃ y : HWd w, w'' = y.val :=
  h.mono fun _ _ ⟨he, hb⟩ => ⟨he, x, hb.symm⟩

theorem psendO {ob B : Nat} {w : World} {nb rb c q : Nat} {s1 s2 : St} (h : PairO ob B w nb rb c q s1 s2) (a b : Int) (d : ByteArray) :
    Calls Try.prog 10 #[.pointer (some ⟨nb, 0, none⟩), .int .i64 a, .int .i64 b, .string d] w fun e w' => e = .returned (.int .i64 (s1.sendE a b d)) ∧ PairO ob B w' nb rb c q (s1.send a b d) s2 ∧ Below B w w' ∧ w'.heap[ob]? = w.heap[ob]? := by
  obtain ⟨mb, lv, hn, hk⟩ := h.net
  refine (send_st hn a b d).mono ?_
  rintro e w' ⟨rfl, hw⟩
  exact ⟨rfl, hk _ _ _ hw⟩

theorem ppeekO {ob B : Nat} {w : World} {nb rb c q : Nat} {s1 s2 : St} (h : PairO ob B w nb rb c q s1 s2) (i : Int) :
    Calls Try.prog 19 #[.pointer (some ⟨nb, 0, none⟩), .int .i64 i] w fun e w' => e = .returned (.tuple #[.int .i64 (s1.msg i).f, .int .i64 (s1.msg i).t, .string (s1.msg i).d, .int .i64 (s1.askE i)]) ∧ PairO ob B w' nb rb c q s1 s2 ∧ Below B w w' ∧ w'.heap[ob]? = w.heap[ob]? := by
  obtain ⟨mb, lv, hn, hk⟩ := h.net
  refine (peek_st hn i).mono ?_
  rintro e w' ⟨rfl, hw⟩
  exact ⟨rfl, hk _ _ _ hw⟩

theorem pdeliverO {ob B : Nat} {w : World} {nb rb c q : Nat} {s1 s2 : St} (h : PairO ob B w nb rb c q s1 s2) (i : Int) :
    Calls Try.prog 11 #[.pointer (some ⟨nb, 0, none⟩), .int .i64 i] w fun e w' => e = .returned (.tuple #[.int .i64 (s1.msg i).f, .int .i64 (s1.msg i).t, .string (s1.msg i).d, .int .i64 (s1.askE i)]) ∧ PairO ob B w' nb rb c q (s1.deliver i) s2 ∧ Below B w w' ∧ w'.heap[ob]? = w.heap[ob]? := by
  obtain ⟨mb, lv, hn, hk⟩ := h.net
  refine (deliver_st hn i).mono ?_
  rintro e w' ⟨rfl, hw⟩
  exact ⟨rfl, hk _ _ _ hw⟩

theorem pdropO {ob B : Nat} {w : World} {nb rb c q : Nat} {s1 s2 : St} (h : PairO ob B w nb rb c q s1 s2) (i : Int) :
    Calls Try.prog 16 #[.pointer (some ⟨nb, 0, none⟩), .int .i64 i] w fun e w' => e = .returned (.int .i64 (s1.askE i)) ∧ PairO ob B w' nb rb c q (s1.drop i) s2 ∧ Below B w w' ∧ w'.heap[ob]? = w.heap[ob]? := by
  obtain ⟨mb, lv, hn, hk⟩ := h.net
  refine (drop_st hn i).mono ?_
  rintro e w' ⟨rfl, hw⟩
  exact ⟨rfl, hk _ _ _ hw⟩

theorem ptwiceO {ob B : Nat} {w : World} {nb rb c q : Nat} {s1 s2 : St} (h : PairO ob B w nb rb c q s1 s2) (i : Int) :
    Calls Try.prog 17 #[.pointer (some ⟨nb, 0, none⟩), .int .i64 i] w fun e w' => e = .returned (.int .i64 (s1.twiceE i)) ∧ PairO ob B w' nb rb c q (s1.twice i) s2 ∧ Below B w w' ∧ w'.heap[ob]? = w.heap[ob]? := by
  obtain ⟨mb, lv, hn, hk⟩ := h.net
  refine (twice_st hn i).mono ?_
  rintro e w' ⟨rfl, hw⟩
  exact ⟨rfl, hk _ _ _ hw⟩

theorem pcutO {ob B : Nat} {w : World} {nb rb c q : Nat} {s1 s2 : St} (h : PairO ob B w nb rb c q s1 s2) (a b : Int) (x : Bool) (hc : c < 1000) :
    Calls Try.prog 14 #[.pointer (some ⟨nb, 0, none⟩), .int .i64 a, .int .i64 b, .bool x] w fun e w' => e = .returned (.int .i64 (s1.cutE a b)) ∧ PairO ob B w' nb rb (c + 1) q (s1.cuts a b x) s2 ∧ Below B w w' ∧ w'.heap[ob]? = w.heap[ob]? := by
  obtain ⟨mb, lv, hn, hk⟩ := h.net
  refine (cut_st hn a b x hc).mono ?_
  rintro e w' ⟨rfl, hw⟩
  exact ⟨rfl, hk _ _ _ hw⟩

theorem piscutO {ob B : Nat} {w : World} {nb rb c q : Nat} {s1 s2 : St} (h : PairO ob B w nb rb c q s1 s2) (a b : Int) (ha : (Lit.int .i64 a).wf = true) (hb : (Lit.int .i64 b).wf = true) :
    Calls Try.prog 15 #[.pointer (some ⟨nb, 0, none⟩), .int .i64 a, .int .i64 b] w fun e w' => e = .returned (.bool (s1.cut a b)) ∧ PairO ob B w' nb rb c q s1 s2 ∧ Below B w w' ∧ w'.heap[ob]? = w.heap[ob]? := by
  obtain ⟨mb, lv, hn, hk⟩ := h.net
  refine (iscut_st hn a b ha hb).mono ?_
  rintro e w' ⟨rfl, hw⟩
  exact ⟨rfl, hk _ _ _ hw⟩

theorem qsendO {ob B : Nat} {w : World} {nb rb c q : Nat} {s1 s2 : St} (h : PairO ob B w nb rb c q s1 s2) (a b : Int) (d : ByteArray) (hx : s2.lost ≤ 100000) :
    Calls Try.prog 18 #[.pointer (some ⟨rb, 0, none⟩), .int .i64 a, .int .i64 b, .string d] w fun e w' => e = .returned (.int .i64 (s2.sendE a b d)) ∧ PairO ob B w' nb rb c q s1 (s2.send a b d) ∧ Below B w w' ∧ w'.heap[ob]? = w.heap[ob]? := by
  obtain ⟨lr, cr, cl, hr, hq, hk⟩ := h.ref
  refine (rsend_any hr a b d hx).mono ?_
  rintro e w' ⟨rfl, lr', hw, hs⟩
  exact ⟨rfl, hk _ _ cl _ ⟨lr', cr, hw, hs⟩ hq⟩

theorem qdeliverO {ob B : Nat} {w : World} {nb rb c q : Nat} {s1 s2 : St} (h : PairO ob B w nb rb c q s1 s2) (i : Int) :
    Calls Try.prog 21 #[.pointer (some ⟨rb, 0, none⟩), .int .i64 i] w fun e w' => e = .returned (.tuple #[.int .i64 (s2.msg i).f, .int .i64 (s2.msg i).t, .string (s2.msg i).d, .int .i64 (s2.askE i)]) ∧ PairO ob B w' nb rb c q s1 (s2.deliver i) ∧ Below B w w' ∧ w'.heap[ob]? = w.heap[ob]? := by
  obtain ⟨lr, cr, cl, hr, hq, hk⟩ := h.ref
  refine (rdeliver_any hr i).mono ?_
  rintro e w' ⟨rfl, lr', hw, hs⟩
  exact ⟨rfl, hk _ _ cl _ ⟨lr', cr, hw, hs⟩ hq⟩

theorem qdropO {ob B : Nat} {w : World} {nb rb c q : Nat} {s1 s2 : St} (h : PairO ob B w nb rb c q s1 s2) (i : Int) (hx : s2.lost ≤ 100000) :
    Calls Try.prog 22 #[.pointer (some ⟨rb, 0, none⟩), .int .i64 i] w fun e w' => e = .returned (.int .i64 (s2.askE i)) ∧ PairO ob B w' nb rb c q s1 (s2.drop i) ∧ Below B w w' ∧ w'.heap[ob]? = w.heap[ob]? := by
  obtain ⟨lr, cr, cl, hr, hq, hk⟩ := h.ref
  refine (rdrop_any hr i hx).mono ?_
  rintro e w' ⟨rfl, lr', hw, hs⟩
  exact ⟨rfl, hk _ _ cl _ ⟨lr', cr, hw, hs⟩ hq⟩

theorem qtwiceO {ob B : Nat} {w : World} {nb rb c q : Nat} {s1 s2 : St} (h : PairO ob B w nb rb c q s1 s2) (i : Int) :
    Calls Try.prog 23 #[.pointer (some ⟨rb, 0, none⟩), .int .i64 i] w fun e w' => e = .returned (.int .i64 (s2.twiceE i)) ∧ PairO ob B w' nb rb c q s1 (s2.twice i) ∧ Below B w w' ∧ w'.heap[ob]? = w.heap[ob]? := by
  obtain ⟨lr, cr, cl, hr, hq, hk⟩ := h.ref
  refine (rtwice_any hr i).mono ?_
  rintro e w' ⟨rfl, lr', hw, hs⟩
  exact ⟨rfl, hk _ _ cl _ ⟨lr', cr, hw, hs⟩ hq⟩

theorem qcutO {ob B : Nat} {w : World} {nb rb c q : Nat} {s1 s2 : St} (h : PairO ob B w nb rb c q s1 s2) (a b : Int) (x : Bool) (hq0 : q ≤ 1000) :
    Calls Try.prog 24 #[.pointer (some ⟨rb, 0, none⟩), .int .i64 a, .int .i64 b, .bool x] w fun e w' => e = .returned (.int .i64 (s2.cutE a b)) ∧ PairO ob B w' nb rb c (q + 1) s1 (s2.cuts a b x) ∧ Below B w w' ∧ w'.heap[ob]? = w.heap[ob]? := by
  obtain ⟨lr, cr, cl, hr, hq, hk⟩ := h.ref
  refine (rcut_any hr a b x (by omega)).mono ?_
  rintro e w' ⟨rfl, cr', cl', hw, hs, hl⟩
  exact ⟨rfl, hk _ _ cl' _ ⟨_, cr', hw, hs⟩ (by omega)⟩

theorem qpeekO {ob B : Nat} {w : World} {nb rb c q : Nat} {s1 s2 : St} (h : PairO ob B w nb rb c q s1 s2) (i : Int) :
    Calls Try.prog 20 #[.pointer (some ⟨rb, 0, none⟩), .int .i64 i] w fun e w' => e = .returned (.tuple #[.int .i64 (s2.msg i).f, .int .i64 (s2.msg i).t, .string (s2.msg i).d, .int .i64 (s2.askE i)]) ∧ PairO ob B w' nb rb c q s1 s2 ∧ Below B w w' ∧ w'.heap[ob]? = w.heap[ob]? := by
  obtain ⟨lr, cr, cl, hr, hq, hk⟩ := h.ref
  refine (rpeek_any hr i).mono ?_
  rintro e w' ⟨rfl, hb⟩
  exact ⟨rfl, h.same hb, hb.mono h.1, hb.block _ h.lt⟩

theorem qiscutO {ob B : Nat} {w : World} {nb rb c q : Nat} {s1 s2 : St} (h : PairO ob B w nb rb c q s1 s2) (a b : Int) :
    Calls Try.prog 25 #[.pointer (some ⟨rb, 0, none⟩), .int .i64 a, .int .i64 b] w fun e w' => e = .returned (.bool (s2.cut a b)) ∧ w = w' := by
  obtain ⟨lr, cr, cl, hr, hq, hk⟩ := h.ref
  exact riscut_any hr a b

theorem plenO {ob B : Nat} {w : World} {nb rb c q : Nat} {s1 s2 : St} (h : PairO ob B w nb rb c q s1 s2) :
    Calls Try.prog 12 #[.pointer (some ⟨nb, 0, none⟩)] w fun e w' => e = .returned (.int .i64 (s1.l.length : Int)) ∧ w = w' := by
  obtain ⟨mb, lv, hn, _⟩ := h.net
  exact len_any hn
theorem plostO {ob B : Nat} {w : World} {nb rb c q : Nat} {s1 s2 : St} (h : PairO ob B w nb rb c q s1 s2) :
    Calls Try.prog 13 #[.pointer (some ⟨nb, 0, none⟩)] w fun e w' => e = .returned (.int .i64 s1.lost) ∧ w = w' := by
  obtain ⟨mb, lv, hn, _⟩ := h.net
  exact lost_any hn
end Go.Proofs.Ytanekdcmealoeaa
