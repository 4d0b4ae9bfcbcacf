/-
  Wal: the texts that a law keeps: a slice of its own, or one that ends where its capacity does.
-/
import Derived.Test.YtohigcpcbonaeaaGreatDoorWlPP
import Derived.Test.YtohigcpcbonaeaaGreatDoorOpenTxs
set_option linter.unusedSimpArgs false
set_option linter.unusedVariables false
namespace Go.Proofs.YtohigcpcbonaeaaGreatDoor
open Go.RowKit Go.Lib
variable {F F' G G' H : Nat → Prop} {B : Nat} {w w' w0 : World} {lb mp db mb k n s : Nat} {L L' L1 : Lg} {D D' D1 : Dk} {S S' S1 : List (Nat × Fl)} {M : Option Fl} {z : Option Fz} {f : Fl} {dir r : ByteArray} {size q c : Int} {v : Value} {l : List ByteArray}

/-- Of a disk without a fuse: what others turn. -/
theorem DkAt.clear (h : DkAt F w db mb D) (hz : D.fuse = none) (ht : Tn H w w') (hH : ∀ q, H q → ¬ two db mb q) : DkAt F w' db mb D := by
  have hd : ¬ H db := fun e => hH db e (.inl rfl)
  have hm : ¬ H mb := fun e => hH mb e (.inr rfl)
  obtain ⟨p, hp, hz2⟩ := h.c3
  rw [hz] at hz2
  refine ⟨ht.cell h.c0 hd, ht.cell h.c1 hd, ht.cell h.c2 hd, ⟨p, ht.cell hp hd, by rw [hz]; exact hz2⟩, ht.cell h.c4 hd, h.m.tn ht hm, fun j => (ht.frozen (p := ⟨db, j, none⟩) h.ltd hd).trans (h.fz j), h.ok, h.ne, h.fd, h.fm, fun q hq => Nat.lt_of_lt_of_le (h.lt q hq) ht.size⟩
theorem DS.clear (h : DS B w0 w F db mb D) (hz : D.fuse = none) (ht : Tn H w w') (hH : ∀ q, H q → B ≤ q ∧ ¬ F q) : DS B w0 w' F db mb D :=
  ⟨h.d.clear hz ht (fun q e e2 => (hH q e).2 (h.dk2 q e2)), h.new, h.b.trans (ht.below h.hz (fun q e => (hH q e).1)), Nat.le_trans h.hz ht.size⟩
theorem WS.clear (h : WS B w0 w F G db mb lb mp D L) (hz : D.fuse = none) (ht : Tn H w w') (hH : ∀ q, H q → B ≤ q ∧ ¬ F q) : WS B w0 w' F G db mb lb mp D L :=
  ⟨h.d.clear hz ht hH, h.l.tn ht (fun q e e2 => (hH q e2).2 (h.sub q e).1), h.sub⟩
theorem c_crashd (h : DS B w0 w F db mb D) {v : Value} {cuts : List Int} (hr : RdC F w v cuts) (hcl : cuts.length ≤ 1000000) (flip : Int) :
    Calls Tryz.prog 11 #[.pointer (some ⟨db, 0, none⟩), v, .int .i64 flip] w fun e w' => e = .returned (.tuple #[]) ∧ DS B w0 w' F db mb (D.crash cuts flip) ∧ Step F F w w' := by
  cases hon : D.on with
  | true =>
    refine (crash_any h.d hon hr hcl flip).mono ?_
    rintro e w' ⟨he, hd, ht⟩
    have := h.disk hd ht
    exact ⟨he, this.1, this.2⟩
  | false =>
    have ho : OnAt w (some ⟨db, 0, none⟩) false := .inr ⟨db, rfl, by rw [← hon]; exact h.d.c1⟩
    refine (crash_off ho v flip).mono ?_
    rintro e w' ⟨he, rfl⟩
    have e1 : D.crash cuts flip = D := by unfold Dk.crash; rw [hon]; rfl
    exact ⟨he, by rw [e1]; exact h, Step.refl⟩

/-- The texts that a law keeps. -/
structure KpX (B : Nat) (F : Nat → Prop) (w : World) (a : Option Addr) (c : Nat) (l : List ByteArray) : Prop where
  le : l.length ≤ c
  cap : c ≤ 9223372036854775807
  new : ∀ x, a = some x → B ≤ x.block ∧ ¬ F x.block ∧ x.block < w.heap.size
  row : Own eStr w 0 (.slice a l.length c) l ∨ (c = l.length ∧ RdT w (.slice a l.length c) l)
theorem KpX.rd {a : Option Addr} {c : Nat} (h : KpX B F w a c l) : RdT w (.slice a l.length c) l := h.row.elim (fun h => rdT_own h) (fun h => h.2)
theorem rdT_tn {v : Value} (h : RdT w v l) (ht : Tn H w w') (hH : ∀ q, v.ownBlock = some q → ¬ H q) : RdT w' v l := by
  obtain ⟨a, c, hx, h⟩ := h
  refine ⟨a, c, hx, h.imp id ?_⟩
  rintro ⟨b, off, ha, hlt, hc⟩
  subst hx ha
  exact ⟨b, off, rfl, Nat.lt_of_lt_of_le hlt ht.size, fun i hi => ht.cell (hc i hi) (hH b rfl)⟩
theorem KpX.nil : KpX B F w none 0 [] := ⟨Nat.le_refl _, by decide, fun x e => (by cases e), .inl (World.ownsRow_nil _ _ _ _)⟩
theorem KpX.go {a : Option Addr} {c : Nat} (h : KpX B F w a c l) (s : Step F F' w w') : KpX B F' w' a c l := by
  have hn : ∀ q, (Value.slice a l.length c).ownBlock = some q → ¬ F q := fun q hq => by
    cases a with
    | none => cases hq
    | some x => cases hq; exact (h.new x rfl).2.1
  refine ⟨h.le, h.cap, fun x hx => ?_, h.row.imp (fun h => s.t.row h hn) (fun h => ⟨h.1, rdT_tn h.2 s.t hn⟩)⟩
  have h1 := h.new x hx
  exact ⟨h1.1, fun e => (s.n _ e).elim h1.2.1 (fun e => by omega), Nat.lt_of_lt_of_le h1.2.2 s.t.size⟩
theorem KpX.cut {a : Option Addr} {c j : Nat} (h : KpX B F w a c l) (hj : j ≤ l.length) : KpX B F w a j (l.take j) := by
  have hl : (l.take j).length = j := by rw [List.length_take]; omega
  refine ⟨by omega, by have := h.le; have := h.cap; omega, h.new, .inr ⟨hl.symm, ?_⟩⟩
  rw [hl]
  exact h.rd.take hj j
theorem run_appK {a : Option Addr} {c : Nat} (ty : TypeId) {x : Value} {l2 : List ByteArray} (h : KpX B F w a c l) (hsrc : Src eStr w x l2) (h0 : l2 ≠ []) (hlen : l.length + l2.length ≤ 100000000) (hB : B ≤ w.heap.size) (hF : ∀ q, F q → q < w.heap.size) :
    ∃ a' c' w', (Builtin.append_ #[26, 26] ty #[.slice a l.length c, x]).run Tryz.prog w = .ok (.slice a' (l.length + l2.length) c') w' ∧ KpX B F w' a' c' (l ++ l2) ∧ Tn (fun q => B ≤ q ∧ ¬ F q) w w' := by
  have hll : (l ++ l2).length = l.length + l2.length := List.length_append
  have key : ∀ a' c' (w' : World), Own eStr w' 0 (.slice a' (l.length + l2.length) c') (l ++ l2) → ((Value.slice a' (l.length + l2.length) c').ownBlock = (Value.slice a l.length c).ownBlock ∨ ∀ q, (Value.slice a' (l.length + l2.length) c').ownBlock = some q → w.heap.size ≤ q) → w.heap.size ≤ w'.heap.size → KpX B F w' a' c' (l ++ l2) := by
    intro a' c' w' ho hb hs
    obtain ⟨_, _, e, hle, hcp⟩ := row_form ho
    injection e with e1 e2 e3
    subst e1 e3
    refine ⟨hle, hcp, fun x hx => ?_, .inl (by rw [hll]; exact ho)⟩
    subst hx
    have hlt := (ho.lt x.block rfl).2
    rcases hb with hb | hb
    · cases a with
      | none => cases hb
      | some y =>
        have e2 : x.block = y.block := Option.some.inj hb
        have := h.new y rfl
        rw [e2]
        exact ⟨this.1, this.2.1, by omega⟩
    · have h2 := hb x.block rfl
      exact ⟨by omega, fun e => by have := hF _ e; omega, hlt⟩
  have hon : ∀ q, (Value.slice a l.length c).ownBlock = some q → B ≤ q ∧ ¬ F q := fun q hq => by
    cases a with
    | none => cases hq
    | some x => cases hq; exact ⟨(h.new x rfl).1, (h.new x rfl).2.1⟩
  rcases h.row with ho | ⟨hc, hr⟩
  · obtain ⟨a', c', w', hrun, hap⟩ := run_app2 eStr ty ho hsrc hlen (Nat.zero_le _)
    exact ⟨a', c', w', hrun, key a' c' w' hap.own hap.block hap.tn.size, hap.tn.mono (fun q e => hon q e)⟩
  · subst hc
    by_cases h00 : l = []
    · subst h00
      cases a with
      | none =>
        obtain ⟨a', c', w', hrun, hap⟩ := run_app2 eStr ty (w := w) (B := 0) (v := .slice none 0 0) (l := []) (World.ownsRow_nil _ _ _ _) hsrc hlen (Nat.zero_le _)
        have hnew : ∀ q, (Value.slice a' (([] : List ByteArray).length + l2.length) c').ownBlock = some q → w.heap.size ≤ q := by
          intro q hq
          rcases hap.block with e | e
          · rw [e] at hq
            cases hq
          · exact e q hq
        exact ⟨a', c', w', hrun, key a' c' w' hap.own (.inr hnew) hap.tn.size, hap.tn.mono (fun q e => by cases e)⟩
      | some y =>
        obtain ⟨i, z, hi, hz, hsz, hby, hzs⟩ := eStr.info
        rcases hsrc with ⟨_, e⟩ | ⟨ad, cc, rfl, hcell⟩
        · exact absurd e h0
        · have hpos : 0 < l2.length := by
            cases l2 with
            | nil => exact absurd rfl h0
            | cons x l => simp
          have hl2 : l2.length ≤ 100000000 := by simpa using hlen
          obtain ⟨v', w', hrun, h2, h3⟩ := run_append_arg_grows (P := Tryz.prog) w 26 ty 9 i z 1 _ eStr.und hi hz hsz hby hzs eStr.pos y 0 0 [] rfl (fun j u hj => by simp at hj) ad l2.length cc (l2.flatMap _) (eStr.lens l2) hcell (by omega) (by unfold maxLen; omega) (by omega)
          obtain ⟨a', cap', rfl, _, _⟩ := row_form h2
          have htn : Tn (fun _ => False) w w' := Tn.ofGrown h3 (fun q hq => by cases hq)
          refine ⟨a', cap', w', hrun, key a' cap' w' (row_mono (by simpa using h2) (Nat.zero_le _)) (.inr fun q hq => (h2.lt q hq).1) htn.size, htn.mono (fun _ e => e.elim)⟩
    · obtain ⟨a1, c1, e1, hr2⟩ := hr
      injection e1 with e1 e2 e3
      subst e1
      obtain ⟨b, off, rfl, hlt, hcl⟩ := hr2.resolve_left h00
      obtain ⟨i, z, hi, hz, hsz, hby, hzs⟩ := eStr.info
      rcases hsrc with ⟨_, e⟩ | ⟨ad, cc, rfl, hcell⟩
      · exact absurd e h0
      · have hpos : 0 < l2.length := by
          cases l2 with
          | nil => exact absurd rfl h0
          | cons x l => simp
        obtain ⟨v', w', hrun, h2, h3⟩ := run_append_arg_grows (P := Tryz.prog) w 26 ty 9 i z 1 _ eStr.und hi hz hsz hby hzs eStr.pos ⟨b, off, none⟩ l.length l.length (l.flatMap _) (by rw [eStr.lens]) (fun j u hj => by
            have hjl : j < l.length := by have := (List.getElem?_eq_some_iff.1 hj).1; rw [eStr.lens] at this; omega
            have h4 := eStr.get l j 0 hjl (by omega)
            rw [Nat.mul_one, Nat.add_zero] at h4
            rw [add_off, hcl j hjl, ← hj, h4]
            rfl) ad l2.length cc (l2.flatMap _) (eStr.lens l2) hcell (by omega) (by unfold maxLen; omega) (by omega)
        obtain ⟨a', cap', rfl, _, _⟩ := row_form h2
        have htn : Tn (fun _ => False) w w' := Tn.ofGrown h3 (fun q hq => by cases hq)
        refine ⟨a', cap', w', hrun, key a' cap' w' ?_ (.inr fun q hq => (h2.lt q hq).1) htn.size, htn.mono (fun _ e => e.elim)⟩
        show w'.ownsRow 0 _ _ _ _ _
        rw [List.length_append, List.flatMap_append]
        exact row_mono h2 (Nat.zero_le _)
section
variable {ops : Array Oper} {Q : Exit → Act → World → Prop} {a : Act} {rest : List Oper} {o : Oper}
theorem wpl_appK (hgd : o.guard = none) (sv x : Operand) (ho : o.op = .call { callee := .builtin .append, args := #[sv, x], argTypes := #[26, 26] }) {ad : Option Addr} {c : Nat} {xv : Value} {l2 : List ByteArray} (hs : a.eval sv = .slice ad l.length c) (hx : a.eval x = xv)
    (hk : KpX B F w ad c l) (hsrc : Src eStr w xv l2) (h0 : l2 ≠ []) (hlen : l.length + l2.length ≤ 100000000) (hB : B ≤ w.heap.size) (hF : ∀ q, F q → q < w.heap.size)
    (h : ∀ a' c' w', KpX B F w' a' c' (l ++ l2) → Tn (fun q => B ≤ q ∧ ¬ F q) w w' → wpList Tryz.prog ops Q rest (a.put o.dst (.slice a' (l.length + l2.length) c')) w') : wpList Tryz.prog ops Q (o :: rest) a w :=
  wpList_plain hgd fun _ hK => by
    obtain ⟨a', c', w', hr, h2, h3⟩ := run_appK o.type hk hsrc h0 hlen hB hF
    unfold Oper.wp execOp
    simp only [ho, resolve, invoke, builtin, Sem.run_bind, Sem.run_pure, Result.andThen_ok, List.map_toArray, List.map_cons, List.map_nil, hs, hx, hr]
    exact hK _ _ (h a' c' w' h2 h3)
end
end Go.Proofs.YtohigcpcbonaeaaGreatDoor
