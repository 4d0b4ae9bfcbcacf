/-
  append at the document's messages; Send.
-/
import Derived.Test.YtanekdcmealoeaaRefA
namespace Go.Proofs.Ytanekdcmealoeaa
open Go.RowKit Go.Maps

theorem info46 : (Try.prog.info? 46).map (fun i => (i.zero, i.size, i.bytes)) = some (some (.agg #[.int .i64 0, .int .i64 0, .string ⟨#[]⟩]), 3, 32) := by kernel_rfl

/-- A slice that is read: the messages l2. -/
def SrcR (w : World) (x : Value) (l2 : List Msg) : Prop :=
  (x = .slice none 0 0 ∧ l2 = []) ∨ ∃ ad c, x = .slice (some ad) l2.length c ∧ ∀ j u, (mCells l2)[j]? = some u → w.cell? (ad.add j) = some u

theorem run_app (ty : TypeId) (w : World) (v : Value) (l : List Msg) (hown : OwnR w v l) (x : Value) (l2 : List Msg) (hx : SrcR w x l2) (hlen : l.length + l2.length ≤ 1000) :
    ∃ v' w', (Builtin.append_ #[41, 41] ty #[v, x]).run Try.prog w = .ok v' w' ∧ OwnR w' v' (l ++ l2) ∧ w.grownBy w' v.ownBlock ∧ (v'.ownBlock = v.ownBlock ∨ v'.ownBlock = some w.heap.size) := by
  obtain ⟨i, hi, hz, hsz, hby⟩ := info_parts info46
  rcases hx with ⟨rfl, rfl⟩ | ⟨ad, c, rfl, hcell⟩
  · refine ⟨v, w, ?_, by simpa using hown, ⟨rfl, rfl, rfl, Nat.le_refl _, fun _ _ _ => rfl⟩, Or.inl rfl⟩
    have hu := Try.underlying41
    rcases hown.2 with ⟨rfl, h0⟩ | ⟨g, cap, cur, rfl, hg, hh, hn, hcap, hs, htake⟩
    · simp [Builtin.append_, run_underlying hu, sizeOf, typeInfo, hi, Builtin.lenOf, Builtin.firstCells]
    · simp [Builtin.append_, run_underlying hu, sizeOf, typeInfo, hi, Builtin.lenOf, Builtin.firstCells, hn, storeCells]
  · obtain ⟨v', w', hr, h2, h3, _, h5⟩ := run_append_own_at (P := Try.prog) w 0 41 ty 46 i (.agg #[.int .i64 0, .int .i64 0, .string ⟨#[]⟩]) 3 32 Try.underlying41 hi hz hsz hby rfl (by decide) v l.length (mCells l) hown ad l2.length c (mCells l2)
      (mCells_len l2) hcell (mCells_one l2) (by unfold maxLen; omega) (by omega) (Nat.zero_le _)
    refine ⟨v', w', hr, ?_, h3, h5⟩
    show w'.ownsRow 0 46 3 _ _ _
    rw [List.length_append, mCells_append]
    exact h2

theorem wp_app {w : World} {o : Oper} {a : Act} {K : Act → World → Prop} {Q : Exit → Act → World → Prop} (s x : Operand)
    (ho : o.op = .call { callee := .builtin .append, args := #[s, x], argTypes := #[41, 41] }) (v : Value) (l : List Msg) (hs : a.eval s = v) (hown : OwnR w v l) (xv : Value) (l2 : List Msg) (hx : a.eval x = xv)
    (hsrc : SrcR w xv l2) (hlen : l.length + l2.length ≤ 1000)
    (h : ∀ v' w', OwnR w' v' (l ++ l2) → w.grownBy w' v.ownBlock → (v'.ownBlock = v.ownBlock ∨ v'.ownBlock = some w.heap.size) → K (a.put o.dst v') w') : o.wp Try.prog a w K Q := by
  obtain ⟨v', w', hr, h2, h3, h4⟩ := run_app o.type w v l hown xv l2 hsrc hlen
  unfold Oper.wp execOp
  simp only [ho, resolve, invoke, builtin, Sem.run_bind, Sem.run_pure, Result.andThen_ok, List.map_toArray, List.map_cons, List.map_nil, hs, hx, hr]
  exact h v' w' h2 h3 h4

theorem step_app {w : World} {ops : Array Oper} {o : Oper} {a : Act} {K : Act → World → Prop} {Q : Exit → Act → World → Prop} {E : Prop} (hgd : o.guard = none) (s x : Operand)
    (ho : o.op = .call { callee := .builtin .append, args := #[s, x], argTypes := #[41, 41] }) (v : Value) (l : List Msg) (hs : a.eval s = v) (hown : OwnR w v l) (xv : Value) (l2 : List Msg) (hx : a.eval x = xv)
    (hsrc : SrcR w xv l2) (hlen : l.length + l2.length ≤ 1000)
    (h : ∀ v' w', OwnR w' v' (l ++ l2) → w.grownBy w' v.ownBlock → (v'.ownBlock = v.ownBlock ∨ v'.ownBlock = some w.heap.size) → K (a.put o.dst v') w') :
    if Region.wanted o (yielded ops a.tmps) = true then Oper.wp Try.prog o a w K Q else E := by
  have hw : Region.wanted o (yielded ops a.tmps) = true := by simp [Region.wanted, hgd]
  rw [if_pos hw]
  exact wp_app s x ho v l hs hown xv l2 hx hsrc hlen h

theorem wpList_app {w : World} {ops : Array Oper} {rest : List Oper} {o : Oper} {a : Act} {Q : Exit → Act → World → Prop} (hgd : o.guard = none) (s x : Operand)
    (ho : o.op = .call { callee := .builtin .append, args := #[s, x], argTypes := #[41, 41] }) (v : Value) (l : List Msg) (hs : a.eval s = v) (hown : OwnR w v l) (xv : Value) (l2 : List Msg) (hx : a.eval x = xv)
    (hsrc : SrcR w xv l2) (hlen : l.length + l2.length ≤ 1000)
    (h : ∀ v' w', OwnR w' v' (l ++ l2) → w.grownBy w' v.ownBlock → (v'.ownBlock = v.ownBlock ∨ v'.ownBlock = some w.heap.size) → wpList Try.prog ops Q rest (a.put o.dst v') w') : wpList Try.prog ops Q (o :: rest) a w :=
  wpList_plain hgd fun _ hK => wp_app s x ho v l hs hown xv l2 hx hsrc hlen fun v' w' h2 h3 h4 => hK _ _ (h v' w' h2 h3 h4)

theorem src_own {w : World} {v : Value} {l : List Msg} (h : OwnR w v l) : SrcR w v l := by
  rcases own_reads h with ⟨rfl, h0⟩ | ⟨g, cap, rfl, _, _, _, hc⟩
  · exact Or.inl ⟨rfl, List.length_eq_zero_iff.1 h0⟩
  · refine Or.inr ⟨_, cap, rfl, fun j u hj => ?_⟩
    have hjl : j < l.length * 3 := by
      have := (List.getElem?_eq_some_iff.1 hj).1
      rw [mCells_len] at this
      exact this
    have e : (⟨g, 0, none⟩ : Addr).add j = ⟨g, j, none⟩ := by unfold Addr.add; split <;> simp_all
    rw [e, hc j hjl, hj]
theorem own_nil (w : World) : OwnR w (.slice none 0 0) [] := World.ownsRow_nil _ _ _ _
theorem own_formR {w : World} {v : Value} {l : List Msg} (h : OwnR w v l) : ∃ a n cap, v = .slice a n cap := by
  rcases own_reads h with ⟨rfl, _⟩ | ⟨g, cap, rfl, _⟩ <;> exact ⟨_, _, _, rfl⟩
theorem src_one (w : World) (m : Msg) (W : World) (hW : W = w.alloc (.cells #[.int .i64 m.f, .int .i64 m.t, .string m.d] 46)) : SrcR W (.slice (some ⟨w.heap.size, 0, none⟩) 1 1) [m] := by
  refine Or.inr ⟨_, 1, rfl, ?_⟩
  rw [hW]
  exact World.news_of_block (cs := #[.int .i64 m.f, .int .i64 m.t, .string m.d]) (t := 46) (fr := (0, 0)) (alloc_block w _)
end Go.Proofs.Ytanekdcmealoeaa
