/-
  The document's net: Cut.
-/
import Derived.Test.YtanekdcmealoeaaRefG
namespace Go.Proofs.Ytanekdcmealoeaa
open Go.RowKit Go.Maps

theorem cCells_one (l : List (Int × Int)) : ∀ u ∈ cCells l, u.oneCell' = true := by
  intro u hu
  simp only [cCells, List.mem_flatMap] at hu
  obtain ⟨m, _, hm⟩ := hu
  simp only [List.mem_cons, List.not_mem_nil, or_false] at hm
  rcases hm with rfl | rfl <;> rfl

theorem info60 : (Try.prog.info? 60).map (fun i => (i.zero, i.size, i.bytes)) = some (some (.agg #[.int .i64 0, .int .i64 0]), 2, 16) := by kernel_rfl

/-- A slice that is read: the messages l2. -/
def SrcC (w : World) (x : Value) (l2 : List (Int × Int)) : Prop :=
  (x = .slice none 0 0 ∧ l2 = []) ∨ ∃ ad c, x = .slice (some ad) l2.length c ∧ ∀ j u, (cCells l2)[j]? = some u → w.cell? (ad.add j) = some u

theorem run_appC (ty : TypeId) (w : World) (v : Value) (l : List (Int × Int)) (hown : OwnC w v l) (x : Value) (l2 : List (Int × Int)) (hx : SrcC w x l2) (hlen : l.length + l2.length ≤ 100000) :
    ∃ v' w', (Builtin.append_ #[42, 42] ty #[v, x]).run Try.prog w = .ok v' w' ∧ OwnC w' v' (l ++ l2) ∧ w.grownBy w' v.ownBlock ∧ (v'.ownBlock = v.ownBlock ∨ v'.ownBlock = some w.heap.size) := by
  obtain ⟨i, hi, hz, hsz, hby⟩ := info_parts info60
  rcases hx with ⟨rfl, rfl⟩ | ⟨ad, c, rfl, hcell⟩
  · refine ⟨v, w, ?_, by simpa using hown, ⟨rfl, rfl, rfl, Nat.le_refl _, fun _ _ _ => rfl⟩, Or.inl rfl⟩
    have hu := Try.underlying42
    rcases hown.2 with ⟨rfl, h0⟩ | ⟨g, cap, cur, rfl, hg, hh, hn, hcap, hs, htake⟩
    · simp [Builtin.append_, run_underlying hu, sizeOf, typeInfo, hi, Builtin.lenOf, Builtin.firstCells]
    · simp [Builtin.append_, run_underlying hu, sizeOf, typeInfo, hi, Builtin.lenOf, Builtin.firstCells, hn, storeCells]
  · obtain ⟨v', w', hr, h2, h3, _, h5⟩ := run_append_own_at (P := Try.prog) w 0 42 ty 60 i (.agg #[.int .i64 0, .int .i64 0]) 2 16 Try.underlying42 hi hz hsz hby rfl (by decide) v l.length (cCells l) hown ad l2.length c (cCells l2)
      (cCells_len l2) hcell (cCells_one l2) (by unfold maxLen; omega) (by omega) (Nat.zero_le _)
    refine ⟨v', w', hr, ?_, h3, h5⟩
    show w'.ownsRow 0 60 2 _ _ _
    rw [List.length_append, cCells_append]
    exact h2

theorem wp_appC {w : World} {o : Oper} {a : Act} {K : Act → World → Prop} {Q : Exit → Act → World → Prop} (s x : Operand)
    (ho : o.op = .call { callee := .builtin .append, args := #[s, x], argTypes := #[42, 42] }) (v : Value) (l : List (Int × Int)) (hs : a.eval s = v) (hown : OwnC w v l) (xv : Value) (l2 : List (Int × Int)) (hx : a.eval x = xv)
    (hsrc : SrcC w xv l2) (hlen : l.length + l2.length ≤ 100000)
    (h : ∀ v' w', OwnC w' v' (l ++ l2) → w.grownBy w' v.ownBlock → (v'.ownBlock = v.ownBlock ∨ v'.ownBlock = some w.heap.size) → K (a.put o.dst v') w') : o.wp Try.prog a w K Q := by
  obtain ⟨v', w', hr, h2, h3, h4⟩ := run_appC o.type w v l hown xv l2 hsrc hlen
  unfold Oper.wp execOp
  simp only [ho, resolve, invoke, builtin, Sem.run_bind, Sem.run_pure, Result.andThen_ok, List.map_toArray, List.map_cons, List.map_nil, hs, hx, hr]
  exact h v' w' h2 h3 h4

theorem step_appC {w : World} {ops : Array Oper} {o : Oper} {a : Act} {K : Act → World → Prop} {Q : Exit → Act → World → Prop} {E : Prop} (hgd : o.guard = none) (s x : Operand)
    (ho : o.op = .call { callee := .builtin .append, args := #[s, x], argTypes := #[42, 42] }) (v : Value) (l : List (Int × Int)) (hs : a.eval s = v) (hown : OwnC w v l) (xv : Value) (l2 : List (Int × Int)) (hx : a.eval x = xv)
    (hsrc : SrcC w xv l2) (hlen : l.length + l2.length ≤ 100000)
    (h : ∀ v' w', OwnC w' v' (l ++ l2) → w.grownBy w' v.ownBlock → (v'.ownBlock = v.ownBlock ∨ v'.ownBlock = some w.heap.size) → K (a.put o.dst v') w') :
    if Region.wanted o (yielded ops a.tmps) = true then Oper.wp Try.prog o a w K Q else E := by
  have hw : Region.wanted o (yielded ops a.tmps) = true := by simp [Region.wanted, hgd]
  rw [if_pos hw]
  exact wp_appC s x ho v l hs hown xv l2 hx hsrc hlen h

theorem wpList_appC {w : World} {ops : Array Oper} {rest : List Oper} {o : Oper} {a : Act} {Q : Exit → Act → World → Prop} (hgd : o.guard = none) (s x : Operand)
    (ho : o.op = .call { callee := .builtin .append, args := #[s, x], argTypes := #[42, 42] }) (v : Value) (l : List (Int × Int)) (hs : a.eval s = v) (hown : OwnC w v l) (xv : Value) (l2 : List (Int × Int)) (hx : a.eval x = xv)
    (hsrc : SrcC w xv l2) (hlen : l.length + l2.length ≤ 100000)
    (h : ∀ v' w', OwnC w' v' (l ++ l2) → w.grownBy w' v.ownBlock → (v'.ownBlock = v.ownBlock ∨ v'.ownBlock = some w.heap.size) → wpList Try.prog ops Q rest (a.put o.dst v') w') : wpList Try.prog ops Q (o :: rest) a w :=
  wpList_plain hgd fun _ hK => wp_appC s x ho v l hs hown xv l2 hx hsrc hlen fun v' w' h2 h3 h4 => hK _ _ (h v' w' h2 h3 h4)

theorem src_ownC {w : World} {v : Value} {l : List (Int × Int)} (h : OwnC w v l) : SrcC w v l := by
  rcases own_reads h with ⟨rfl, h0⟩ | ⟨g, cap, rfl, _, _, _, hc⟩
  · exact Or.inl ⟨rfl, List.length_eq_zero_iff.1 h0⟩
  · refine Or.inr ⟨_, cap, rfl, fun j u hj => ?_⟩
    have hjl : j < l.length * 2 := by
      have := (List.getElem?_eq_some_iff.1 hj).1
      rw [cCells_len] at this
      exact this
    have e : (⟨g, 0, none⟩ : Addr).add j = ⟨g, j, none⟩ := by unfold Addr.add; split <;> simp_all
    rw [e, hc j hjl, hj]
theorem own_nilC (w : World) : OwnC w (.slice none 0 0) [] := World.ownsRow_nil _ _ _ _
theorem own_formC {w : World} {v : Value} {l : List (Int × Int)} (h : OwnC w v l) : ∃ a n cap, v = .slice a n cap := by
  rcases own_reads h with ⟨rfl, _⟩ | ⟨g, cap, rfl, _⟩ <;> exact ⟨_, _, _, rfl⟩
theorem src_oneC (w : World) (m : Int × Int) (W : World) (hW : W = w.alloc (.cells #[.int .i64 m.1, .int .i64 m.2] 60)) : SrcC W (.slice (some ⟨w.heap.size, 0, none⟩) 1 1) [m] := by
  refine Or.inr ⟨_, 1, rfl, ?_⟩
  rw [hW]
  exact World.news_of_block (cs := #[.int .i64 m.1, .int .i64 m.2]) (t := 60) (fr := (0, 0)) (alloc_block w _)
end Go.Proofs.Ytanekdcmealoeaa
