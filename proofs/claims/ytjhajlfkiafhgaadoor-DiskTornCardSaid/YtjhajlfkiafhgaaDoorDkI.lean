/-
  Disk: List; a crash, plain.
-/
import Derived.Test.YtjhajlfkiafhgaaDoorDkH
import Derived.Test.YtjhajlfkiafhgaaDoorHb
namespace Go.Proofs.YtjhajlfkiafhgaaDoor
open Go.RowKit
variable {F G : Nat → Prop} {w w' : World} {db mb : Nat} {D D' : Dk}

set_option maxRecDepth 100000 in
theorem list_any (h : DkAt F w db mb D) (hon : D.on = true) (p : ByteArray) : Calls Tryd.prog 23 #[.pointer (some ⟨db, 0, none⟩), .string p] w fun e w' => NamesE w (D.list p) e w' ∧ Below w.heap.size w w' := by
  have hD : D.list p = D.names.filter (fun s => p.data.toList.isPrefixOf s.data.toList) := by unfold Dk.list; rw [hon]; rfl
  have c0 := h.c0
  have c1 := h.c1
  rw [hon] at c1
  have hlt := h.ltd
  have H := Lib.hid (And.intro h hD)
  have hmf : ∀ (fn : Fn) (first cap : Array Value) (w : World), (Instr.makeFunc fn first cap).run Tryd.prog w = .ok (.func fn first cap) w := fun _ _ _ _ => rfl
  clear h hD hon
  go_enter Tryd.func23, Tryd.ntmps23
  obtain ⟨W1, hW1⟩ : ∃ W1, w.alloc (.cells #[.string p] 9) = W1 := ⟨_, rfl⟩
  have b1 : Below w.heap.size w W1 := by rw [← hW1]; exact (Below.refl _ _).alloc (Nat.le_refl _) _
  have d1 : W1.cell? ⟨w.heap.size, 0, none⟩ = some (.string p) := by rw [← hW1]; simp [go_sem]
  have z1 : W1.heap.size = w.heap.size + 1 := by rw [← hW1]; simp
  have k0 := (b1.cell (p := ⟨db, 0, none⟩) hlt).trans c0
  have k1 := (b1.cell (p := ⟨db, 1, none⟩) hlt).trans c1
  have H1 := Lib.hid (And.intro b1 (And.intro d1 z1))
  clear b1 d1 z1
  go_wp2_with (first
    | (go_at_call 26; refine (on_any k1).mono ?_; rintro e w' ⟨rfl, rfl⟩)
    | (go_at_call 37; refine (keys_any (some mb) _).mono ?_; rintro e w' ⟨rfl, rfl⟩))
  have h2 : DkAt F (W1.alloc (.cells #[.map (some mb)] 44)) db mb D := (H.out.1.below H1.out.1).below ((Below.refl _ _).alloc (Nat.le_refl _) _)
  refine (sorted_any h2.m h2.ok.nam h2.ok.few (Bm := W1.heap.size) (by simp [go_sem])).mono ?_
  rintro e w3 ⟨⟨v, rfl, hown⟩, hb3⟩
  have hbx : Below W1.heap.size W1 w3 := ((Below.refl _ _).alloc (Nat.le_refl _) _).trans (hb3.mono (by simp))
  have hcell : w3.cell? ⟨w.heap.size, 0, none⟩ = some (.string p) := (hbx.cell (p := ⟨w.heap.size, 0, none⟩) (by rw [H1.out.2.2]; simp)).trans H1.out.2.1
  obtain ⟨av, cv, hv, -, -⟩ := row_form hown
  have hown2 : Own eStr w3 (w.heap.size + 1) v (sortB (D.m.map (·.1))) := row_mono hown (by have := H1.out.2.2; simp; omega)
  have H3 := Lib.hid (And.intro hown2 (And.intro hcell hbx))
  have hlen : (sortB (D.m.map (·.1))).length ≤ 20000 := by rw [(sortB_perm _).length_eq, List.length_map]; exact h2.ok.few
  have HL := Lib.hid hlen
  subst hv
  clear h2 hown hb3 hbx hcell hown2 hlen
  go_wp2_with fail
  refine (delete_any p H3.out.1 HL.out (b := w.heap.size) (by omega) H3.out.2.1 (by have := H3.out.2.2.size; have := H1.out.2.2; omega)).mono ?_
  rintro e w4 ⟨⟨v', rfl, hown4⟩, hb4⟩
  obtain ⟨fl, hfl⟩ : ∃ fl, (sortB (D.m.map (·.1))).filter (fun s => p.data.toList.isPrefixOf s.data.toList) = fl := ⟨_, rfl⟩
  rw [hfl] at hown4
  have HFL := Lib.hid hfl
  have H4 := Lib.hid (And.intro hown4 hb4)
  clear hfl
  obtain ⟨av4, cv4, hv4, -, -⟩ := row_form hown4
  subst hv4
  clear hown4 hb4
  go_wp2_with fail
  go_ret
  refine ⟨⟨_, rfl, ?_⟩, (H1.out.1.trans (H3.out.2.2.mono H1.out.1.size)).trans (H4.out.2.mono (Nat.le_succ w.heap.size))⟩
  have e9 : D.list p = fl := H.out.2.trans HFL.out
  rw [e9]
  exact row_mono H4.out.1 (Nat.le_succ w.heap.size)

/-! ### A crash, plain. -/
theorem crashL_keys {cuts : List Int} {flip : Int} : ∀ (l : List ByteArray) (i : Nat) (m : Fm), (crashL cuts flip l i m).map (·.1) = m.map (·.1)
  | [], _, _ => rfl
  | a :: l, i, m => by
    unfold crashL
    cases hg : getL m a with
    | none => exact crashL_keys l (i + 1) m
    | some f =>
      simp only
      rw [crashL_keys l (i + 1)]
      unfold setL
      have hany : m.any (fun p => decide (p.1 = a)) = true := List.any_eq_true.2 ⟨_, getL_mem hg, by simp⟩
      rw [hany, if_pos rfl, List.map_map]
      refine List.map_congr_left (fun p _ => ?_)
      simp only [Function.comp]
      split
      · rename_i h; exact h.symm
      · rfl
theorem crashL_app {cuts : List Int} {flip : Int} : ∀ (l : List ByteArray) (a : ByteArray) (i : Nat) (m : Fm), crashL cuts flip (l ++ [a]) i m = (match getL (crashL cuts flip l i m) a with | some f => setL (crashL cuts flip l i m) a (cutF f (cutAt cuts (i + l.length)) flip) | none => crashL cuts flip l i m)
  | [], a, i, m => by
    simp only [List.nil_append, crashL, List.length_nil, Nat.add_zero]
    cases getL m a <;> rfl
  | b :: l, a, i, m => by
    simp only [List.cons_append, crashL, List.length_cons]
    have h := fun m => crashL_app (cuts := cuts) (flip := flip) l a (i + 1) m
    cases getL m b with
    | none => simp only; rw [h, show i + 1 + l.length = i + (l.length + 1) by omega]
    | some f => simp only; rw [h, show i + 1 + l.length = i + (l.length + 1) by omega]
theorem getL_some {m : Fm} {a : ByteArray} (h : a ∈ m.map (·.1)) : ∃ f, getL m a = some f := by
  obtain ⟨p, hp, rfl⟩ := List.mem_map.1 h
  unfold getL
  cases hf : m.find? (fun q => decide (q.1 = p.1)) with
  | none => exact absurd (by simp : decide (p.1 = p.1) = true) (by simpa using List.find?_eq_none.1 hf p hp)
  | some q => exact ⟨q.2, rfl⟩
end Go.Proofs.YtjhajlfkiafhgaaDoor
