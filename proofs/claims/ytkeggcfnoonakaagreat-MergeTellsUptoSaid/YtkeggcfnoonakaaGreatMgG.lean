
/-
  Merge: Group.
-/
import Derived.Test.YtkeggcfnoonakaaGreatMgF
import Derived.Test.YtkeggcfnoonakaaGreatBk
import Derived.Test.YtkeggcfnoonakaaGreatHold
set_option linter.unusedSimpArgs false
set_option linter.unusedVariables false
namespace Go.Proofs.YtkeggcfnoonakaaGreat
open Go.RowKit

/-! ### Plain. -/
def keyLast (g : List KV) : ByteArray := match g.getLast? with
  | none => ByteArray.empty
  | some q => q.1
def addG (hd : ByteArray → ByteArray) (G : List (List KV)) (p : KV) : List (List KV) := match G.getLast? with
  | none => [[p]]
  | some g => if hd (keyLast g) = hd p.1 then G.dropLast ++ [g ++ [p]] else G ++ [[p]]
def grp (hd : ByteArray → ByteArray) (l : List KV) : List (List KV) := l.foldl (addG hd) []
variable {hd : ByteArray → ByteArray}
theorem grp_snoc (l : List KV) (p : KV) : grp hd (l ++ [p]) = addG hd (grp hd l) p := by unfold grp; rw [List.foldl_append]; rfl
theorem addG_last (G : List (List KV)) (g : List KV) (q p : KV) : addG hd (G ++ [g ++ [q]]) p = if hd q.1 = hd p.1 then G ++ [g ++ [q] ++ [p]] else G ++ [g ++ [q]] ++ [[p]] := by
  unfold addG
  rw [List.getLast?_eq_some_iff.2 ⟨G, rfl⟩]
  have e : keyLast (g ++ [q]) = q.1 := by unfold keyLast; rw [List.getLast?_eq_some_iff.2 ⟨g, rfl⟩]
  simp only [e, List.dropLast_concat]
theorem grp_last (l : List KV) (q : KV) : ∃ G g, grp hd (l ++ [q]) = G ++ [g ++ [q]] := by
  rw [grp_snoc]
  unfold addG
  split
  · exact ⟨[], [], rfl⟩
  · rename_i g hg
    split
    · exact ⟨_, g, rfl⟩
    · exact ⟨_, [], rfl⟩

theorem snoc_ind {α : Type} {P : List α → Prop} (h0 : P []) (h1 : ∀ l x, P l → P (l ++ [x])) (l : List α) : P l := by
  have : ∀ n (l : List α), l.length = n → P l := by
    intro n
    induction n with
    | zero => intro l hl; rw [List.eq_nil_of_length_eq_zero hl]; exact h0
    | succ n ih =>
      intro l hl
      rcases List.eq_nil_or_concat l with h | ⟨x, y, h⟩
      · rw [h] at hl; simp at hl
      · rw [h, List.concat_eq_append]
        refine h1 _ _ (ih x ?_)
        rw [h, List.concat_eq_append] at hl
        simp at hl
        omega
  exact this _ l rfl
theorem addG_flat (G : List (List KV)) (p : KV) : (addG hd G p).flatten = G.flatten ++ [p] := by
  unfold addG
  split
  · rename_i h
    rw [List.getLast?_eq_none_iff.1 h]
    rfl
  · rename_i g h
    obtain ⟨X, rfl⟩ := List.getLast?_eq_some_iff.1 h
    split
    · rw [List.dropLast_concat]
      simp
    · simp
theorem grp_flat (l : List KV) : (grp hd l).flatten = l := by
  refine snoc_ind (P := fun l => (grp hd l).flatten = l) ?_ (fun l p ih => ?_) l
  · rfl
  · rw [grp_snoc, addG_flat, ih]
theorem addG_ne {G : List (List KV)} {p : KV} (h : ∀ g ∈ G, g ≠ []) : ∀ g ∈ addG hd G p, g ≠ [] := by
  unfold addG
  split
  · intro g hg
    rw [List.mem_singleton] at hg
    rw [hg]; simp
  · rename_i y hy
    obtain ⟨X, rfl⟩ := List.getLast?_eq_some_iff.1 hy
    split
    · rw [List.dropLast_concat]
      intro g hg
      rcases List.mem_append.1 hg with hg | hg
      · exact h g (List.mem_append_left _ hg)
      · rw [List.mem_singleton] at hg
        rw [hg]; simp
    · intro g hg
      rcases List.mem_append.1 hg with hg | hg
      · exact h g hg
      · rw [List.mem_singleton] at hg
        rw [hg]; simp
theorem grp_ne (l : List KV) : ∀ g ∈ grp hd l, g ≠ [] := by
  refine snoc_ind (P := fun l => ∀ g ∈ grp hd l, g ≠ []) ?_ (fun l p ih => ?_) l
  · intro g hg
    simp [grp] at hg
  · rw [grp_snoc]
    exact addG_ne ih
theorem len_flat {G : List (List KV)} {g : List KV} (h : g ∈ G) : g.length ≤ G.flatten.length := by
  rw [List.length_flatten]
  exact len_le_sum h
/-! ### Slices of lists. -/
theorem eSl : Elm Tryz.prog 22 23 1 24 sCell where
  und := Tryz.underlying22
  info := by
    have h : (Tryz.prog.info? 23).map (fun i => (i.zero, i.size, i.bytes)) = some (some (.slice none 0 0), 1, 24) := by kernel_rfl
    obtain ⟨i, hi, h1, h2, h3⟩ := info_parts h
    exact ⟨i, _, hi, h1, h2, h3, rfl⟩
  pos := by decide
  few := by decide
  len := fun _ => rfl
  one := sCell_one
section
variable {P : Program} {T E TS : TypeId} {k by_ : Nat} {α : Type} {cell : α → List Value} {e : Elm P T E k by_ cell} {eS : Elm P TS T 1 24 sCell} {w w2 : World} {B g cap : Nat}
/-- A slice of one element, in a block of its own. -/
theorem own_new (e : Elm P T E k by_ cell) (w : World) (x : α) (cs : Array Value) (hc : cell x = cs.toList) (hB : B ≤ w.heap.size) : Own e (w.alloc (.cells cs E)) B (.slice (some ⟨w.heap.size, 0, none⟩) 1 1) [x] := by
  have hk := e.len x
  rw [hc] at hk
  refine ⟨by simp [e.len], .inr ⟨w.heap.size, 1, cs, rfl, hB, by show (w.heap.push (.cells cs E))[w.heap.size]? = some (.cells cs E); simp, Nat.le_refl _, by unfold maxLen; omega, by simpa using hk, ?_⟩⟩
  simp only [List.flatMap_cons, List.flatMap_nil, List.append_nil, List.length_cons, List.length_nil]
  rw [hc]
  exact List.take_of_length_le (by omega)
/-- The last list has grown, and its slice is laid anew. -/
theorem Lst.regrow {S : List (Sl × List α)} {s s' : Sl} {l l2 : List α} (h : Lst e eS w B (.slice (some ⟨g, 0, none⟩) (S.length + 1) cap) (S ++ [(s, l)])) (hap : Appd e w w2 B s.val s'.val l l2) :
    Lst e eS (w2.setCell ⟨g, S.length, none⟩ s'.val) B (.slice (some ⟨g, 0, none⟩) (S.length + 1) cap) (S ++ [(s', l ++ l2)]) := by
  have hlast : (S ++ [(s, l)])[S.length]'(by simp) = (s, l) := by simp
  have hsl : S.length < (S ++ [(s, l)]).length := by simp
  have hgl : g < w.heap.size := (h.outer.lt g rfl).2
  have hgB : B ≤ g := (h.outer.lt g rfl).1
  have hsg : s.val.ownBlock ≠ some g := by
    have := h.sepO S.length hsl g rfl
    rw [hlast] at this
    exact this
  have hs'g : s'.val.ownBlock ≠ some g := by
    rcases hap.block with hb | hb
    · rw [hb]; exact hsg
    · intro e2; have := hb g e2; omega
  have ht : Tn (fun q => q = g) w2 (w2.setCell ⟨g, S.length, none⟩ s'.val) := Tn.setCell (F := fun q => q = g) w2 ⟨g, S.length, none⟩ _ rfl
  have hget : ∀ i (hi : i < (S ++ [(s', l ++ l2)]).length) (h1 : i < S.length), (S ++ [(s', l ++ l2)])[i] = S[i] := fun i hi h1 => List.getElem_append_left h1
  have hget0 : ∀ i (hi : i < (S ++ [(s, l)]).length) (h1 : i < S.length), (S ++ [(s, l)])[i] = S[i] := fun i hi h1 => List.getElem_append_left h1
  have hlast' : (S ++ [(s', l ++ l2)])[S.length]'(by simp) = (s', l ++ l2) := by simp
  have hii : ∀ i, i < (S ++ [(s', l ++ l2)]).length → i < S.length ∨ i = S.length := fun i hi => by simp at hi; omega
  have hsep : ∀ i (h1 : i < S.length) q, s.val.ownBlock = some q → S[i].1.val.ownBlock ≠ some q := fun i h1 q hq => by
    have := h.sepE S.length i hsl (by simp; omega) (by omega) q (by rw [hlast]; exact hq)
    rw [hget0 i _ h1] at this
    exact this
  have hsepO : ∀ i (h1 : i < S.length), S[i].1.val.ownBlock ≠ some g := fun i h1 => by
    have := h.sepO i (by simp; omega) g rfl
    rw [hget0 i _ h1] at this
    exact this
  refine ⟨?_, fun i hi => ?_, fun i hi q hq => ?_, fun i j hi hj hij q hq => ?_⟩
  · have h1 : Own eS w2 B (.slice (some ⟨g, 0, none⟩) (S.length + 1) cap) ((S ++ [(s, l)]).map (·.1)) := hap.tn.row h.outer (fun q hq e2 => hsg (by
      have e3 : some g = some q := hq
      rw [e3]; exact e2))
    have hlen : ((S ++ [(s, l)]).map (·.1)).length = S.length + 1 := by simp
    have h2 : w2.ownsRow B T 1 (.slice (some ⟨g, 0, none⟩) (S.length + 1) cap) (S.length + 1) (((S ++ [(s, l)]).map (·.1)).flatMap sCell) := by
      have := h1
      unfold Own at this
      rw [hlen] at this
      exact this
    have h3 := (h2.stored S.length s'.val).1
    show World.ownsRow _ _ _ _ _ _ _
    have hlen' : ((S ++ [(s', l ++ l2)]).map (·.1)).length = S.length + 1 := by simp
    rw [hlen']
    have hset : (((S ++ [(s, l)]).map (·.1)).flatMap sCell).set S.length s'.val = ((S ++ [(s', l ++ l2)]).map (·.1)).flatMap sCell := by
      rw [List.map_append, List.map_append, List.flatMap_append, List.flatMap_append]
      have hl1 : ((S.map (·.1)).flatMap sCell).length = S.length := by
        have := eS.lens (S.map (·.1))
        rw [List.length_map, Nat.mul_one] at this
        exact this
      rw [List.set_append_right _ _ (by omega), hl1, Nat.sub_self]
      rfl
    rw [hset] at h3
    exact h3
  · rcases hii i hi with h1 | rfl
    · rw [hget i hi h1]
      have h2 := h.each i (by simp; omega)
      rw [hget0 i _ h1] at h2
      have h3 : Own e w2 B S[i].1.val S[i].2 := hap.tn.row h2 (fun q hq e2 => hsep i h1 q e2 hq)
      exact ht.row h3 (fun q hq e2 => hsepO i h1 (by rw [hq, e2]))
    · rw [hlast']
      exact ht.row hap.own (fun q hq e2 => hs'g (by rw [hq, e2]))
  · have e3 : some g = some q := hq
    injection e3 with e3
    subst e3
    rcases hii i hi with h1 | rfl
    · rw [hget i hi h1]; exact hsepO i h1
    · rw [hlast']; exact hs'g
  · have hfr : ∀ i (h1 : i < S.length) q, s'.val.ownBlock = some q → S[i].1.val.ownBlock ≠ some q := fun i h1 q hq e2 => by
      rcases hap.block with hb | hb
      · rw [hb] at hq; exact hsep i h1 q hq e2
      · have h2 := h.each i (by simp; omega)
        rw [hget0 i _ h1] at h2
        have := (h2.lt q e2).2
        have := hb q hq
        omega
    rcases hii i hi with h1 | rfl <;> rcases hii j hj with h2 | rfl
    · rw [hget i hi h1] at hq
      rw [hget j hj h2]
      have := h.sepE i j (by simp; omega) (by simp; omega) hij q (by rw [hget0 i _ h1]; exact hq)
      rw [hget0 j _ h2] at this
      exact this
    · rw [hget i hi h1] at hq
      rw [hlast']
      exact fun e2 => hfr i h1 q e2 hq
    · rw [hlast'] at hq
      rw [hget j hj h2]
      exact hfr j h2 q hq
    · exact absurd rfl hij
end
end Go.Proofs.YtkeggcfnoonakaaGreat
