/-
  Disk: the names that begin with something, in order.
-/
import Derived.Test.YtjhajlfkiafhgaaDoorDkG
namespace Go.Proofs.YtjhajlfkiafhgaaDoor
open Go.RowKit Go.Maps Go.Sort Go.Shelf
variable {F G : Nat → Prop} {w w' : World} {db mb : Nat} {D D' : Dk}

theorem ins_nil (fv : Value) (w : World) : Calls Tryd.prog 62 #[.slice none 0 0, .int .i64 0, .int .i64 0, fv] w fun e w' => e = .returned (.tuple #[]) ∧ w = w' := by
  go_enter Tryd.func62, Tryd.ntmps62
  go_wp2
  refine wp_loop_rounds 1 ?_
  rw [rounds_succ]
  go_wp2
  go_end0
  exact ⟨rfl, rfl⟩
set_option maxRecDepth 100000 in
theorem pdq_nil (fv : Value) (l : Int) (w : World) : Calls Tryd.prog 58 #[.slice none 0 0, .int .i64 0, .int .i64 0, .int .i64 l, fv] w fun e w' => e = .returned (.tuple #[]) ∧ w = w' := by
  go_enter Tryd.func58, Tryd.ntmps58
  go_wp2
  refine wp_loop_rounds 1 ?_
  rw [rounds_succ]
  go_wp2_with (go_at_call 62; refine (ins_nil _ _).mono ?_; rintro e w' ⟨rfl, rfl⟩)
  (try simp only [Exit.inBlock, Exit.then]); refine bodyPost_ret (results_none rfl _ _ _) rfl ?_
  exact ⟨rfl, rfl⟩
theorem sort_nil (fv : Value) (w : World) : Calls Tryd.prog 48 #[.slice none 0 0, fv] w fun e w' => e = .returned (.tuple #[]) ∧ w = w' := by
  have hl := fun W => Tryd.bits_Len 0 W (by omega) (by omega)
  go_enter Tryd.func48, Tryd.ntmps48
  go_wp2_with (first
    | (go_at_call 59; refine (hl _).mono ?_; rintro e w' ⟨rfl, rfl⟩)
    | (go_at_call 58; refine (pdq_nil _ _ _).mono ?_; rintro e w' ⟨rfl, rfl⟩))
  go_end0
  exact ⟨rfl, rfl⟩

/-- The value of a slice of the call's own that holds texts. -/
def NamesE (w : World) (l : List ByteArray) (e : Ending) (w' : World) : Prop := ∃ v, e = .returned v ∧ Own eStr w' w.heap.size v l
set_option maxRecDepth 100000 in
theorem sorted_any {m : Fm} {Bm : Nat} (h : MapL ckN cvF w mb m) (hn : ∀ p ∈ m, p.1.size ≤ 64) (hl : m.length ≤ 20000) (hB : w.cell? ⟨Bm, 0, none⟩ = some (.map (some mb))) :
    Calls Tryd.prog 36 #[.func (.func 49) #[] #[.pointer (some ⟨Bm, 0, none⟩)], .func (.func 38) #[] #[]] w fun e w' =>
      NamesE w (sortB (m.map (·.1))) e w' ∧ Below w.heap.size w w' := by
  have hc := collect_any h hn hl hB
  have HL := Lib.hid hl
  clear h hn hl hB
  go_enter Tryd.func36, Tryd.ntmps36
  go_wp2_with fail
  refine hc.mono ?_
  rintro e w1 ⟨v, ss, rfl, hp, hrow, hnil, hb⟩
  have hlen : ss.length = m.length := by rw [hp.length_eq, List.length_map, List.length_map]
  have hpB : (ss.map toB).Perm (m.map (·.1)) := by
    have := hp.map toB
    rw [List.map_map] at this
    have e : (toB ∘ fun s : ByteArray => s.data.toList) = id := by funext s; exact Lib.mk_data s
    rw [e, List.map_id] at this
    exact this
  have HP := Lib.hid (And.intro hpB (And.intro hlen (And.intro hrow hb)))
  obtain ⟨av, cv, hv, -, -⟩ := row_form hrow
  by_cases hs0 : ss = []
  · have hv0 := hnil.2 hs0
    subst hs0
    subst hv0
    clear hp hrow hnil hb hlen hpB hv hc
    go_wp2_with (go_at_call 48; refine (sort_nil _ _).mono ?_; rintro e w' ⟨rfl, rfl⟩)
    go_ret
    refine ⟨⟨_, rfl, ?_⟩, HP.out.2.2.2⟩
    have hm0 : m.map (·.1) = [] := List.Perm.nil_eq HP.out.1 |>.symm
    rw [hm0]
    exact World.ownsRow_nil _ _ _ _
  · subst hv
    have hpos : 0 < ss.length := List.length_pos_iff.2 hs0
    obtain ⟨g, cap, hv⟩ : ∃ g cap, Value.slice av ss.length cv = .slice (some ⟨g, 0, none⟩) ss.length cap := by
      rcases hrow.2 with ⟨_, h0⟩ | ⟨g, cap, cur, h, _⟩
      · omega
      · exact ⟨g, cap, h⟩
    obtain ⟨rfl, -, rfl⟩ := Value.slice.inj hv
    have hsz : ss.length ≤ 20000 := by rw [hlen]; exact HL.out
    have hsrt := sort_any hrow hsz
    have hbase := (hrow.lt g rfl).1
    obtain ⟨sl, hsl⟩ : ∃ sl, ss.length = sl := ⟨_, rfl⟩
    have HSL := Lib.hid hsl
    rw [hsl] at hsrt ⊢
    clear hp hrow hnil hb hlen hpB hv hc hpos hsz hsl
    go_wp2_with fail
    refine hsrt.mono ?_
    rintro e w2 ⟨rfl, ts, hts, hsb, hown, hgr⟩
    have hfin := ownStr hown
    have htl : ts.length = sl := hts.length_eq.trans HSL.out
    have hX : sortB (ss.map toB) = sortB (m.map (·.1)) := sorted_unique ((sortB_perm _).trans (HP.out.1.trans (sortB_perm _).symm)) (sortB_sorted _) (sortB_sorted _)
    rw [hsb, hX, htl] at hfin
    have HF := Lib.hid (And.intro hfin (HP.out.2.2.2.grown hgr HP.out.2.2.2.size (fun j hj => by cases hj; exact hbase)))
    clear hts hsb hown hgr hfin htl hX hsrt
    go_wp2_with fail
    go_ret
    exact ⟨⟨_, rfl, HF.out.1⟩, HF.out.2⟩

/-- Does a text not begin so? -/
def notP (p : ByteArray) (s : List UInt8) : Bool := !p.data.toList.isPrefixOf s
theorem list1_any (p : ByteArray) (s : List UInt8) {b : Nat} {w : World} (h : w.cell? ⟨b, 0, none⟩ = some (.string p)) : FnGives Tryd.prog 40 #[.pointer (some ⟨b, 0, none⟩)] #[encStr s] (.bool (notP p s)) w := by
  show Calls Tryd.prog 40 #[.string (toB s), .pointer (some ⟨b, 0, none⟩)] w _
  have hp := Tryd.strings_HasPrefix (toB s) p
  obtain ⟨q, hq⟩ : ∃ q, Lib.hasPrefix (toB s).data.toList p.data.toList = q := ⟨_, rfl⟩
  have hq2 : notP p s = !q := by rw [← hq]; rfl
  rw [hq2]
  simp only [hq] at hp
  clear hq hq2
  go_enter Tryd.func40, Tryd.ntmps40
  go_wp2_with (go_at_call 41; refine (hp _).mono ?_; rintro e w' ⟨rfl, rfl⟩)
  go_ret
  exact ⟨rfl, 0, rfl⟩
theorem del_nil (fv : Value) (w : World) : Calls Tryd.prog 39 #[.slice none 0 0, fv] w fun e w' => e = .returned (.slice none 0 0) ∧ w = w' := by
  have hi := fun W => AnyE.slices_IndexFunc_empty (P := Tryd.prog) (ρ := Tryd.gl_delete_ren) { Tryd.gl_delete with } none 0 fv W
  change ∀ W, Calls Tryd.prog 51 _ _ _ at hi
  go_enter Tryd.func39, Tryd.ntmps39
  go_wp2_with (go_at_call 51; refine (hi _).mono ?_; rintro e w' ⟨rfl, rfl⟩)
  go_ret
  exact ⟨rfl, rfl⟩
theorem delete_any {B b : Nat} {v : Value} {l : List ByteArray} (p : ByteArray) (h : Own eStr w B v l) (hl : l.length ≤ 20000) (hB : b < B) (hp : w.cell? ⟨b, 0, none⟩ = some (.string p)) (hBw : B ≤ w.heap.size) :
    Calls Tryd.prog 39 #[v, .func (.func 40) #[] #[.pointer (some ⟨b, 0, none⟩)]] w fun e w' =>
      (∃ v', e = .returned v' ∧ Own eStr w' B v' (l.filter (fun s => p.data.toList.isPrefixOf s.data.toList))) ∧ Below B w w' := by
  have h3 := ownStr' h
  obtain ⟨h1, h2⟩ := h3
  rcases h2 with ⟨rfl, h0⟩ | ⟨g, cap, cur, rfl, hg, hh, hn, hc, hcl, htk⟩
  · obtain rfl := List.eq_nil_of_length_eq_zero h0
    refine (del_nil _ w).mono ?_
    rintro e w' ⟨rfl, rfl⟩
    exact ⟨⟨_, rfl, World.ownsRow_nil _ _ _ _⟩, Below.refl _ _⟩
  · have hlt : g < w.heap.size := (Array.getElem?_eq_some_iff.1 hh).1
    have hrow := ownStr' h
    obtain ⟨ss, hss⟩ : ∃ ss, l.map (·.data.toList) = ss := ⟨_, rfl⟩
    rw [hss] at htk hrow
    have hsl : l.length = ss.length := by rw [← hss, List.length_map]
    have hH : Holds encStr w g 0 ss.toArray := fun j hj => by
      have hj' : j < ss.length := by simpa using hj
      refine ⟨?_, by simp [World.frozen?, hh]⟩
      have e : (cur.toList.take (l.length * 1))[j]? = (ss.map encStr)[j]? := by rw [htk]
      rw [List.getElem?_take, if_pos (by omega), Array.getElem?_toList, List.getElem?_map, List.getElem?_eq_getElem hj'] at e
      simp only [World.cell?, hh, Nat.zero_add, Option.isSome_none, Bool.false_eq_true, if_false]
      rw [e]
      simp [getElem!_pos, hj']
    have hbw : b < w.heap.size := Nat.lt_of_lt_of_le hB hBw
    have hpa : PredAt Tryd.prog 40 #[.pointer (some ⟨b, 0, none⟩)] encStr (notP p) w := fun W x hb => list1_any p x ((hb.cell (p := ⟨b, 0, none⟩) hbw).trans hp)
    have hpo : PredOver Tryd.prog 40 #[.pointer (some ⟨b, 0, none⟩)] encStr (notP p) g 0 ss.toArray.size w := fun n os dk x _ => list1_any p x (by
      unfold sortWorld
      rw [cell?_grow _ _ _ (by show b < (putRow _ _ _ _ _).heap.size; rw [size_putRow]; exact hbw), cell?_putRow_other _ _ g 0 _ _ (Or.inl (by omega : b ≠ g))]
      exact hp)
    have hcon := AnyE.slices_DeleteFunc Tryd.gl_delete encStr (fun _ => rfl) (notP p) 40 #[.pointer (some ⟨b, 0, none⟩)] (enters_of Tryd.func40 (by kernel_rfl) rfl) [] Tryd.zeroValue9 g 0 cap ss.toArray w hpa hpo hH (by simp; omega) (by simp; omega)
    rw [hsl]
    refine hcon.mono ?_
    rintro e w' ⟨rfl, q, rfl⟩
    have hf : ss.toArray.toList.filter (fun x => !notP p x) = ss.filter (fun s => p.data.toList.isPrefixOf s) := by
      simp [notP]
    rw [hf]
    have hfl : ss.filter (fun s => p.data.toList.isPrefixOf s) = (l.filter (fun s => p.data.toList.isPrefixOf s.data.toList)).map (·.data.toList) := by
      rw [← hss, List.filter_map]
      rfl
    refine ⟨⟨_, rfl, ?_⟩, Lib.below_putRow (Below.refl _ _) hg⟩
    have hle : (ss.filter (fun s => p.data.toList.isPrefixOf s)).length ≤ ss.length := List.length_filter_le _ _
    have ho := Lib.ownsRow_putRow (q := q) (k := (ss.filter (fun s => p.data.toList.isPrefixOf s)).length) (ys := ss.filter (fun s => p.data.toList.isPrefixOf s) ++ List.replicate (ss.toArray.size - (ss.filter (fun s => p.data.toList.isPrefixOf s)).length) []) hrow (by simp; omega) (by omega)
    rw [List.take_append_of_le_length (Nat.le_refl _), List.take_length] at ho
    have h9 := ownStr ho
    rw [hfl, List.map_map] at h9
    have e : (toB ∘ fun s : ByteArray => s.data.toList) = id := by funext s; exact Lib.mk_data s
    rw [e, List.map_id, ← hfl] at h9
    exact h9
end Go.Proofs.YtjhajlfkiafhgaaDoor
