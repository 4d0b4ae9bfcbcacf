import Derived.Test.YtceamkcaokdgaaaGreatDoorDm2
import Derived.Test.YtceamkcaokdgaaaGreatDoorDm7
import Derived.Test.YtceamkcaokdgaaaGreatDoorDm1
set_option linter.unusedSimpArgs false
set_option linter.unusedVariables false
/-
  The document: Compare, Begins, IsName, Sorted.
-/
namespace Go.Proofs.YtceamkcaokdgaaaGreatDoor
open Go.RowKit

theorem ret_i {k : IntKind} {a b : Int} (h : a = b) : Ending.returned (.int k a) = .returned (.int k b) := by rw [h]
theorem ret_b {a b : Bool} (h : a = b) : Ending.returned (.bool a) = .returned (.bool b) := by rw [h]
abbrev cmpB (a b : ByteArray) : Int := Lib.compareBytes a.data.toList b.data.toList
theorem cmp_drop (a b : ByteArray) (i : Nat) (ha : i < a.size) (hb : i < b.size) :
    Lib.compareBytes (a.data.toList.drop i) (b.data.toList.drop i) = if a[i] < b[i] then -1 else if b[i] < a[i] then 1 else Lib.compareBytes (a.data.toList.drop (i + 1)) (b.data.toList.drop (i + 1)) := by
  rw [List.drop_eq_getElem_cons (show i < a.data.toList.length by simpa using ha), List.drop_eq_getElem_cons (show i < b.data.toList.length by simpa using hb)]
  rfl

set_option maxRecDepth 100000 in
theorem refcompare_any (a b : ByteArray) (w : World) (ha : a.size ≤ 1000000) (hb : b.size ≤ 1000000) :
    Calls Tryz.prog 180 #[.string a, .string b] w fun e w' => e = .returned (.int .i64 (cmpB a b)) ∧ ∃ n, w' = w.drewN n := by
  unfold cmpB
  go_enter Tryz.func180, Tryz.ntmps180
  go_wp2
  go_loopw [5] (fun x wr => ∃ i : Nat, i ≤ a.size ∧ i ≤ b.size ∧ x = .int .i64 (i : Int) ∧ Lib.compareBytes (a.data.toList.drop i) (b.data.toList.drop i) = Lib.compareBytes a.data.toList b.data.toList ∧ ∃ n, wr = w.drewN n)
    (fun x _ => a.size - (intOf x).toNat)
  case atStart => exact ⟨0, by omega, by omega, rfl, by simp, 0, rfl⟩
  case round =>
    obtain ⟨i, hia, hib, rfl, hcmp, n0, rfl⟩ := hrel
    have HC := Lib.hid hcmp
    clear hcmp
    by_cases h1 : i < a.size
    · by_cases h2 : i < b.size
      · have HD := Lib.hid (cmp_drop a b i h1 h2)
        have e1 : (a[i] < b[i]) ↔ a[i].toNat < b[i].toNat := UInt8.lt_iff_toNat_lt
        have e2 : (b[i] < a[i]) ↔ b[i].toNat < a[i].toNat := UInt8.lt_iff_toNat_lt
        have HE1 := Lib.hid e1
        have HE2 := Lib.hid e2
        clear e1 e2
        by_cases c1 : a[i].toNat < b[i].toNat
        · have t1 : decide ((a[i].toNat : Int) < (b[i].toNat : Int)) = true := by simp; omega
          have t1n : decide (a[i].toNat < b[i].toNat) = true := by simp; omega
          have HA : Hid (Lib.compareBytes a.data.toList b.data.toList = -1) := by have := HD.out; rw [HC.out, if_pos (HE1.out.2 c1)] at this; exact this
          clear c1
          go_wp2
          go_quiet (fail)
          go_wp2
          go_ret
          exact ⟨ret_i HA.out.symm, (by first | exact ⟨_, rfl⟩ | exact ⟨_, World.drewN_drewN _ _ _⟩ | exact ⟨_, (World.drewN_drewN _ _ _).trans (World.drewN_drewN _ _ _)⟩)⟩
        · have t1 : decide ((a[i].toNat : Int) < (b[i].toNat : Int)) = false := by simp; omega
          have t1n : decide (a[i].toNat < b[i].toNat) = false := by simp; omega
          by_cases c2 : b[i].toNat < a[i].toNat
          · have t2 : decide ((b[i].toNat : Int) < (a[i].toNat : Int)) = true := by simp; omega
            have t2n : decide (b[i].toNat < a[i].toNat) = true := by simp; omega
            have HA : Hid (Lib.compareBytes a.data.toList b.data.toList = 1) := by have := HD.out; rw [HC.out, if_neg (fun h => c1 (HE1.out.1 h)), if_pos (HE2.out.2 c2)] at this; exact this
            clear c1 c2
            go_wp2
            go_quiet (fail)
            go_wp2
            go_quiet (fail)
            go_wp2
            go_ret
            exact ⟨ret_i HA.out.symm, (by first | exact ⟨_, rfl⟩ | exact ⟨_, World.drewN_drewN _ _ _⟩ | exact ⟨_, (World.drewN_drewN _ _ _).trans (World.drewN_drewN _ _ _)⟩)⟩
          · have t2 : decide ((b[i].toNat : Int) < (a[i].toNat : Int)) = false := by simp; omega
            have t2n : decide (b[i].toNat < a[i].toNat) = false := by simp; omega
            have HA : Hid (Lib.compareBytes (a.data.toList.drop (i + 1)) (b.data.toList.drop (i + 1)) = Lib.compareBytes a.data.toList b.data.toList) := by
              have := HD.out; rw [HC.out, if_neg (fun h => c1 (HE1.out.1 h)), if_neg (fun h => c2 (HE2.out.1 h))] at this; exact this.symm
            clear c1 c2
            go_wp2
            go_quiet (fail)
            go_wp2
            go_quiet (fail)
            go_wp2
            go_roundw
            case rel => exact ⟨i + 1, by omega, by omega, by go_num, HA.out, (by first | exact ⟨_, rfl⟩ | exact ⟨_, World.drewN_drewN _ _ _⟩ | exact ⟨_, (World.drewN_drewN _ _ _).trans (World.drewN_drewN _ _ _)⟩)⟩
            case measure => simp [intOf]; omega
      · obtain rfl : i = b.size := by omega
        have HA : Hid (Lib.compareBytes a.data.toList b.data.toList = 1) := by
          have := HC.out
          rw [List.drop_eq_nil_of_le (show b.data.toList.length ≤ b.size by simp), List.drop_eq_getElem_cons (show b.size < a.data.toList.length by simpa using h1)] at this
          exact this.symm
        go_wp2
        go_ret
        exact ⟨ret_i HA.out.symm, (by first | exact ⟨_, rfl⟩ | exact ⟨_, World.drewN_drewN _ _ _⟩ | exact ⟨_, (World.drewN_drewN _ _ _).trans (World.drewN_drewN _ _ _)⟩)⟩
    · obtain rfl : i = a.size := by omega
      by_cases h2 : a.size < b.size
      · have HA : Hid (Lib.compareBytes a.data.toList b.data.toList = -1) := by
          have := HC.out
          rw [List.drop_eq_nil_of_le (show a.data.toList.length ≤ a.size by simp), List.drop_eq_getElem_cons (show a.size < b.data.toList.length by simpa using h2)] at this
          exact this.symm
        go_wp2
        go_ret
        exact ⟨ret_i HA.out.symm, (by first | exact ⟨_, rfl⟩ | exact ⟨_, World.drewN_drewN _ _ _⟩ | exact ⟨_, (World.drewN_drewN _ _ _).trans (World.drewN_drewN _ _ _)⟩)⟩
      · have HA : Hid (Lib.compareBytes a.data.toList b.data.toList = 0) := by
          have := HC.out
          rw [List.drop_eq_nil_of_le (show a.data.toList.length ≤ a.size by simp), List.drop_eq_nil_of_le (show b.data.toList.length ≤ a.size by simp; omega)] at this
          exact this.symm
        go_wp2
        go_ret
        exact ⟨ret_i HA.out.symm, (by first | exact ⟨_, rfl⟩ | exact ⟨_, World.drewN_drewN _ _ _⟩ | exact ⟨_, (World.drewN_drewN _ _ _).trans (World.drewN_drewN _ _ _)⟩)⟩

theorem pre_take {s p : ByteArray} (h : p.size ≤ s.size) : p.data.toList.isPrefixOf s.data.toList = (s.data.toList.take p.size == p.data.toList) := by
  rw [Bool.eq_iff_iff, List.isPrefixOf_iff_prefix, beq_iff_eq, List.prefix_iff_eq_take, show p.data.toList.length = p.size by simp]
  exact ⟨fun h => h.symm, fun h => h.symm⟩
theorem pre_long {s p : ByteArray} (h : s.size < p.size) : p.data.toList.isPrefixOf s.data.toList = false := by
  rw [Bool.eq_false_iff]
  intro e
  have := (List.isPrefixOf_iff_prefix.1 e).length_le
  simp at this
  have h1 : p.data.size = p.size := rfl
  have h2 : s.data.size = s.size := rfl
  omega
theorem begins_any (s p : ByteArray) (w : World) : Calls Tryz.prog 163 #[.string s, .string p] w fun e w' => e = .returned (.bool (p.data.toList.isPrefixOf s.data.toList)) ∧ Below w.heap.size w w' := by
  by_cases h : p.size ≤ s.size
  · have hp := pre_take h
    obtain ⟨v, hv⟩ : ∃ v, p.data.toList.isPrefixOf s.data.toList = v := ⟨_, rfl⟩
    rw [hv] at hp ⊢
    have t0 : (p.size : Int) ≤ (s.size : Int) := by omega
    have t1 : ((s.extract 0 p.size).toList == p.toList) = v := by
      rw [hp, ByteArray.toList_eq, ByteArray.toList_eq, ByteArray.data_extract, Array.toList_extract, List.extract_eq_take_drop]
      simp
    clear hp hv
    go_enter Tryz.func163, Tryz.ntmps163
    go_wp2
    go_ret
    exact ⟨rfl, Below.refl _ _⟩
  · rw [pre_long (s := s) (p := p) (by omega)]
    have t0 : ¬ (p.size : Int) ≤ (s.size : Int) := by omega
    go_enter Tryz.func163, Tryz.ntmps163
    go_wp2
    go_ret
    exact ⟨rfl, Below.refl _ _⟩
end Go.Proofs.YtceamkcaokdgaaaGreatDoor
/-
  The document: Sorted.
-/
namespace Go.Proofs.YtceamkcaokdgaaaGreatDoor
open Go.RowKit

/-- Texts that can be read; a nil slice, or one in a block. -/
def SrX (w : World) (v : Value) (l : List ByteArray) : Prop := (v = .slice none 0 0 ∧ l = []) ∨ ∃ b off c, v = .slice (some ⟨b, off, none⟩) l.length c ∧ b < w.heap.size ∧ l.length ≤ c ∧ c ≤ 9223372036854775807 ∧ ∀ i (hi : i < l.length), w.cell? ⟨b, off + i, none⟩ = some (.string l[i])
theorem SrX.src {w : World} {v : Value} {l : List ByteArray} (h : SrX w v l) : Src kTexts w v l := by
  refine h.imp id ?_
  rintro ⟨b, off, c, hv, _, _, _, hc⟩
  refine ⟨⟨b, off, none⟩, c, hv, fun j u hj => ?_⟩
  have hjl : j < l.length := by have := (List.getElem?_eq_some_iff.1 hj).1; rw [kTexts.lens] at this; omega
  have h4 := kTexts.get l j 0 hjl (by omega)
  rw [Nat.mul_one, Nat.add_zero] at h4
  rw [add_off, hc j hjl, ← hj, h4]
  rfl
theorem SrX.rd {w : World} {v : Value} {l : List ByteArray} (h : SrX w v l) : RdTx w v l := by
  rcases h with ⟨rfl, rfl⟩ | ⟨b, off, c, rfl, hb, _, _, hc⟩
  · exact ⟨none, 0, rfl, .inl rfl⟩
  · exact ⟨_, c, rfl, .inr ⟨b, off, rfl, hb, hc⟩⟩
theorem SrX.of {w : World} {B : Nat} {v : Value} {l : List ByteArray} (h : Own kTexts w B v l) : SrX w v l := by
  obtain ⟨_, _, hv, hle, hcp⟩ := row_form h
  obtain ⟨a, c, e, hr⟩ := rdTx_own h
  rw [e] at hv
  injection hv with e1 e2 e3
  subst e1 e3
  have h2 := h.2
  rcases h2 with ⟨h2, h3⟩ | ⟨g, cap', cur, h2, hg, hh, _⟩
  · exact .inl ⟨h2, List.eq_nil_of_length_eq_zero h3⟩
  · rw [e] at h2
    injection h2 with e1 e2 e3
    subst e1 e3
    subst e
    refine .inr ⟨g, 0, c, rfl, (Array.getElem?_eq_some_iff.1 hh).1, hle, hcp, ?_⟩
    rcases hr with rfl | ⟨b, off, e, _, hc⟩
    · intro i hi; simp at hi
    · injection e with e
      injection e with e1 e2
      subst e1 e2
      exact hc
theorem SrX.below {w w' : World} {v : Value} {l : List ByteArray} (h : SrX w v l) (hb : Below w.heap.size w w') : SrX w' v l := by
  refine h.imp id ?_
  rintro ⟨b, off, c, hv, hlt, h1, h2, hc⟩
  exact ⟨b, off, c, hv, Nat.lt_of_lt_of_le hlt hb.size, h1, h2, fun i hi => (hb.cell (p := ⟨b, off + i, none⟩) hlt).trans (hc i hi)⟩

theorem sortB_one {l : List ByteArray} (h : l.length < 2) : sortB l = l := by
  match l, h with
  | [], _ => rfl
  | [a], _ => rfl
set_option maxRecDepth 100000 in
theorem sorted_small (l : List ByteArray) (h : l.length < 2) (w : World) (v : Value) (hv : SrX w v l) :
    Calls Tryz.prog 164 #[v] w fun e w' => ∃ a c, e = .returned (.slice a l.length c) ∧ Own kTexts w' w.heap.size (.slice a l.length c) (sortB l) ∧ Below w.heap.size w w' := by
  have hsrc := hv.src
  rw [sortB_one h]
  obtain ⟨a, c, e⟩ : ∃ a c, v = .slice a l.length c := by
    rcases hv with ⟨rfl, rfl⟩ | ⟨b, off, c, e, _⟩
    · exact ⟨none, 0, rfl⟩
    · exact ⟨_, c, e⟩
  subst e
  obtain ⟨n, hn⟩ : ∃ n, l.length = n := ⟨_, rfl⟩
  rw [hn] at hsrc h ⊢
  have HN := Lib.hid hn
  have HS := Lib.hid hsrc
  have t0 : (n : Int) < 2 := by omega
  clear hn hsrc hv
  have hlen : ([] : List ByteArray).length + l.length = n := by rw [HN.out]; simp
  have HL := Lib.hid hlen
  clear hlen
  go_enter Tryz.func164, Tryz.ntmps164
  go_wp2_with (at_builtin; refine wpl_app kTexts rfl _ _ rfl rfl rfl (v := .slice none 0 0) (l := []) (l2 := l) (B := w.heap.size) (World.ownsRow_nil _ _ _ _) HS.out (by rw [HL.out]; omega) (Nat.le_refl _) ?_; rw [HL.out, List.nil_append]; intro a3 c3 w3 ho3 hb3 _ _; have H3 := Lib.hid (And.intro ho3 hb3); clear ho3 hb3)
  go_ret
  exact ⟨_, _, rfl, H3.out.1, H3.out.2⟩

theorem ba_inj {a b : ByteArray} (h : a.data.toList = b.data.toList) : a = b := by
  cases a; cases b
  congr
  exact Array.toList_inj.1 h
theorem leq_cmp (a b : ByteArray) : leqB a b = decide (cmpB a b ≤ 0) := rfl
theorem drop_one {T : List ByteArray} {m : Nat} {s : ByteArray} {r : List ByteArray} (h : T.drop m = s :: r) : T.take (m + 1) = T.take m ++ [s] ∧ T.drop (m + 1) = r ∧ m < T.length ∧ T[m]? = some s := by
  have hm : m < T.length := by
    rcases Nat.lt_or_ge m T.length with h2 | h2
    · exact h2
    · rw [List.drop_eq_nil_of_le h2] at h; cases h
  rw [List.drop_eq_getElem_cons hm] at h
  injection h with h1 h2
  exact ⟨by rw [List.take_succ_eq_append_getElem hm, h1], h2, hm, by rw [List.getElem?_eq_getElem hm, h1]⟩
set_option maxRecDepth 100000 in
set_option maxHeartbeats 4000000 in
theorem sorted_big (l : List ByteArray) (hn2 : 2 ≤ l.length) (hnd : l.Nodup) (hl2 : l.length ≤ 20000) (hsz : ∀ s ∈ l, s.size ≤ 1000000)
    (ih : ∀ l' : List ByteArray, l'.length < l.length → l'.Nodup → (∀ s ∈ l', s.size ≤ 1000000) → ∀ (w : World) (v : Value), SrX w v l' → Calls Tryz.prog 164 #[v] w fun e w' => ∃ a c, e = .returned (.slice a l'.length c) ∧ Own kTexts w' w.heap.size (.slice a l'.length c) (sortB l') ∧ Below w.heap.size w w')
    (w : World) (v : Value) (hv : SrX w v l) :
    Calls Tryz.prog 164 #[v] w fun e w' => ∃ a c, e = .returned (.slice a l.length c) ∧ Own kTexts w' w.heap.size (.slice a l.length c) (sortB l) ∧ Below w.heap.size w w' := by
  obtain ⟨b, off, cap, rfl, hb, hlc, hcp, hcell⟩ := hv.resolve_left (by rintro ⟨_, rfl⟩; simp at hn2)
  obtain ⟨n, hn⟩ : ∃ n, l.length = n := ⟨_, rfl⟩
  obtain ⟨h, hh⟩ : ∃ h, h = n / 2 := ⟨_, rfl⟩
  have hx : SrX w (.slice (some ⟨b, off, none⟩) h cap) (l.take h) := by
    have hl : (l.take h).length = h := by rw [List.length_take]; omega
    refine .inr ⟨b, off, cap, by rw [hl], hb, by omega, hcp, fun i hi => ?_⟩
    rw [List.getElem_take]
    exact hcell i (by omega)
  have hy : SrX w (.slice (some ⟨b, off + h, none⟩) (n - h) (cap - h)) (l.drop h) := by
    have hl : (l.drop h).length = n - h := by rw [List.length_drop, hn]
    refine .inr ⟨b, off + h, cap - h, by rw [hl], hb, by rw [hl]; omega, by omega, fun i hi => ?_⟩
    rw [List.getElem_drop, Nat.add_assoc]
    exact hcell (h + i) (by omega)
  have hlx : (l.take h).length = h := by rw [List.length_take]; omega
  obtain ⟨g, hg⟩ : ∃ g, n - h = g := ⟨_, rfl⟩
  have hly : (l.drop h).length = g := by rw [List.length_drop, hn]; exact hg
  have hmr := mrg_sort (l.take h) (l.drop h)
  rw [List.take_append_drop] at hmr
  have hpx := (sortB_perm (l.take h)).length_eq
  have hpy := (sortB_perm (l.drop h)).length_eq
  have hpT := (sortB_perm l).length_eq
  have hndT : (sortB l).Nodup := (sortB_perm l).nodup_iff.2 hnd
  have hsx : ∀ s ∈ sortB (l.take h), s.size ≤ 1000000 := fun s hs => hsz s (List.mem_of_mem_take ((sortB_perm _).mem_iff.1 hs))
  have hsy : ∀ s ∈ sortB (l.drop h), s.size ≤ 1000000 := fun s hs => hsz s (List.mem_of_mem_drop ((sortB_perm _).mem_iff.1 hs))
  have c1 := fun W (hW : Below w.heap.size w W) => ih (l.take h) (by omega) (hnd.sublist (List.take_sublist _ _)) (fun s hs => hsz s (List.mem_of_mem_take hs)) W _ (hx.below hW)
  have c2 := fun W (hW : Below w.heap.size w W) => ih (l.drop h) (by omega) (hnd.sublist (List.drop_sublist _ _)) (fun s hs => hsz s (List.mem_of_mem_drop hs)) W _ (hy.below hW)
  rw [hlx] at hpx c1
  rw [hly] at hpy c2
  rw [hg] at c2
  rw [hn] at hpT hl2 hn2 hlc ⊢
  obtain ⟨X, hX⟩ : ∃ X, sortB (l.take h) = X := ⟨_, rfl⟩
  obtain ⟨Y, hY⟩ : ∃ Y, sortB (l.drop h) = Y := ⟨_, rfl⟩
  obtain ⟨T, hT⟩ : ∃ T, sortB l = T := ⟨_, rfl⟩
  rw [hX] at hmr hpx hsx c1
  rw [hY] at hmr hpy hsy c2
  rw [hT] at hmr hpT hndT ⊢
  have C1 := Lib.hid c1
  have C2 := Lib.hid c2
  have HM := Lib.hid (And.intro hmr (And.intro hpx (And.intro hpy (And.intro hpT (And.intro hndT (And.intro hsx hsy))))))
  have t0 : ¬ (n : Int) < 2 := by omega
  have hdv : (n : Int).tdiv 2 = (h : Int) := by rw [Int.tdiv_eq_ediv_of_nonneg (by omega)]; omega
  have hdv2 : (n : Int) / 2 = (h : Int) := by omega
  have b1 : h ≤ n := by omega
  have b2 : n ≤ cap := hlc
  have b3 : ¬ cap = h := by omega
  have b4 : h < n := by omega
  have b6 : h + g = n := by omega
  have b5 : h ≤ cap := by omega
  have hwr : IntKind.i64.wrap (h : Int) = (h : Int) := IntWalk.i64_in _ (by omega)
  clear c1 c2 hmr hpx hpy hpT hndT hsx hsy hx hy hlx hly ih hcell hnd hsz hh hX hY hT hv hn
  go_enter Tryz.func164, Tryz.ntmps164
  go_wp2
  refine wp_region_K (fun _ => True) 13 14 (by kernel_rfl) (by kernel_rfl) trivial (fun hH => ?_)
  refine wpAnyK_take (i := 0) [13] (v := ?v1) rfl (by kernel_rfl) (by kernel_rfl) (by kernel_rfl) (by kernel_rfl) (fun _ _ _ h => h) (Or.inl ⟨by rfl, ?hy1⟩) hH ?rest1
  case hy1 => (intro w hSw; (try dsimp only at hSw); go_simp; with_reducible rfl)
  try simp only [Act.put, List.setIfInBounds_toArray, List.set_cons_zero, List.set_cons_succ]
  refine wpAnyK_take (i := 1) [13] (v := ?v2) rfl (by kernel_rfl) (by kernel_rfl) (by kernel_rfl) (by kernel_rfl) (fun _ _ _ h => h) (Or.inl ⟨by rfl, ?hy2⟩) hH ?rest2
  case hy2 => (intro w hSw; (try dsimp only at hSw); go_simp; with_reducible rfl)
  try simp only [Act.put, List.setIfInBounds_toArray, List.set_cons_zero, List.set_cons_succ]
  refine wpAnyK_take (i := 2) [13] (v := ?v3) rfl (by kernel_rfl) (by kernel_rfl) (by kernel_rfl) (by kernel_rfl) (fun _ _ _ h => h) (Or.inl ⟨by rfl, ?hy3⟩) hH ?rest3
  case hy3 => (intro w hSw; (try dsimp only at hSw); go_simp; with_reducible rfl)
  try simp only [Act.put, List.setIfInBounds_toArray, List.set_cons_zero, List.set_cons_succ]
  refine wpAnyK_take (i := 3) [13] (v := ?v4) rfl (by kernel_rfl) (by kernel_rfl) (by kernel_rfl) (by kernel_rfl) (fun _ _ _ h => h) (Or.inl ⟨by rfl, ?hy4⟩) hH ?rest4
  case hy4 => (intro w hSw; (try dsimp only at hSw); go_simp; with_reducible rfl)
  try simp only [Act.put, List.setIfInBounds_toArray, List.set_cons_zero, List.set_cons_succ]
  refine wpAnyK_take (i := 4) [13] (v := ?v5) rfl (by kernel_rfl) (by kernel_rfl) (by kernel_rfl) (by kernel_rfl) (fun _ _ _ h => h) (Or.inl ⟨by rfl, ?hy5⟩) hH ?rest5
  case hy5 => (intro w hSw; (try dsimp only at hSw); go_simp; with_reducible rfl)
  try simp only [Act.put, List.setIfInBounds_toArray, List.set_cons_zero, List.set_cons_succ]
  refine wpAnyK_take (i := 6) [13] (v := ?v6) rfl (by kernel_rfl) (by kernel_rfl) (by kernel_rfl) (by kernel_rfl) (fun _ _ _ h => h) (Or.inl ⟨by rfl, ?hy6⟩) hH ?rest6
  case hy6 => (intro w hSw; (try dsimp only at hSw); go_simp; with_reducible rfl)
  try simp only [Act.put, List.setIfInBounds_toArray, List.set_cons_zero, List.set_cons_succ]
  refine wpAnyK_take (i := 7) [13] (v := ?v7) rfl (by kernel_rfl) (by kernel_rfl) (by kernel_rfl) (by kernel_rfl) (fun _ _ _ h => h) (Or.inl ⟨by rfl, ?hy7⟩) hH ?rest7
  case hy7 => (intro w hSw; (try dsimp only at hSw); go_simp; with_reducible rfl)
  try simp only [Act.put, List.setIfInBounds_toArray, List.set_cons_zero, List.set_cons_succ]
  refine wpAnyK_take (i := 8) [13] (v := ?v8) rfl (by kernel_rfl) (by kernel_rfl) (by kernel_rfl) (by kernel_rfl) (fun _ _ _ h => h) (Or.inl ⟨by rfl, ?hy8⟩) hH ?rest8
  case hy8 => (intro w hSw; (try dsimp only at hSw); go_simp; with_reducible rfl)
  try simp only [Act.put, List.setIfInBounds_toArray, List.set_cons_zero, List.set_cons_succ]
  refine wpAnyK_take (i := 9) [13] (v := ?v9) rfl (by kernel_rfl) (by kernel_rfl) (by kernel_rfl) (by kernel_rfl) (fun _ _ _ h => h) (Or.inl ⟨by rfl, ?hy9⟩) hH ?rest9
  case hy9 => (intro w hSw; (try dsimp only at hSw); go_simp; with_reducible rfl)
  try simp only [Act.put, List.setIfInBounds_toArray, List.set_cons_zero, List.set_cons_succ]
  refine wpAnyK_take (i := 10) [13] (v := ?v10) rfl (by kernel_rfl) (by kernel_rfl) (by kernel_rfl) (by kernel_rfl) (fun _ _ _ h => h) (Or.inl ⟨by rfl, ?hy10⟩) hH ?rest10
  case hy10 => (intro w hSw; (try dsimp only at hSw); go_simp; with_reducible rfl)
  try simp only [Act.put, List.setIfInBounds_toArray, List.set_cons_zero, List.set_cons_succ]
  refine wpAnyK_one (i := 5) (by kernel_rfl) rfl (fun K hK => ?_) (by kernel_rfl)
  go_simp
  go_at_call 164
  with_reducible refine (C1.out _ (Below.refl _ _).drew).mono ?_
  rintro e w1 ⟨a1, c1, rfl, ho1, hb1⟩
  have HB1 := Lib.hid (And.intro ho1 ((Below.refl w.heap.size w).drew.trans hb1))
  clear ho1 hb1
  refine hK.out _ _ trivial (fun hH => ?_)
  clear hK K
  try simp only [Act.put, List.setIfInBounds_toArray, List.set_cons_zero, List.set_cons_succ]
  refine wpAnyK_one (i := 11) (by kernel_rfl) rfl (fun K hK => ?_) (by kernel_rfl)
  go_simp
  go_at_call 164
  with_reducible refine (C2.out _ HB1.out.2).mono ?_
  rintro e w2 ⟨a2, c2, rfl, ho2, hb2⟩
  have H2 := Lib.hid (And.intro (row_below HB1.out.1 hb2) (And.intro ho2 (HB1.out.2.trans (hb2.mono HB1.out.2.size))))
  clear ho2 hb2
  refine hK.out _ _ trivial (fun hH => ?_)
  clear hK K
  try simp only [Act.put, List.setIfInBounds_toArray, List.set_cons_zero, List.set_cons_succ]
  refine wpAnyK_take (i := 12) [13] (v := ?v11) rfl (by kernel_rfl) (by kernel_rfl) (by kernel_rfl) (by kernel_rfl) (fun _ _ _ h => h) (Or.inl ⟨by rfl, ?hy11⟩) hH ?rest11
  case hy11 => (intro w hSw; (try dsimp only at hSw); go_simp; with_reducible rfl)
  try simp only [Act.put, List.setIfInBounds_toArray, List.set_cons_zero, List.set_cons_succ]
  refine wpAnyK_last (by kernel_rfl) rfl (fun K hK => ?_) (by kernel_rfl)
  go_simp
  refine hK.out _ _ (wpAnyK_done (by kernel_rfl) ?_ _)
  clear hK K hH
  go_wp2
  go_loopw [5, 6, 7, 8] (fun v x y _ wr => ∃ i k : Nat, i ≤ h ∧ k ≤ g ∧ x = .int .i64 (i : Int) ∧ y = .int .i64 (k : Int) ∧ Own kTexts wr w2.heap.size v (T.take (i + k)) ∧ T.drop (i + k) = mrg (X.drop i) (Y.drop k) ∧ Below w2.heap.size w2 wr) (fun _ x y _ _ => n - (intOf x).toNat - (intOf y).toNat)
  case atStart => exact ⟨0, 0, by omega, by omega, rfl, rfl, World.ownsRow_nil _ _ _ _, HM.out.1.symm, Below.refl _ _⟩
  case round =>
    obtain ⟨i, k, hi, hk, rfl, rfl, hown, hdrop, hbel⟩ := hrel
    have hlt : (T.take (i + k)).length = i + k := by rw [List.length_take, HM.out.2.2.2.1]; omega
    obtain ⟨av, capv, rfl, _, _⟩ := row_form hown
    rw [hlt] at hown ⊢
    obtain ⟨m, hm⟩ : ∃ m, m = i + k := ⟨_, rfl⟩
    rw [← hm] at hown hdrop hlt ⊢
    have HO := Lib.hid hown
    have HD := Lib.hid hdrop
    have HLT := Lib.hid hlt
    have HB := Lib.hid hbel
    have hx2 := SrX.of (H2.out.1)
    have hy2 := SrX.of (H2.out.2.1)
    have HX := Lib.hid (And.intro hx2 hy2)
    clear hown hdrop hlt hbel hx2 hy2
    by_cases hend : i < h ∨ k < g
    · have hcase : (i < h ∧ ¬ k < g) ∨ (i < h ∧ k < g) ∨ (¬ i < h ∧ k < g) := by omega
      clear hend
      rcases hcase with ⟨hi1, hk1⟩ | ⟨hi1, hk1⟩ | ⟨hi1, hk1⟩
      · have hX0 : i < X.length := by rw [HM.out.2.1]; exact hi1
        obtain ⟨bx, ox, cx, ex, hbx, _, _, hcx⟩ := HX.out.1.resolve_left (by rintro ⟨_, e⟩; rw [e] at hX0; simp at hX0)
        injection ex with ex1 ex2 ex3
        subst ex1
        have ea := hcx i hX0
        have hsxa := HM.out.2.2.2.2.2.1 X[i] (List.getElem_mem hX0)
        obtain ⟨s1, hs1⟩ : ∃ s1, X[i] = s1 := ⟨_, rfl⟩
        rw [hs1] at ea hsxa
        have da := (HB.out.cell (p := ⟨bx, ox + i, none⟩) hbx).trans ea
        have q1 : (i : Int) < (h : Int) := by omega
        have q1m : i < h := hi1
        clear ex2 ex3 hcx ea hbx

        have q2 : ¬ (k : Int) < (g : Int) := by omega
        have q2m : ¬ k < g := hk1
        have q3 : (g : Int) ≤ (k : Int) := by omega
        have q3n : decide (g ≤ k) = true := by simp; omega
        have q3m : g ≤ k := by omega
        have hpick : mrg (X.drop i) (Y.drop k) = s1 :: mrg (X.drop (i + 1)) (Y.drop k) := by
          rw [← hs1]
          exact mrg_left hX0 (fun e => absurd e (by rw [HM.out.2.2.1]; exact hk1))
        clear hs1 hX0

        have hst := drop_one (HD.out.trans hpick)
        have hdt := hst.2.1
        have hT1 := hst.1
        have hTm := hst.2.2
        have HT := Lib.hid (And.intro hT1 (And.intro hdt hTm))
        clear hst hdt hT1 hTm hpick
        have HB0 : Hid (∀ d, Below wr.heap.size wr ((wr.drewN d).alloc (.cells #[.string s1] 9))) := fun d => (below_drewN (Below.refl _ _) d).alloc (Nat.le_refl _) _
        have HS1 : Hid (∀ d, Src kTexts ((wr.drewN d).alloc (.cells #[.string s1] 9)) (.slice (some ⟨wr.heap.size, 0, none⟩) 1 1) [s1]) := fun d => src_one (wr.drewN d) s1 _ _ rfl 1
        have HO1 : Hid (∀ d, Own kTexts ((wr.drewN d).alloc (.cells #[.string s1] 9)) w2.heap.size (.slice av m capv) (T.take m)) := fun d => row_below HO.out (HB0.out d)
        have HBW : Hid (∀ d, Below w2.heap.size w2 ((wr.drewN d).alloc (.cells #[.string s1] 9))) := fun d => HB.out.trans ((HB0.out d).mono HB.out.size)
        have HSZ : Hid (∀ d, w2.heap.size ≤ ((wr.drewN d).alloc (.cells #[.string s1] 9)).heap.size) := fun d => (HBW.out d).size
        have hm0 : m = 0 ∨ 0 < m := by omega
        rcases hm0 with hm0 | hm0
        · have z0 : (m : Int) = 0 := by omega
          have z0b : ((m : Int) == 0) = true := by simp; omega
          have HZ := Lib.hid (And.intro hm hm0)
          clear hm hm0
          go_wp2
          go_quiet (fail)
          go_wp2_with (at_builtin; refine wpl_app kTexts rfl _ _ rfl rfl rfl (HO1.out _) (HS1.out _) (by rw [HLT.out]; simp; omega) (HSZ.out _) ?_; rw [HLT.out]; intro a9 cap9 w9 ho9 hb9 _ _; have H9 := Lib.hid (And.intro ho9 ((HBW.out _).trans hb9)); clear ho9 hb9)
          go_roundw
          case rel => exact ⟨i + 1, k, by omega, by omega, by go_num, by go_num, by rw [show i + 1 + k = m + 1 by have := HZ.out.1; omega, HT.out.1]; exact H9.out.1, by rw [show i + 1 + k = m + 1 by have := HZ.out.1; omega]; exact HT.out.2.1, H9.out.2⟩
          case measure => simp [intOf]; omega
        · obtain ⟨p, rfl⟩ : ∃ p, m = p + 1 := ⟨m - 1, by omega⟩
          have z0 : ¬ ((p : Int) + 1) = 0 := by omega
          have z0b : (((p : Int) + 1) == 0) = false := by simp; omega
          have hmT : p < T.length := by have := HM.out.2.2.2.1; omega
          obtain ⟨bo, oo, co, eo, hbo, _, _, hco⟩ := (SrX.of HO.out).resolve_left (by rintro ⟨e, e2⟩; have := HLT.out; rw [e2] at this; simp at this)
          injection eo with eo1 eo2 eo3
          subst eo1
          have ec := hco p (by rw [HLT.out]; omega)
          rw [List.getElem_take] at ec
          obtain ⟨u, hu⟩ : ∃ u, T[p] = u := ⟨_, rfl⟩
          rw [hu] at ec
          have hne : u ≠ s1 := by
            intro e
            obtain ⟨hml, hTs⟩ := HT.out.2.2
            rw [List.getElem?_eq_getElem hml] at hTs
            have h9 := (List.getElem_inj (h₀ := hmT) (h₁ := hml) HM.out.2.2.2.2.1).1 (by rw [hu, e]; exact (Option.some.inj hTs).symm)
            omega
          have t1 : (u.toList == s1.toList) = false := by
            rw [beq_eq_false_iff_ne]
            intro e
            rw [ByteArray.toList_eq, ByteArray.toList_eq] at e
            exact hne (ba_inj e)
          have hpb : p < 20000 := by have := HM.out.2.2.2.1; omega
          have HZ := Lib.hid (And.intro hm hm0)
          clear eo2 eo3 hco hbo hu hne hmT hm hm0
          go_wp2
          go_quiet (fail)
          go_wp2_with (at_builtin; refine wpl_app kTexts rfl _ _ rfl rfl rfl (HO1.out _) (HS1.out _) (by rw [HLT.out]; simp; omega) (HSZ.out _) ?_; rw [HLT.out]; intro a9 cap9 w9 ho9 hb9 _ _; have H9 := Lib.hid (And.intro ho9 ((HBW.out _).trans hb9)); clear ho9 hb9)
          go_roundw
          case rel => exact ⟨i + 1, k, by omega, by omega, by go_num, by go_num, by rw [show i + 1 + k = p + 1 + 1 by have := HZ.out.1; omega, HT.out.1]; exact H9.out.1, by rw [show i + 1 + k = p + 1 + 1 by have := HZ.out.1; omega]; exact HT.out.2.1, H9.out.2⟩
          case measure => simp [intOf]; omega
      · have hX0 : i < X.length := by rw [HM.out.2.1]; exact hi1
        obtain ⟨bx, ox, cx, ex, hbx, _, _, hcx⟩ := HX.out.1.resolve_left (by rintro ⟨_, e⟩; rw [e] at hX0; simp at hX0)
        injection ex with ex1 ex2 ex3
        subst ex1
        have ea := hcx i hX0
        have hsxa := HM.out.2.2.2.2.2.1 X[i] (List.getElem_mem hX0)
        obtain ⟨s1, hs1⟩ : ∃ s1, X[i] = s1 := ⟨_, rfl⟩
        rw [hs1] at ea hsxa
        have da := (HB.out.cell (p := ⟨bx, ox + i, none⟩) hbx).trans ea
        have q1 : (i : Int) < (h : Int) := by omega
        have q1m : i < h := hi1
        clear ex2 ex3 hcx ea hbx

        have hY0 : k < Y.length := by rw [HM.out.2.2.1]; exact hk1
        obtain ⟨by_, oy, cy, ey, hby, _, _, hcy⟩ := HX.out.2.resolve_left (by rintro ⟨_, e⟩; rw [e] at hY0; simp at hY0)
        injection ey with ey1 ey2 ey3
        subst ey1
        have eb := hcy k hY0
        have hsyb := HM.out.2.2.2.2.2.2 Y[k] (List.getElem_mem hY0)
        obtain ⟨s2, hs2⟩ : ∃ s2, Y[k] = s2 := ⟨_, rfl⟩
        rw [hs2] at eb hsyb
        have db := (HB.out.cell (p := ⟨by_, oy + k, none⟩) hby).trans eb
        have q2 : (k : Int) < (g : Int) := by omega
        have q2m : k < g := hk1
        clear ey2 ey3 hcy eb hby

        have q3 : ¬ (g : Int) ≤ (k : Int) := by omega
        have q3n : decide (g ≤ k) = false := by simp; omega
        have q3m : ¬ g ≤ k := by omega
        obtain ⟨cm, hcm⟩ : ∃ cm, cmpB s1 s2 = cm := ⟨_, rfl⟩
        have hcall := fun (d : Nat) => refcompare_any s1 s2 (wr.drewN d) hsxa hsyb
        rw [hcm] at hcall
        have hlq : leqB s1 s2 = decide (cm ≤ 0) := by rw [← hcm]; rfl
        clear hcm
        by_cases hle : cm ≤ 0
        · have t0 : decide (cm ≤ 0) = true := by simpa using hle
          have hpick : mrg (X.drop i) (Y.drop k) = s1 :: mrg (X.drop (i + 1)) (Y.drop k) := by
            rw [← hs1]
            refine mrg_left hX0 (fun e => ?_)
            rw [List.getElem?_eq_getElem hY0, hs1]
            show leqB s1 Y[k] = true
            rw [hs2, hlq]
            simpa using hle
          clear hs1 hs2 hX0 hY0 hlq
          have hst := drop_one (HD.out.trans hpick)
          have hdt := hst.2.1
          have hT1 := hst.1
          have hTm := hst.2.2
          have HT := Lib.hid (And.intro hT1 (And.intro hdt hTm))
          clear hst hdt hT1 hTm hpick
          have HB0 : Hid (∀ d, Below wr.heap.size wr ((wr.drewN d).alloc (.cells #[.string s1] 9))) := fun d => (below_drewN (Below.refl _ _) d).alloc (Nat.le_refl _) _
          have HS1 : Hid (∀ d, Src kTexts ((wr.drewN d).alloc (.cells #[.string s1] 9)) (.slice (some ⟨wr.heap.size, 0, none⟩) 1 1) [s1]) := fun d => src_one (wr.drewN d) s1 _ _ rfl 1
          have HO1 : Hid (∀ d, Own kTexts ((wr.drewN d).alloc (.cells #[.string s1] 9)) w2.heap.size (.slice av m capv) (T.take m)) := fun d => row_below HO.out (HB0.out d)
          have HBW : Hid (∀ d, Below w2.heap.size w2 ((wr.drewN d).alloc (.cells #[.string s1] 9))) := fun d => HB.out.trans ((HB0.out d).mono HB.out.size)
          have HSZ : Hid (∀ d, w2.heap.size ≤ ((wr.drewN d).alloc (.cells #[.string s1] 9)).heap.size) := fun d => (HBW.out d).size
          have hm0 : m = 0 ∨ 0 < m := by omega
          rcases hm0 with hm0 | hm0
          · have z0 : (m : Int) = 0 := by omega
            have z0b : ((m : Int) == 0) = true := by simp; omega
            have HZ := Lib.hid (And.intro hm hm0)
            clear hm hm0
            go_wp2
            go_quiet ((go_at_call 180; with_reducible exact Calls.quiet_of (hcall _)))
            go_wp2_with (at_builtin; refine wpl_app kTexts rfl _ _ rfl rfl rfl (HO1.out _) (HS1.out _) (by rw [HLT.out]; simp; omega) (HSZ.out _) ?_; rw [HLT.out]; intro a9 cap9 w9 ho9 hb9 _ _; have H9 := Lib.hid (And.intro ho9 ((HBW.out _).trans hb9)); clear ho9 hb9)
            go_roundw
            case rel => exact ⟨i + 1, k, by omega, by omega, by go_num, by go_num, by rw [show i + 1 + k = m + 1 by have := HZ.out.1; omega, HT.out.1]; exact H9.out.1, by rw [show i + 1 + k = m + 1 by have := HZ.out.1; omega]; exact HT.out.2.1, H9.out.2⟩
            case measure => simp [intOf]; omega
          · obtain ⟨p, rfl⟩ : ∃ p, m = p + 1 := ⟨m - 1, by omega⟩
            have z0 : ¬ ((p : Int) + 1) = 0 := by omega
            have z0b : (((p : Int) + 1) == 0) = false := by simp; omega
            have hmT : p < T.length := by have := HM.out.2.2.2.1; omega
            obtain ⟨bo, oo, co, eo, hbo, _, _, hco⟩ := (SrX.of HO.out).resolve_left (by rintro ⟨e, e2⟩; have := HLT.out; rw [e2] at this; simp at this)
            injection eo with eo1 eo2 eo3
            subst eo1
            have ec := hco p (by rw [HLT.out]; omega)
            rw [List.getElem_take] at ec
            obtain ⟨u, hu⟩ : ∃ u, T[p] = u := ⟨_, rfl⟩
            rw [hu] at ec
            have hne : u ≠ s1 := by
              intro e
              obtain ⟨hml, hTs⟩ := HT.out.2.2
              rw [List.getElem?_eq_getElem hml] at hTs
              have h9 := (List.getElem_inj (h₀ := hmT) (h₁ := hml) HM.out.2.2.2.2.1).1 (by rw [hu, e]; exact (Option.some.inj hTs).symm)
              omega
            have t1 : (u.toList == s1.toList) = false := by
              rw [beq_eq_false_iff_ne]
              intro e
              rw [ByteArray.toList_eq, ByteArray.toList_eq] at e
              exact hne (ba_inj e)
            have hpb : p < 20000 := by have := HM.out.2.2.2.1; omega
            have HZ := Lib.hid (And.intro hm hm0)
            clear eo2 eo3 hco hbo hu hne hmT hm hm0
            go_wp2
            go_quiet ((go_at_call 180; with_reducible exact Calls.quiet_of (hcall _)))
            go_wp2_with (at_builtin; refine wpl_app kTexts rfl _ _ rfl rfl rfl (HO1.out _) (HS1.out _) (by rw [HLT.out]; simp; omega) (HSZ.out _) ?_; rw [HLT.out]; intro a9 cap9 w9 ho9 hb9 _ _; have H9 := Lib.hid (And.intro ho9 ((HBW.out _).trans hb9)); clear ho9 hb9)
            go_roundw
            case rel => exact ⟨i + 1, k, by omega, by omega, by go_num, by go_num, by rw [show i + 1 + k = p + 1 + 1 by have := HZ.out.1; omega, HT.out.1]; exact H9.out.1, by rw [show i + 1 + k = p + 1 + 1 by have := HZ.out.1; omega]; exact HT.out.2.1, H9.out.2⟩
            case measure => simp [intOf]; omega
        · have t0 : decide (cm ≤ 0) = false := by simpa using hle
          have hpick : mrg (X.drop i) (Y.drop k) = s2 :: mrg (X.drop i) (Y.drop (k + 1)) := by
            rw [← hs2]
            refine mrg_right hY0 (fun e => ?_)
            rw [List.getElem?_eq_getElem hX0, hs2]
            show leqB X[i] s2 = false
            rw [hs1, hlq]
            simpa using hle
          clear hs1 hs2 hX0 hY0 hlq
          have hst := drop_one (HD.out.trans hpick)
          have hdt := hst.2.1
          have hT1 := hst.1
          have hTm := hst.2.2
          have HT := Lib.hid (And.intro hT1 (And.intro hdt hTm))
          clear hst hdt hT1 hTm hpick
          have HB0 : Hid (∀ d, Below wr.heap.size wr ((wr.drewN d).alloc (.cells #[.string s2] 9))) := fun d => (below_drewN (Below.refl _ _) d).alloc (Nat.le_refl _) _
          have HS1 : Hid (∀ d, Src kTexts ((wr.drewN d).alloc (.cells #[.string s2] 9)) (.slice (some ⟨wr.heap.size, 0, none⟩) 1 1) [s2]) := fun d => src_one (wr.drewN d) s2 _ _ rfl 1
          have HO1 : Hid (∀ d, Own kTexts ((wr.drewN d).alloc (.cells #[.string s2] 9)) w2.heap.size (.slice av m capv) (T.take m)) := fun d => row_below HO.out (HB0.out d)
          have HBW : Hid (∀ d, Below w2.heap.size w2 ((wr.drewN d).alloc (.cells #[.string s2] 9))) := fun d => HB.out.trans ((HB0.out d).mono HB.out.size)
          have HSZ : Hid (∀ d, w2.heap.size ≤ ((wr.drewN d).alloc (.cells #[.string s2] 9)).heap.size) := fun d => (HBW.out d).size
          have hm0 : m = 0 ∨ 0 < m := by omega
          rcases hm0 with hm0 | hm0
          · have z0 : (m : Int) = 0 := by omega
            have z0b : ((m : Int) == 0) = true := by simp; omega
            have HZ := Lib.hid (And.intro hm hm0)
            clear hm hm0
            go_wp2
            go_quiet ((go_at_call 180; with_reducible exact Calls.quiet_of (hcall _)))
            go_wp2_with (at_builtin; refine wpl_app kTexts rfl _ _ rfl rfl rfl (HO1.out _) (HS1.out _) (by rw [HLT.out]; simp; omega) (HSZ.out _) ?_; rw [HLT.out]; intro a9 cap9 w9 ho9 hb9 _ _; have H9 := Lib.hid (And.intro ho9 ((HBW.out _).trans hb9)); clear ho9 hb9)
            go_roundw
            case rel => exact ⟨i, k + 1, by omega, by omega, by go_num, by go_num, by rw [show i + (k + 1) = m + 1 by have := HZ.out.1; omega, HT.out.1]; exact H9.out.1, by rw [show i + (k + 1) = m + 1 by have := HZ.out.1; omega]; exact HT.out.2.1, H9.out.2⟩
            case measure => simp [intOf]; omega
          · obtain ⟨p, rfl⟩ : ∃ p, m = p + 1 := ⟨m - 1, by omega⟩
            have z0 : ¬ ((p : Int) + 1) = 0 := by omega
            have z0b : (((p : Int) + 1) == 0) = false := by simp; omega
            have hmT : p < T.length := by have := HM.out.2.2.2.1; omega
            obtain ⟨bo, oo, co, eo, hbo, _, _, hco⟩ := (SrX.of HO.out).resolve_left (by rintro ⟨e, e2⟩; have := HLT.out; rw [e2] at this; simp at this)
            injection eo with eo1 eo2 eo3
            subst eo1
            have ec := hco p (by rw [HLT.out]; omega)
            rw [List.getElem_take] at ec
            obtain ⟨u, hu⟩ : ∃ u, T[p] = u := ⟨_, rfl⟩
            rw [hu] at ec
            have hne : u ≠ s2 := by
              intro e
              obtain ⟨hml, hTs⟩ := HT.out.2.2
              rw [List.getElem?_eq_getElem hml] at hTs
              have h9 := (List.getElem_inj (h₀ := hmT) (h₁ := hml) HM.out.2.2.2.2.1).1 (by rw [hu, e]; exact (Option.some.inj hTs).symm)
              omega
            have t1 : (u.toList == s2.toList) = false := by
              rw [beq_eq_false_iff_ne]
              intro e
              rw [ByteArray.toList_eq, ByteArray.toList_eq] at e
              exact hne (ba_inj e)
            have hpb : p < 20000 := by have := HM.out.2.2.2.1; omega
            have HZ := Lib.hid (And.intro hm hm0)
            clear eo2 eo3 hco hbo hu hne hmT hm hm0
            go_wp2
            go_quiet ((go_at_call 180; with_reducible exact Calls.quiet_of (hcall _)))
            go_wp2_with (at_builtin; refine wpl_app kTexts rfl _ _ rfl rfl rfl (HO1.out _) (HS1.out _) (by rw [HLT.out]; simp; omega) (HSZ.out _) ?_; rw [HLT.out]; intro a9 cap9 w9 ho9 hb9 _ _; have H9 := Lib.hid (And.intro ho9 ((HBW.out _).trans hb9)); clear ho9 hb9)
            go_roundw
            case rel => exact ⟨i, k + 1, by omega, by omega, by go_num, by go_num, by rw [show i + (k + 1) = p + 1 + 1 by have := HZ.out.1; omega, HT.out.1]; exact H9.out.1, by rw [show i + (k + 1) = p + 1 + 1 by have := HZ.out.1; omega]; exact HT.out.2.1, H9.out.2⟩
            case measure => simp [intOf]; omega
      · have hY0 : k < Y.length := by rw [HM.out.2.2.1]; exact hk1
        obtain ⟨by_, oy, cy, ey, hby, _, _, hcy⟩ := HX.out.2.resolve_left (by rintro ⟨_, e⟩; rw [e] at hY0; simp at hY0)
        injection ey with ey1 ey2 ey3
        subst ey1
        have eb := hcy k hY0
        have hsyb := HM.out.2.2.2.2.2.2 Y[k] (List.getElem_mem hY0)
        obtain ⟨s2, hs2⟩ : ∃ s2, Y[k] = s2 := ⟨_, rfl⟩
        rw [hs2] at eb hsyb
        have db := (HB.out.cell (p := ⟨by_, oy + k, none⟩) hby).trans eb
        have q2 : (k : Int) < (g : Int) := by omega
        have q2m : k < g := hk1
        clear ey2 ey3 hcy eb hby

        have q1 : ¬ (i : Int) < (h : Int) := by omega
        have q1m : ¬ i < h := hi1
        have q3 : ¬ (g : Int) ≤ (k : Int) := by omega
        have q3n : decide (g ≤ k) = false := by simp; omega
        have q3m : ¬ g ≤ k := by omega
        have hpick : mrg (X.drop i) (Y.drop k) = s2 :: mrg (X.drop i) (Y.drop (k + 1)) := by
          rw [← hs2]
          exact mrg_right hY0 (fun e => absurd e (by rw [HM.out.2.1]; exact hi1))
        clear hs2 hY0

        have hst := drop_one (HD.out.trans hpick)
        have hdt := hst.2.1
        have hT1 := hst.1
        have hTm := hst.2.2
        have HT := Lib.hid (And.intro hT1 (And.intro hdt hTm))
        clear hst hdt hT1 hTm hpick
        have HB0 : Hid (∀ d, Below wr.heap.size wr ((wr.drewN d).alloc (.cells #[.string s2] 9))) := fun d => (below_drewN (Below.refl _ _) d).alloc (Nat.le_refl _) _
        have HS1 : Hid (∀ d, Src kTexts ((wr.drewN d).alloc (.cells #[.string s2] 9)) (.slice (some ⟨wr.heap.size, 0, none⟩) 1 1) [s2]) := fun d => src_one (wr.drewN d) s2 _ _ rfl 1
        have HO1 : Hid (∀ d, Own kTexts ((wr.drewN d).alloc (.cells #[.string s2] 9)) w2.heap.size (.slice av m capv) (T.take m)) := fun d => row_below HO.out (HB0.out d)
        have HBW : Hid (∀ d, Below w2.heap.size w2 ((wr.drewN d).alloc (.cells #[.string s2] 9))) := fun d => HB.out.trans ((HB0.out d).mono HB.out.size)
        have HSZ : Hid (∀ d, w2.heap.size ≤ ((wr.drewN d).alloc (.cells #[.string s2] 9)).heap.size) := fun d => (HBW.out d).size
        have hm0 : m = 0 ∨ 0 < m := by omega
        rcases hm0 with hm0 | hm0
        · have z0 : (m : Int) = 0 := by omega
          have z0b : ((m : Int) == 0) = true := by simp; omega
          have HZ := Lib.hid (And.intro hm hm0)
          clear hm hm0
          go_wp2
          go_quiet (fail)
          go_wp2_with (at_builtin; refine wpl_app kTexts rfl _ _ rfl rfl rfl (HO1.out _) (HS1.out _) (by rw [HLT.out]; simp; omega) (HSZ.out _) ?_; rw [HLT.out]; intro a9 cap9 w9 ho9 hb9 _ _; have H9 := Lib.hid (And.intro ho9 ((HBW.out _).trans hb9)); clear ho9 hb9)
          go_roundw
          case rel => exact ⟨i, k + 1, by omega, by omega, by go_num, by go_num, by rw [show i + (k + 1) = m + 1 by have := HZ.out.1; omega, HT.out.1]; exact H9.out.1, by rw [show i + (k + 1) = m + 1 by have := HZ.out.1; omega]; exact HT.out.2.1, H9.out.2⟩
          case measure => simp [intOf]; omega
        · obtain ⟨p, rfl⟩ : ∃ p, m = p + 1 := ⟨m - 1, by omega⟩
          have z0 : ¬ ((p : Int) + 1) = 0 := by omega
          have z0b : (((p : Int) + 1) == 0) = false := by simp; omega
          have hmT : p < T.length := by have := HM.out.2.2.2.1; omega
          obtain ⟨bo, oo, co, eo, hbo, _, _, hco⟩ := (SrX.of HO.out).resolve_left (by rintro ⟨e, e2⟩; have := HLT.out; rw [e2] at this; simp at this)
          injection eo with eo1 eo2 eo3
          subst eo1
          have ec := hco p (by rw [HLT.out]; omega)
          rw [List.getElem_take] at ec
          obtain ⟨u, hu⟩ : ∃ u, T[p] = u := ⟨_, rfl⟩
          rw [hu] at ec
          have hne : u ≠ s2 := by
            intro e
            obtain ⟨hml, hTs⟩ := HT.out.2.2
            rw [List.getElem?_eq_getElem hml] at hTs
            have h9 := (List.getElem_inj (h₀ := hmT) (h₁ := hml) HM.out.2.2.2.2.1).1 (by rw [hu, e]; exact (Option.some.inj hTs).symm)
            omega
          have t1 : (u.toList == s2.toList) = false := by
            rw [beq_eq_false_iff_ne]
            intro e
            rw [ByteArray.toList_eq, ByteArray.toList_eq] at e
            exact hne (ba_inj e)
          have hpb : p < 20000 := by have := HM.out.2.2.2.1; omega
          have HZ := Lib.hid (And.intro hm hm0)
          clear eo2 eo3 hco hbo hu hne hmT hm hm0
          go_wp2
          go_quiet (fail)
          go_wp2_with (at_builtin; refine wpl_app kTexts rfl _ _ rfl rfl rfl (HO1.out _) (HS1.out _) (by rw [HLT.out]; simp; omega) (HSZ.out _) ?_; rw [HLT.out]; intro a9 cap9 w9 ho9 hb9 _ _; have H9 := Lib.hid (And.intro ho9 ((HBW.out _).trans hb9)); clear ho9 hb9)
          go_roundw
          case rel => exact ⟨i, k + 1, by omega, by omega, by go_num, by go_num, by rw [show i + (k + 1) = p + 1 + 1 by have := HZ.out.1; omega, HT.out.1]; exact H9.out.1, by rw [show i + (k + 1) = p + 1 + 1 by have := HZ.out.1; omega]; exact HT.out.2.1, H9.out.2⟩
          case measure => simp [intOf]; omega
    · have hi2 : i = h := by omega
      have hk2 : k = g := by omega
      have hTn : T.take m = T := List.take_of_length_le (by rw [HM.out.2.2.2.1]; omega)
      have hmn : m = n := by omega
      rw [hTn] at HO
      have HMN := Lib.hid hmn
      clear hend hTn hmn hm
      subst hi2 hk2
      go_wp2
      go_ret
      rw [← HMN.out]
      exact ⟨av, capv, rfl, row_mono HO.out H2.out.2.2.size, H2.out.2.2.trans (HB.out.mono H2.out.2.2.size)⟩


theorem rsorted_any : ∀ (n : Nat) (l : List ByteArray), l.length ≤ n → l.Nodup → l.length ≤ 20000 → (∀ s ∈ l, s.size ≤ 1000000) → ∀ (w : World) (v : Value), SrX w v l →
    Calls Tryz.prog 164 #[v] w fun e w' => ∃ a c, e = .returned (.slice a l.length c) ∧ Own kTexts w' w.heap.size (.slice a l.length c) (sortB l) ∧ Below w.heap.size w w' := by
  intro n
  induction n with
  | zero => intro l h _ _ _ w v hv; exact sorted_small l (by omega) w v hv
  | succ n ih =>
    intro l h hnd hl hs w v hv
    by_cases h2 : l.length < 2
    · exact sorted_small l h2 w v hv
    · exact sorted_big l (by omega) hnd hl hs (fun l' hl' hnd' hs' w v hv => ih l' (by omega) hnd' (by omega) hs' w v hv) w v hv

end Go.Proofs.YtceamkcaokdgaaaGreatDoor
