/-
  The walk of Scores.
-/
import Derived.Test.YtnfpnmfgppamgaaGreatFl
namespace Go.Proofs.YtnfpnmfgppamgaaGreat
open Go.RowKit

def rCells (l : List Nat) : List Value := l.map (Value.float .f64)
abbrev OwnR (w : World) (B : Nat) (v : Value) (l : List Nat) : Prop := w.ownsRow B 23 1 v l.length (rCells l)
theorem info_float : (Tryz.prog.info? 23).map (fun i => (i.zero, i.size, i.bytes)) = some (some (.float .f64 0), 1, 8) := by kernel_rfl

section
variable {w : World} {ops : Array Oper} {rest : List Oper} {o : Oper} {a : Act} {Q : Exit → Act → World → Prop}
/-- append of one float. -/
theorem wpl_app_r (hgd : o.guard = none) (s x : Operand) (ho : o.op = .call { callee := .builtin .append, args := #[s, x], argTypes := #[43, 43] })
    (B : Nat) (v : Value) (l : List Nat) (hs : a.eval s = v) (hown : OwnR w B v l) (g : Nat) (k : Nat) (hx : a.eval x = .slice (some ⟨g, 0, none⟩) 1 1) (hnew : w.cell? ⟨g, 0, none⟩ = some (.float .f64 k)) (hlen : l.length ≤ 1000000) (hB : B ≤ w.heap.size)
    (h : ∀ a' cap w', OwnR w' B (.slice a' (l.length + 1) cap) (l ++ [k]) → Below B w w' → wpList Tryz.prog ops Q rest (a.put o.dst (.slice a' (l.length + 1) cap)) w') :
    wpList Tryz.prog ops Q (o :: rest) a w := by
  obtain ⟨i0, hi0, hz0, hs0, hy0⟩ := info_parts info_float
  refine wpList_append_own_at _ hgd s x 43 ho B 23 i0 (.float .f64 0) 1 8 Tryz.underlying43 hi0 hz0 hs0 hy0 rfl (by decide) v l.length (rCells l) hs hown ⟨g, 0, none⟩ 1 1 [.float .f64 k] hx rfl ?_ (by intro u hu; rw [List.mem_singleton] at hu; subst hu; rfl) (by unfold maxLen; omega) (by omega) hB ?_
  · intro j u hj
    match j, hj with
    | 0, hj => simp at hj; subst hj; exact hnew
  · intro v' w' h2 hg _ _
    have h2' : OwnR w' B v' (l ++ [k]) := by
      show w'.ownsRow B _ 1 v' _ _
      rw [List.length_append]
      simpa [rCells] using h2
    obtain ⟨a', cap, hv, _, _⟩ := row_form h2'
    rw [List.length_append] at hv
    subst hv
    exact h a' cap w' h2' (below_grown hown hg hB)
end

/-- By what level i + 1 is divided. -/
def baseI (base ratio : Nat) : Nat → Nat
  | 0 => base
  | i + 1 => fmul (baseI base ratio i) ratio
/-- The score of a level. -/
def sc (L : List Fi) (base ratio : Nat) : Nat → Nat
  | 0 => fdiv (floatOfInt .f64 (ofL L 0).length) 4616189618054758400
  | i + 1 => fdiv (floatOfInt .f64 (bytesOf L (i + 1 : Nat))) (baseI base ratio i)
/-- The first i scores, but for what a nan looks like. -/
def Scd (bs : List Nat) (L : List Fi) (base ratio i : Nat) : Prop := bs.length = i ∧ ∀ j, j < i → FEq (bs.getD j 0) (sc L base ratio j)
theorem Scd.snoc {bs : List Nat} {L : List Fi} {base ratio i r : Nat} (h : Scd bs L base ratio i) (hr : FEq r (sc L base ratio i)) : Scd (bs ++ [r]) L base ratio (i + 1) := by
  obtain ⟨hl, h⟩ := h
  refine ⟨by simp [hl], fun j hj => ?_⟩
  rcases Nat.lt_or_ge j i with h1 | h1
  · have := h j h1
    rwa [List.getD_eq_getElem?_getD, List.getElem?_append_left (by omega), ← List.getD_eq_getElem?_getD]
  · obtain rfl : j = i := by omega
    rw [List.getD_eq_getElem?_getD, List.getElem?_append_right (by omega), hl]
    simpa using hr

theorem below_or {n : Nat} {a w w' : World} (h : Below n a w) (hw : w' = w ∨ w' = w.drew) : Below n a w' := by
  rcases hw with rfl | rfl
  · exact h
  · exact h.drew
theorem row_or {w w' : World} {B e s n : Nat} {v : Value} {xs : List Value} (h : w.ownsRow B e s v n xs) (hw : w' = w ∨ w' = w.drew) : w'.ownsRow B e s v n xs := by
  rcases hw with rfl | rfl
  · exact h
  · exact h.drew
theorem size_or {w w' : World} (hw : w' = w ∨ w' = w.drew) : w'.heap.size = w.heap.size := by rcases hw with rfl | rfl <;> rfl

set_option maxRecDepth 100000 in
set_option maxHeartbeats 800000 in
theorem scores_any {w : World} {a : Option Addr} {L : List Fi} (hL : FilesAt w a L) (cap : Nat) (hlen : L.length ≤ 100000) (base ratio : Nat) :
    Calls Tryz.prog 6 #[.slice a L.length cap, .float .f64 base, .float .f64 ratio] w fun e w' =>
      ∃ a' cap' bs, e = .returned (.slice a' 6 cap') ∧ OwnR w' w.heap.size (.slice a' 6 cap') bs ∧ Scd bs L base ratio 6 ∧ Below w.heap.size w w' := by
  have HL := Lib.hid hL
  have hof := of_any hL cap hlen 0
  have HBY : Hid (∀ W, Below w.heap.size w W → ∀ lv, Calls Tryz.prog 14 #[.slice a L.length cap, .int .i64 lv] W fun e w' => e = .returned (.int .i64 (bytesOf L lv)) ∧ Below W.heap.size W w') :=
    fun W hb lv => bytes_any (hL.below hb) cap (by omega) lv
  obtain ⟨len, hl⟩ : ∃ len, len = L.length := ⟨_, rfl⟩
  rw [← hl] at hof hlen HBY ⊢
  have HOF := Lib.hid hof
  clear hof hL hl
  go_enter Tryz.func6, Tryz.ntmps6
  go_wp2_with fail
  refine HOF.out.mono ?_
  rintro _ w1 ⟨a1, cap1, rfl, hown1, hb1⟩
  simp only []
  obtain ⟨r, w2, hq, hr, hw2⟩ := run_quo (P := Tryz.prog) w1 23 (floatOfInt .f64 (ofL L 0).length) 4616189618054758400
  have HB2 := Lib.hid (below_or hb1 hw2)
  have HR : Hid (FEq r (sc L base ratio 0)) := hr
  obtain ⟨c0, hc0⟩ : ∃ c0, c0 = (ofL L 0).length := ⟨_, rfl⟩
  rw [← hc0] at hq ⊢
  clear hown1 hb1 hr hw2 hc0
  go_wp2
  go_loopw [1, 7, 8] (fun bv v y wr => ∃ (i b : Nat) (bs : List Nat), i < 6 ∧ y = .int .i64 ((i + 1 : Nat) : Int) ∧ bv = .float .f64 b ∧ FEq b (baseI base ratio i) ∧ OwnR wr w.heap.size v bs ∧ Scd bs L base ratio (i + 1) ∧ Below w.heap.size w wr) (fun _ _ y _ => 7 - (intOf y).toNat)
  case atStart =>
    refine ⟨0, base, [r], by omega, rfl, rfl, .refl _, ?_, Scd.snoc (bs := []) (i := 0) ⟨rfl, by omega⟩ HR.out, HB2.out.alloc HB2.out.size _⟩
    exact World.ownsRow_lit _ _ 1 HB2.out.size (by decide) rfl
  case round =>
    obtain ⟨i, b, bs, hi, rfl, rfl, hb, hown, hsc, hbel⟩ := hrel
    obtain ⟨av, capv, rfl, _, _⟩ := row_form hown
    have hbl := hsc.1
    have HO := Lib.hid hown
    have HB := Lib.hid hbel
    have HS := Lib.hid hsc
    have HBB := Lib.hid hb
    obtain ⟨n, hn⟩ : ∃ n, n = bs.length := ⟨_, rfl⟩
    rw [← hn] at hbl ⊢
    have HNN := Lib.hid (And.intro hn hbl)
    rw [← hn] at HO
    clear hown hsc hbel hb hn hbl
    by_cases hlt : i < 5
    · have q1 : ((i : Int) + 1) < 6 := by omega
      have q2 : ((i + 1 : Nat) : Int) = (i : Int) + 1 := by omega
      rw [q2]
      clear q2
      go_wp2_with fail
      refine (HBY.out wr HB.out ((i : Int) + 1)).mono ?_
      rintro _ w3 ⟨rfl, hb3⟩
      simp only []
      obtain ⟨r4, w4, hq4, hr4, hw4⟩ := run_quo (P := Tryz.prog) w3 23 (floatOfInt .f64 (bytesOf L ((i : Int) + 1))) b
      have hb4 := below_or (HB.out.trans (hb3.mono HB.out.size)) hw4
      have hbs := bytesOf_bd L ((i : Int) + 1)
      have hr4' : FEq r4 (sc L base ratio (i + 1)) := by
        rcases hr4 with h | h
        · rw [h]
          show FEq _ (fdiv (floatOfInt .f64 (bytesOf L ((i + 1 : Nat) : Int))) (baseI base ratio i))
          rw [show ((i + 1 : Nat) : Int) = (i : Int) + 1 by omega]
          exact fdiv_congr (.refl _) HBB.out
        · refine .inr ⟨h.1, ?_⟩
          have := fdiv_congr (a := floatOfInt .f64 (bytesOf L ((i : Int) + 1))) (.refl _) HBB.out
          show isN (fdiv (floatOfInt .f64 (bytesOf L ((i + 1 : Nat) : Int))) (baseI base ratio i)) = true
          rw [show ((i + 1 : Nat) : Int) = (i : Int) + 1 by omega]
          rcases this with e | e
          · rw [← e]; exact h.2
          · exact e.2
      obtain ⟨W5, hW5⟩ : ∃ W5, w4.alloc (.cells #[.float .f64 r4] 23) = W5 := ⟨_, rfl⟩
      have ho4 : OwnR w4 w.heap.size (.slice av n capv) bs := row_or ((Tn.ofBelow (F := fun _ => False) hb3).row HO.out (fun _ _ h => h)) hw4
      have ho5 : OwnR W5 w.heap.size (.slice av n capv) bs := by rw [← hW5]; exact World.ownsRow.alloc ho4 _
      have hb5 : Below w.heap.size w W5 := by rw [← hW5]; exact hb4.alloc hb4.size _
      have hnew : W5.cell? ⟨w4.heap.size, 0, none⟩ = some (.float .f64 r4) := by rw [← hW5]; simp [go_sem]
      have H5 := Lib.hid (And.intro ho5 (And.intro hb5 hnew))
      have HR4 := Lib.hid hr4'
      obtain ⟨y, hy⟩ : ∃ y, y = bytesOf L ((i : Int) + 1) := ⟨_, rfl⟩
      rw [← hy] at hq4 ⊢
      clear ho4 ho5 hb5 hnew hr4' hr4 hb4 hw4 hb3 hbs hy
      go_wp2_with (at_builtin; refine wpl_app_r rfl _ _ rfl w.heap.size (.slice av n capv) bs rfl H5.out.1 w4.heap.size r4 rfl H5.out.2.2 (by have := HNN.out; omega) H5.out.2.1.size ?_; intro a6 cap6 w6 ho6 hb6; obtain ⟨r7, w7, hq7, hr7, hw7⟩ := run_mul (P := Tryz.prog) w6 23 b ratio)
      have hsc6 := HS.out.snoc HR4.out
      have hb7 := below_or (H5.out.2.1.trans hb6) hw7
      have ho7 := row_or ho6 hw7
      have hb8 : FEq r7 (baseI base ratio (i + 1)) := by
        have := fmul_congr HBB.out (FEq.refl ratio)
        show FEq _ (fmul (baseI base ratio i) ratio)
        rcases hr7 with h | h
        · rw [h]; exact this
        · refine .inr ⟨h.1, ?_⟩
          rcases this with e | e
          · rw [← e]; exact h.2
          · exact e.2
      have H8 := Lib.hid (And.intro hsc6 (And.intro hb7 (And.intro ho7 hb8)))
      have hnl : bs.length = n := HNN.out.1.symm
      rw [hnl]
      rw [hnl] at H8
      clear hsc6 hb7 ho7 hb8 ho6 hb6 hr7 hw7 hnl
      go_wp2
      go_roundw
      case rel => exact ⟨i + 1, r7, bs ++ [r4], by omega, by go_num, rfl, H8.out.2.2.2, H8.out.2.2.1, H8.out.1, H8.out.2.1⟩
      case measure => simp [intOf]; omega
    · obtain rfl : i = 5 := by omega
      go_wp2
      go_ret
      exact ⟨av, capv, bs, by rw [HNN.out.2]; rfl, by have := HO.out; rwa [HNN.out.2] at this, HS.out, HB.out⟩
end Go.Proofs.YtnfpnmfgppamgaaGreat
