/-
  The walk of Pick.
-/
import Derived.Test.YtnfpnmfgppamgaaGreatPkC
namespace Go.Proofs.YtnfpnmfgppamgaaGreat
open Go.RowKit

def one64 : Nat := 4607182418800017408
def ge1 (b : Nat) : Bool := Ieee.double.order b one64 == some .gt || Ieee.double.order b one64 == some .eq
def gtF (a b : Nat) : Bool := Ieee.double.order a b == some .gt
/-- The level of the greatest score of the first n that are 1 at least, and this score. -/
def pkSt (f : Nat → Nat) : Nat → Int × Nat
  | 0 => (-1, one64)
  | n + 1 => if ge1 (f n) && (decide ((pkSt f n).1 < 0) || gtF (f n) (pkSt f n).2) then ((n : Int), f n) else pkSt f n
theorem ge1_no {s : Nat} (h : ge1 s = false) : FloatKind.f64.format.order s 4607182418800017408 = none ∨ FloatKind.f64.format.order s 4607182418800017408 = some .lt := by
  unfold ge1 one64 at h
  change (FloatKind.f64.format.order s 4607182418800017408 == some .gt || FloatKind.f64.format.order s 4607182418800017408 == some .eq) = false at h
  cases e : FloatKind.f64.format.order s 4607182418800017408 with
  | none => exact .inl rfl
  | some o => rw [e] at h; cases o <;> first | exact .inr rfl | exact absurd h (by decide)
theorem ge1_yes {s : Nat} (h : ge1 s = true) : FloatKind.f64.format.order s 4607182418800017408 = some .gt ∨ FloatKind.f64.format.order s 4607182418800017408 = some .eq := by
  unfold ge1 one64 at h
  change (FloatKind.f64.format.order s 4607182418800017408 == some .gt || FloatKind.f64.format.order s 4607182418800017408 == some .eq) = true at h
  simpa using h
theorem gtF_yes {s t : Nat} (h : gtF s t = true) : FloatKind.f64.format.order s t = some .gt := by
  unfold gtF at h
  change (FloatKind.f64.format.order s t == some .gt) = true at h
  simpa using h
theorem gtF_no {s t : Nat} (h : gtF s t = false) : FloatKind.f64.format.order s t = none ∨ FloatKind.f64.format.order s t = some .lt ∨ FloatKind.f64.format.order s t = some .eq := by
  unfold gtF at h
  change (FloatKind.f64.format.order s t == some .gt) = false at h
  cases e : FloatKind.f64.format.order s t with
  | none => exact .inl rfl
  | some o => rw [e] at h; cases o <;> first | exact .inr (.inl rfl) | exact .inr (.inr rfl) | exact absurd h (by decide)
theorem pkSt_next {f : Nat → Nat} {n s best : Nat} {lv : Int} (h : lv = (pkSt f n).1 ∧ best = (pkSt f n).2) (hs : s = f n) (hc : ge1 s = true ∧ (lv < 0 ∨ gtF s best = true)) : (n : Int) = (pkSt f (n + 1)).1 ∧ s = (pkSt f (n + 1)).2 := by
  unfold pkSt
  rw [← h.1, ← h.2, ← hs, if_pos (by simp [hc.1, hc.2])]
  exact ⟨rfl, rfl⟩
theorem pkSt_stay {f : Nat → Nat} {n s best : Nat} {lv : Int} (h : lv = (pkSt f n).1 ∧ best = (pkSt f n).2) (hs : s = f n) (hc : ge1 s = false ∨ (¬ lv < 0 ∧ gtF s best = false)) : lv = (pkSt f (n + 1)).1 ∧ best = (pkSt f (n + 1)).2 := by
  unfold pkSt
  rw [← h.1, ← h.2, ← hs, if_neg (by rcases hc with hc | ⟨hc, hd⟩ <;> simp_all)]
  exact h
theorem ge1_congr {a b : Nat} (h : FEq a b) : ge1 a = ge1 b := by unfold ge1; rw [order_congr h (.refl _)]
theorem gtF_congr {a a' b b' : Nat} (h : FEq a a') (k : FEq b b') : gtF a b = gtF a' b' := by unfold gtF; rw [order_congr h k]
theorem pkSt_congr {f g : Nat → Nat} : ∀ n, (∀ j, j < n → FEq (f j) (g j)) → (pkSt f n).1 = (pkSt g n).1 ∧ FEq (pkSt f n).2 (pkSt g n).2
  | 0, _ => ⟨rfl, .refl _⟩
  | n + 1, h => by
    obtain ⟨h1, h2⟩ := pkSt_congr n (fun j hj => h j (by omega))
    have hn := h n (by omega)
    unfold pkSt
    rw [ge1_congr hn, h1, gtF_congr hn h2]
    split
    · exact ⟨rfl, hn⟩
    · exact ⟨h1, h2⟩
theorem pkSt_bd (f : Nat → Nat) : ∀ n, -1 ≤ (pkSt f n).1 ∧ (pkSt f n).1 < n
  | 0 => by simp [pkSt]
  | n + 1 => by
    have := pkSt_bd f n
    unfold pkSt
    split
    · simp; omega
    · omega

/-- The least first key, the greatest last one. -/
def loF (p : ByteArray) (K : List Fi) : ByteArray := K.foldl (fun m y => if kcmp y.f m < 0 then y.f else m) p
def hiF (p : ByteArray) (K : List Fi) : ByteArray := K.foldl (fun m y => if 0 < kcmp y.l m then y.l else m) p
theorem loF_snoc (K : List Fi) (i : Nat) (hi : i < K.length) (p : ByteArray) : loF p (K.take (i + 1)) = if kcmp K[i].f (loF p (K.take i)) < 0 then K[i].f else loF p (K.take i) := by
  unfold loF; rw [List.take_succ_eq_append_getElem hi, List.foldl_append]; rfl
theorem hiF_snoc (K : List Fi) (i : Nat) (hi : i < K.length) (p : ByteArray) : hiF p (K.take (i + 1)) = if 0 < kcmp K[i].l (hiF p (K.take i)) then K[i].l else hiF p (K.take i) := by
  unfold hiF; rw [List.take_succ_eq_append_getElem hi, List.foldl_append]; rfl
/-- Which of a level are taken. -/
def inK (lv : Int) : List Fi → List Fi
  | [] => []
  | x :: K => if 0 < lv then [minF x K] else x :: K
/-- What of the next level goes with them. -/
def numsK (L : List Fi) (lv : Int) : List Fi → List Int
  | [] => []
  | x :: K => (x :: K).map (·.nu) ++ ovL L (lv + 1) (loF x.f (x :: K)) (hiF x.l (x :: K))
/-- What Pick answers. -/
def pickOf (L : List Fi) (base ratio : Nat) : Int × List Int × Bool :=
  let lv := (pkSt (sc L base ratio) 6).1
  if lv < 0 ∨ ofL L lv = [] then (0, [], false) else (lv, numsK L lv (inK lv (ofL L lv)), true)

theorem OwnR.cell {w : World} {B n cap : Nat} {a : Option Addr} {bs : List Nat} (h : OwnR w B (.slice a n cap) bs) (hn : 0 < bs.length) : ∃ g, a = some ⟨g, 0, none⟩ ∧ g < w.heap.size ∧ B ≤ g ∧ ∀ j, j < bs.length → w.cell? ⟨g, j, none⟩ = some (.float .f64 (bs.getD j 0)) := by
  have h0 := h
  obtain ⟨h1, h2⟩ := h
  rcases h2 with ⟨_, h3⟩ | ⟨g, cap', cur, h2, hg, hh, hn', hc, hcl, htk⟩
  · omega
  · cases h2
    refine ⟨g, rfl, (Array.getElem?_eq_some_iff.1 hh).1, hg, fun j hj => ?_⟩
    rw [h0.cellAt j (by omega)]
    simp [rCells, hj]

theorem eInt_nums (l : List Int) : l.flatMap (fun k => [Value.int .i64 k]) = iCells l := by
  unfold iCells
  induction l with
  | nil => rfl
  | cons x l ih => rw [List.flatMap_cons, ih]; rfl
theorem Fi.here.grown {w w' : World} {b off : Nat} {x : Fi} {row : Option Nat} (h : x.here w b off) (hg : w.grownBy w' row) (hne : ∀ q, row = some q → q ≠ b) : x.here w' b off := by
  have tn : Tn (fun q => row = some q) w w' := Tn.ofGrown hg (fun q e => e)
  exact ⟨tn.cell h.c0 (fun e => hne b e rfl), tn.cell h.c1 (fun e => hne b e rfl), tn.cell h.c2 (fun e => hne b e rfl), tn.cell h.c3 (fun e => hne b e rfl), tn.cell h.c4 (fun e => hne b e rfl), tn.cell h.c5 (fun e => hne b e rfl)⟩
theorem grown4 {w w' : World} {b : Nat} {x : Fi} {row : Option Nat} (h : x.here w b 0) (hg : w.grownBy w' row) (hne : ∀ q, row = some q → q ≠ b) : w'.cell? ⟨b, 4, none⟩ = some (.string x.f) := (h.grown hg hne).c4
theorem grown5 {w w' : World} {b : Nat} {x : Fi} {row : Option Nat} (h : x.here w b 0) (hg : w.grownBy w' row) (hne : ∀ q, row = some q → q ≠ b) : w'.cell? ⟨b, 5, none⟩ = some (.string x.l) := (h.grown hg hne).c5
section
variable {w : World} {ops : Array Oper} {rest : List Oper} {o : Oper} {a : Act} {Q : Exit → Act → World → Prop}
/-- append of one number, and what block it writes. -/
theorem wpl_app_i2 (hgd : o.guard = none) (s x : Operand) (ho : o.op = .call { callee := .builtin .append, args := #[s, x], argTypes := #[45, 45] })
    (B : Nat) (v : Value) (l : List Int) (hs : a.eval s = v) (hown : OwnI w B v l) (g : Nat) (k : Int) (hx : a.eval x = .slice (some ⟨g, 0, none⟩) 1 1) (hnew : w.cell? ⟨g, 0, none⟩ = some (.int .i64 k)) (hlen : l.length ≤ 1000000) (hB : B ≤ w.heap.size)
    (h : ∀ a' cap w', OwnI w' B (.slice a' (l.length + 1) cap) (l ++ [k]) → Below B w w' → w.grownBy w' v.ownBlock → wpList Tryz.prog ops Q rest (a.put o.dst (.slice a' (l.length + 1) cap)) w') :
    wpList Tryz.prog ops Q (o :: rest) a w := by
  obtain ⟨i0, hi0, hz0, hs0, hy0⟩ := info_parts info_int
  refine wpList_append_own_at _ hgd s x 45 ho B 3 i0 (.int .i64 0) 1 8 Tryz.underlying45 hi0 hz0 hs0 hy0 rfl (by decide) v l.length (iCells l) hs hown ⟨g, 0, none⟩ 1 1 [.int .i64 k] hx rfl ?_ (by intro u hu; rw [List.mem_singleton] at hu; subst hu; rfl) (by unfold maxLen; omega) (by omega) hB ?_
  · intro j u hj
    match j, hj with
    | 0, hj => simp at hj; subst hj; exact hnew
  · intro v' w' h2 hg _ _
    have h2' : OwnI w' B v' (l ++ [k]) := by
      show w'.ownsRow B _ 1 v' _ _
      rw [List.length_append]
      simpa [iCells] using h2
    obtain ⟨a', cap, hv, _, _⟩ := row_form h2'
    rw [List.length_append] at hv
    subst hv
    exact h a' cap w' h2' (below_grown hown hg hB) hg
end
/-- Numbers, as elements. -/
theorem eInt : Elm Tryz.prog 45 3 1 8 (fun k : Int => [.int .i64 k]) where
  und := Tryz.underlying45
  info := by
    obtain ⟨i0, hi0, hz0, hs0, hy0⟩ := info_parts info_int
    exact ⟨i0, _, hi0, hz0, hs0, hy0, rfl⟩
  pos := by decide
  few := by decide
  len _ := rfl
  one := by
    intro x u hu
    rw [List.mem_singleton] at hu
    subst hu
    rfl
theorem OwnI.own {w : World} {B : Nat} {v : Value} {l : List Int} (h : OwnI w B v l) : Own eInt w B v l := by
  show w.ownsRow B _ 1 v _ _
  rw [eInt_nums]
  exact h
theorem Own.ints {w : World} {B : Nat} {v : Value} {l : List Int} (h : Own eInt w B v l) : OwnI w B v l := by
  have h2 : w.ownsRow B _ 1 v _ _ := h
  rw [eInt_nums] at h2
  exact h2
theorem ovL_len (L : List Fi) (lv : Int) (p q : ByteArray) : (ovL L lv p q).length ≤ L.length := by
  have h := ov_len (ofL L lv) p q
  have h2 := ofL_len L lv
  unfold ovL
  unfold ov at h
  omega

set_option maxRecDepth 100000 in
set_option maxHeartbeats 2000000 in
theorem pick_any {w : World} {a : Option Addr} {L : List Fi} (hL : FilesAt w a L) (cap : Nat) (hlen : L.length ≤ 100000) (base ratio : Nat) :
    Calls Tryz.prog 8 #[.slice a L.length cap, .float .f64 base, .float .f64 ratio] w fun e w' =>
      ∃ a' cap', e = .returned (.tuple #[.int .i64 (pickOf L base ratio).1, .slice a' (pickOf L base ratio).2.1.length cap', .bool (pickOf L base ratio).2.2]) ∧ OwnI w' w.heap.size (.slice a' (pickOf L base ratio).2.1.length cap') (pickOf L base ratio).2.1 ∧ Below w.heap.size w w' := by
  have HL := Lib.hid hL
  have HLN := Lib.hid hlen
  have hsc := scores_any hL cap hlen base ratio
  have HSC := Lib.hid hsc
  obtain ⟨len, hl⟩ : ∃ len, len = L.length := ⟨_, rfl⟩
  rw [← hl] at hlen HSC ⊢
  have HN := Lib.hid hl
  clear hsc hL hl
  go_enter Tryz.func8, Tryz.ntmps8
  go_wp2_with fail
  refine HSC.out.mono ?_
  rintro _ w1 ⟨a1, cap1, bs, rfl, hown1, hsd, hb1⟩
  simp only []
  have hbl := hsd.1
  obtain ⟨g1, rfl, hg1, hB1, hc1⟩ := OwnR.cell hown1 (by omega)
  rw [hbl] at hc1
  have HC1 := Lib.hid hc1
  have HSD := Lib.hid hsd
  have HB1 := Lib.hid hb1
  clear hown1 hsd hb1 hbl hc1
  go_wp2
  go_loop [9, 10, 24] (fun lv best y => ∃ i : Nat, i ≤ 6 ∧ y = .int .i64 (i : Int) ∧ lv = .int .i64 (pkSt (fun j => bs.getD j 0) i).1 ∧ best = .float .f64 (pkSt (fun j => bs.getD j 0) i).2) (fun _ _ y => 6 - (intOf y).toNat)
  case atStart => exact ⟨0, by omega, rfl, rfl, rfl⟩
  case round =>
    obtain ⟨i, hi, rfl, rfl, rfl⟩ := hrel
    have hbd := pkSt_bd (fun j => bs.getD j 0) i
    obtain ⟨lv, hlv⟩ : ∃ lv, lv = (pkSt (fun j => bs.getD j 0) i).1 := ⟨_, rfl⟩
    obtain ⟨best, hbest⟩ : ∃ best, best = (pkSt (fun j => bs.getD j 0) i).2 := ⟨_, rfl⟩
    rw [← hlv] at hbd
    rw [← hlv, ← hbest]
    have HLV := Lib.hid (And.intro hlv hbest)
    clear hlv hbest
    by_cases hlt : i < 6
    · have hcell := HC1.out i hlt
      obtain ⟨s, hs⟩ : ∃ s, s = bs.getD i 0 := ⟨_, rfl⟩
      rw [← hs] at hcell
      have HS := Lib.hid hs
      clear hs
      obtain ⟨hbd1, hbd2⟩ := hbd
      by_cases hg : ge1 s = true
      · have hg2 := ge1_yes hg
        by_cases hl0 : lv < 0
        · have HNX := Lib.hid (pkSt_next HLV.out HS.out ⟨hg, .inl hl0⟩)
          have t1 : decide (lv < 0) = true := by simpa using hl0
          clear hg
          rcases hg2 with e1 | e1
          all_goals
            go_wp2
            go_round
            case rel => exact ⟨i + 1, by omega, by go_num, by rw [← HNX.out.1], by rw [← HNX.out.2]⟩
            case measure => simp [intOf]; omega
        · by_cases ht : gtF s best = true
          · have HNX := Lib.hid (pkSt_next HLV.out HS.out ⟨hg, .inr ht⟩)
            have t1 : decide (lv < 0) = false := by simpa using hl0
            have e2 := gtF_yes ht
            clear hg ht
            rcases hg2 with e1 | e1
            all_goals
              go_wp2
              go_round
              case rel => exact ⟨i + 1, by omega, by go_num, by rw [← HNX.out.1], by rw [← HNX.out.2]⟩
              case measure => simp [intOf]; omega
          · have ht' : gtF s best = false := by simpa using ht
            have HNX := Lib.hid (pkSt_stay HLV.out HS.out (.inr ⟨hl0, ht'⟩))
            have t1 : decide (lv < 0) = false := by simpa using hl0
            have e2 := gtF_no ht'
            clear hg ht ht'
            rcases hg2 with e1 | e1
            all_goals
              rcases e2 with e2 | e2 | e2
              all_goals
                go_wp2
                go_round
                case rel => exact ⟨i + 1, by omega, by go_num, by rw [← HNX.out.1], by rw [← HNX.out.2]⟩
                case measure => simp [intOf]; omega
      · have hg' : ge1 s = false := by simpa using hg
        have HNX := Lib.hid (pkSt_stay HLV.out HS.out (.inl hg'))
        have e2 := ge1_no hg'
        clear hg hg'
        rcases e2 with e2 | e2
        all_goals
          go_wp2
          go_round
          case rel => exact ⟨i + 1, by omega, by go_num, by rw [← HNX.out.1], by rw [← HNX.out.2]⟩
          case measure => simp [intOf]; omega
    · obtain rfl : i = 6 := by omega
      have hfin := pkSt_congr 6 HSD.out.2
      have hlv : lv = (pkSt (sc L base ratio) 6).1 := by rw [HLV.out.1]; exact hfin.1
      have HLV2 := Lib.hid hlv
      have hof := of_any (HL.out.below HB1.out) cap HLN.out lv
      rw [← HN.out] at hof
      have HOF := Lib.hid hof
      obtain ⟨hbd1, hbd2⟩ := hbd
      clear hfin hlv hof
      go_wp2_with fail
      refine HOF.out.mono ?_
      rintro _ w2 ⟨a2, cap2, rfl, hown2, hb2⟩
      simp only []
      have HB2 := Lib.hid (HB1.out.trans (hb2.mono HB1.out.size))
      obtain ⟨K, hK⟩ : ∃ K, K = ofL L lv := ⟨_, rfl⟩
      rw [← hK] at hown2 ⊢
      have hkl : K.length ≤ 100000 := by rw [hK]; exact Nat.le_trans (ofL_len _ _) HLN.out
      have hat := hown2.at_.2
      have HK := Lib.hid (And.intro hK (And.intro hkl hat))
      clear hown2 hb2 hK hat
      by_cases hneg : lv < 0
      · have t1 : decide (lv < 0) = true := by simpa using hneg
        have HP : Hid (pickOf L base ratio = (0, [], false)) := by
          unfold Hid pickOf
          simp only []
          rw [← HLV2.out, if_pos (.inl hneg)]
        clear hneg
        go_wp2
        go_ret3
        rw [HP.out]
        exact ⟨none, 0, rfl, World.ownsRow_nil _ _ _ _, HB2.out⟩
      · have t1 : decide (lv < 0) = false := by simpa using hneg
        cases K with
        | nil =>
          have HP : Hid (pickOf L base ratio = (0, [], false)) := by
            unfold Hid pickOf
            simp only []
            rw [← HLV2.out, if_pos (.inr HK.out.1.symm)]
          go_wp2
          go_ret3
          rw [HP.out]
          exact ⟨none, 0, rfl, World.ownsRow_nil _ _ _ _, HB2.out⟩
        | cons x K =>
          have HP : Hid (pickOf L base ratio = (lv, numsK L lv (inK lv (x :: K)), true)) := by
            unfold Hid pickOf
            simp only []
            rw [← HLV2.out, ← HK.out.1, if_neg (by rintro (h | h); exact hneg h; cases h)]
          have hmin := min_any HK.out.2.2 cap2 (Nat.le_trans (Nat.le_succ _) hkl)
          rw [List.length_cons] at hmin
          unfold Fi.val at hmin
          have HMIN := Lib.hid hmin
          rw [List.length_cons]
          rw [List.length_cons] at hkl
          obtain ⟨m, hm⟩ : ∃ m, m = K.length := ⟨_, rfl⟩
          rw [← hm] at HMIN hkl ⊢
          have HM := Lib.hid hm
          clear hmin hm hneg
          have t3 : ((m : Int) + 1 == 0) = false := by simp; omega
          by_cases hpos : 0 < lv
          · have t2 : decide (0 < lv) = true := by simpa using hpos
            go_wp2_with fail
            refine HMIN.out.mono ?_
            rintro _ w3 ⟨rfl, hb3⟩
            simp only []
            obtain ⟨y, hy⟩ : ∃ y, y = minF x K := ⟨_, rfl⟩
            rw [← hy]
            obtain ⟨W4, hW4⟩ : ∃ W4, w3.alloc (.cells #[.int .i64 y.lv, .int .i64 y.nu, .int .i64 y.ct, .int .i64 y.sz, .string y.f, .string y.l] 57) = W4 := ⟨_, rfl⟩
            have hb4 : Below w.heap.size w W4 := by rw [← hW4]; exact (HB2.out.trans (hb3.mono HB2.out.size)).alloc ((HB2.out.trans (hb3.mono HB2.out.size)).size) _
            have hh4 : y.here W4 w3.heap.size 0 := by rw [← hW4]; exact here_of_block (blk_new _ _)
            have hP4 : pickOf L base ratio = (lv, numsK L lv [y], true) := by rw [HP.out, hy]; simp only [inK, if_pos hpos]
            obtain ⟨c0, c1, c2, c3, c4, c5⟩ := hh4
            obtain ⟨b4, hb4e⟩ : ∃ b4, b4 = w3.heap.size := ⟨_, rfl⟩
            have HP4 := Lib.hid hP4
            have hels : ∀ i (hi : i < [y].length), [y][i].here W4 b4 (0 + i * 6) := by
              intro i hi
              obtain rfl : i = 0 := by simpa using hi
              rw [hb4e]
              exact ⟨c0, c1, c2, c3, c4, c5⟩
            have HK4 := Lib.hid (And.intro hb4 (And.intro (rfl : ([y] : List Fi).length = 1) hels))
            clear hb3 hb4 hP4 hy hpos hels
            go_wp2
            rw [← hb4e]
            clear hb4e
            have hel := HK4.out.2.2
            have HTL : Hid (∀ (W : World), Below w.heap.size w W → ∀ p q, Calls Tryz.prog 7 #[.slice a len cap, .int .i64 (lv + 1), .string p, .string q] W fun e w' => ∃ a' cap', e = .returned (.slice a' (ovL L (lv + 1) p q).length cap') ∧ OwnI w' W.heap.size (.slice a' (ovL L (lv + 1) p q).length cap') (ovL L (lv + 1) p q) ∧ Below W.heap.size W w') := fun W hb p q => by
              have h := overlap_any (HL.out.below hb) cap HLN.out (lv + 1) p q
              rw [← HN.out] at h
              exact h
            have q0 := (hel 0 (by simp)).c4
            have q1 := (hel 0 (by simp)).c5
            simp only [Nat.zero_mul, Nat.add_zero, List.getElem_cons_zero] at q0 q1
            have r1 : (0 : Int) < (1 : Int) := by omega
            have r2 : 0 < 1 := by omega
            clear hel
            go_wp2
            go_quiet (fail)
            rename_i nq
            have hbq : Below w.heap.size w (W4.drewN nq) := below_drewN HK4.out.1 _
            have helq : ∀ i (hi : i < [y].length), [y][i].here (W4.drewN nq) b4 (0 + i * 6) := fun i hi => (HK4.out.2.2 i hi).below (below_drewN (Below.refl W4.heap.size W4) nq) (World.block_lt_of_cell? _ _ (HK4.out.2.2 i hi).c0)
            have HQ := Lib.hid (And.intro hbq helq)
            obtain ⟨W5, hW5⟩ : ∃ W5, W5 = W4.drewN nq := ⟨_, rfl⟩
            rw [← hW5] at HQ ⊢
            clear hbq helq hW5 q0 q1
            go_wp2
            go_loopw [14, 15, 16, 68] (fun f l v i wr => ∃ j : Nat, j ≤ 1 ∧ i = .int .i64 (j : Int) ∧ f = .string (loF y.f ([y].take j)) ∧ l = .string (hiF y.l ([y].take j)) ∧ OwnI wr W5.heap.size v (([y].take j).map (·.nu)) ∧ Below W5.heap.size W5 wr) (fun _ _ _ i _ => 1 - (intOf i).toNat)
            case atStart => exact ⟨0, by omega, rfl, rfl, rfl, World.ownsRow_nil _ _ _ _, Below.refl _ _⟩
            case round =>
              obtain ⟨j, hj, rfl, rfl, rfl, hown, hbel5⟩ := hrel
              obtain ⟨av, capv, rfl, _, _⟩ := row_form hown
              obtain ⟨R, hR⟩ : ∃ R, R = ([y].take j).map (·.nu) := ⟨_, rfl⟩
              rw [← hR] at hown ⊢
              obtain ⟨rn, hrn⟩ : ∃ rn, rn = R.length := ⟨_, rfl⟩
              have hrl : R.length ≤ 100001 := by rw [hR, List.length_map, List.length_take]; omega
              obtain ⟨fk, hfk⟩ : ∃ fk, fk = loF y.f ([y].take j) := ⟨_, rfl⟩
              obtain ⟨lk, hlk⟩ : ∃ lk, lk = hiF y.l ([y].take j) := ⟨_, rfl⟩
              rw [← hfk, ← hlk]
              have HO := Lib.hid hown
              have HB := Lib.hid hbel5
              have HR := Lib.hid (And.intro hR (And.intro hfk hlk))
              have HRL := Lib.hid hrl
              clear hown hbel5 hfk hlk
              by_cases hlt : j < 1
              · have hjl : j < [y].length := by simpa using hlt
                have hx := (HQ.out.2 j hjl).below HB.out (World.block_lt_of_cell? _ _ (HQ.out.2 j hjl).c0)
                have hst1 := loF_snoc [y] j hjl y.f
                have hst2 := hiF_snoc [y] j hjl y.l
                have hst3 : ([y].take (j + 1)).map (·.nu) = R ++ [[y][j].nu] := by rw [hR, List.take_succ_eq_append_getElem hjl, List.map_append]; rfl
                try simp only [Nat.zero_add] at hx
                obtain ⟨z, hz⟩ : ∃ z, [y][j] = z := ⟨_, rfl⟩
                rw [hz] at hx hst1 hst2 hst3
                rw [← HR.out.2.1] at hst1
                rw [← HR.out.2.2] at hst2
                have HST := Lib.hid (And.intro hst1 (And.intro hst2 hst3))
                rw [← hrn]
                rw [← hrn] at HO
                have HRN := Lib.hid hrn
                obtain ⟨c0, c1, c2, c3, c4, c5⟩ := hx
                clear hz hst1 hst2 hst3 hrn hR hrl
                obtain ⟨W1, hW1⟩ : ∃ W1, wr.alloc (.cells #[.int .i64 z.lv, .int .i64 z.nu, .int .i64 z.ct, .int .i64 z.sz, .string z.f, .string z.l] 57) = W1 := ⟨_, rfl⟩
                have hs1 : W1.heap.size = wr.heap.size + 1 := by rw [← hW1]; simp
                have k0 : W1.cell? ⟨wr.heap.size, 0, none⟩ = some (.int .i64 z.lv) := by rw [← hW1]; simp [go_sem]
                have k1 : W1.cell? ⟨wr.heap.size, 1, none⟩ = some (.int .i64 z.nu) := by rw [← hW1]; simp [go_sem]
                have k4 : W1.cell? ⟨wr.heap.size, 4, none⟩ = some (.string z.f) := by rw [← hW1]; simp [go_sem]
                have k5 : W1.cell? ⟨wr.heap.size, 5, none⟩ = some (.string z.l) := by rw [← hW1]; simp [go_sem]
                have hd5 : Below W5.heap.size W5 W1 := by rw [← hW1]; exact HB.out.alloc HB.out.size _
                have ho1 : OwnI W1 W5.heap.size (.slice av rn capv) R := by rw [← hW1]; exact World.ownsRow.alloc HO.out _
                obtain ⟨W2, hW2⟩ : ∃ W2, W1.alloc (.cells #[.int .i64 z.nu] 3) = W2 := ⟨_, rfl⟩
                have hr2 : OwnI W2 W5.heap.size (.slice av rn capv) R := by rw [← hW2]; exact World.ownsRow.alloc ho1 _
                have hb25 : Below W5.heap.size W5 W2 := by rw [← hW2]; exact hd5.alloc hd5.size _
                have hnew : W2.cell? ⟨wr.heap.size + 1, 0, none⟩ = some (.int .i64 z.nu) := by rw [← hW2, ← hs1]; simp [go_sem]
                have H2 := Lib.hid (And.intro hr2 (And.intro hb25 hnew))
                have hhz : z.here W2 wr.heap.size 0 := by rw [← hW2]; exact Fi.here.below (n := W1.heap.size) (by rw [← hW1]; exact here_of_block (blk_new _ _)) ((Below.refl _ _).alloc (Nat.le_refl _) _) (by rw [hs1]; omega)
                have HHZ := Lib.hid hhz
                clear hd5 ho1 hr2 hb25 hnew hhz
                have hne : ∀ q, (Value.slice av rn capv).ownBlock = some q → q ≠ wr.heap.size := fun q hq => by have := (HO.out.lt q hq).2; omega
                have HNE := Lib.hid hne
                clear hne
                go_wp2_with (first | (go_at_call 22; refine (compare_any _ _ _).mono ?_; rintro e w' ⟨rfl, rfl⟩) | (at_builtin; refine wpl_app_i2 rfl _ _ rfl W5.heap.size (.slice av rn capv) R rfl H2.out.1 (wr.heap.size + 1) z.nu rfl H2.out.2.2 (by have := HRL.out; omega) H2.out.2.1.size ?_; intro a3 cap3 w3 ho3 hb3 hg3; have e4 := grown4 HHZ.out hg3 HNE.out; have e5 := grown5 HHZ.out hg3 HNE.out; have H3 := Lib.hid (And.intro ho3 (H2.out.2.1.trans hb3)); clear ho3 hb3 hg3))
                all_goals
                  go_roundw
                  case rel =>
                    refine ⟨j + 1, by omega, by go_num, ?_, ?_, by rw [HST.out.2.2]; exact H3.out.1, H3.out.2⟩
                    · first | (rw [HST.out.1, if_pos (by assumption)]) | (rw [HST.out.1, if_neg (by first | assumption | omega)])
                    · first | (rw [HST.out.2.1, if_pos (by assumption)]) | (rw [HST.out.2.1, if_neg (by first | assumption | omega)])
                  case measure => simp [intOf]; omega
              · obtain rfl : j = 1 := by omega
                have hend : R = [y].map (·.nu) ∧ fk = loF y.f [y] ∧ lk = hiF y.l [y] := by
                  have e : [y].take (1) = [y] := List.take_of_length_le (by simp)
                  exact ⟨by rw [HR.out.1, e], by rw [HR.out.2.1, e], by rw [HR.out.2.2, e]⟩
                have HE := Lib.hid hend
                rw [← hrn]
                rw [← hrn] at HO
                have HRN := Lib.hid hrn
                have HBW := Lib.hid (HQ.out.1.trans (HB.out.mono HQ.out.1.size))
                have hlb : lv + 1 ≤ 100 := by omega
                have hla : 0 ≤ lv := by simpa using t1
                have hHT := HTL.out wr HBW.out fk lk
                have hov := ovL_len L (lv + 1) fk lk
                have HOVL := Lib.hid (Nat.le_trans hov HLN.out)
                obtain ⟨ovn, hovn⟩ : ∃ ovn, ovn = (ovL L (lv + 1) fk lk).length := ⟨_, rfl⟩
                rw [← hovn] at hHT
                have HHT := Lib.hid hHT
                have HOVN := Lib.hid hovn
                clear hend hrn hR hrl hHT hov hovn
                go_wp2_with fail
                refine HHT.out.mono ?_
                rintro _ w6 ⟨a6, cap6, rfl, ho6, hb6⟩
                simp only []
                have hO6 : OwnI w6 w.heap.size (.slice av rn capv) R := row_mono (row_below HO.out hb6) HQ.out.1.size
                have hs6 : Src eInt w6 (.slice a6 ovn cap6) (ovL L (lv + 1) fk lk) := (OwnI.own ho6).src
                have H6 := Lib.hid (And.intro hO6.own (And.intro hs6 (HBW.out.trans (hb6.mono HBW.out.size))))
                clear hO6 hs6 hb6 ho6
                go_wp2_with (at_builtin; refine wpl_app eInt rfl _ _ rfl rfl rfl H6.out.1 H6.out.2.1 (by have := HRL.out; have := HOVL.out; omega) H6.out.2.2.size ?_; intro a7 cap7 w7 ho7 hb7 _ _; have H7 := Lib.hid (And.intro ho7 hb7); clear ho7 hb7)
                go_ret3
                have hres : pickOf L base ratio = (lv, R ++ ovL L (lv + 1) fk lk, true) := by
                  rw [HP4.out, HE.out.1, HE.out.2.1, HE.out.2.2]
                  rfl
                rw [hres]
                refine ⟨a7, cap7, ?_, ?_, H6.out.2.2.trans H7.out.2⟩
                · simp only [List.length_append]; rfl
                · have := H7.out.1.ints
                  rw [List.length_append]
                  exact this
          · have t2 : decide (0 < lv) = false := by simpa using hpos
            have hP4 : pickOf L base ratio = (lv, numsK L lv (x :: K), true) := by rw [HP.out]; simp only [inK, if_neg hpos]
            have HP4 := Lib.hid hP4
            obtain ⟨b4, o4, rfl, hblt, hels⟩ : ∃ b off, a2 = some ⟨b, off, none⟩ ∧ b < w2.heap.size ∧ ∀ i (hi : i < (x :: K).length), (x :: K)[i].here w2 b (off + i * 6) := by
              rcases HK.out.2.2 with h | h
              · cases h
              · exact h
            have HK4 := Lib.hid (And.intro HB2.out (And.intro (show (x :: K).length = m + 1 by rw [List.length_cons, HM.out]) hels))
            clear hP4 hpos hels hblt
            have hel := HK4.out.2.2
            have HTL : Hid (∀ (W : World), Below w.heap.size w W → ∀ p q, Calls Tryz.prog 7 #[.slice a len cap, .int .i64 (lv + 1), .string p, .string q] W fun e w' => ∃ a' cap', e = .returned (.slice a' (ovL L (lv + 1) p q).length cap') ∧ OwnI w' W.heap.size (.slice a' (ovL L (lv + 1) p q).length cap') (ovL L (lv + 1) p q) ∧ Below W.heap.size W w') := fun W hb p q => by
              have h := overlap_any (HL.out.below hb) cap HLN.out (lv + 1) p q
              rw [← HN.out] at h
              exact h
            have q0 := (hel 0 (by simp)).c4
            have q1 := (hel 0 (by simp)).c5
            simp only [Nat.zero_mul, Nat.add_zero, List.getElem_cons_zero] at q0 q1
            have r1 : (0 : Int) < (m : Int) + 1 := by omega
            have r2 : 0 < (m + 1) := by omega
            clear hel
            go_wp2
            go_quiet (fail)
            rename_i nq
            have hbq : Below w.heap.size w (w2.drewN nq) := below_drewN HK4.out.1 _
            have helq : ∀ i (hi : i < (x :: K).length), (x :: K)[i].here (w2.drewN nq) b4 (o4 + i * 6) := fun i hi => (HK4.out.2.2 i hi).below (below_drewN (Below.refl w2.heap.size w2) nq) (World.block_lt_of_cell? _ _ (HK4.out.2.2 i hi).c0)
            have HQ := Lib.hid (And.intro hbq helq)
            obtain ⟨W5, hW5⟩ : ∃ W5, W5 = w2.drewN nq := ⟨_, rfl⟩
            rw [← hW5] at HQ ⊢
            clear hbq helq hW5 q0 q1
            go_wp2
            go_loopw [14, 15, 16, 68] (fun f l v i wr => ∃ j : Nat, j ≤ (m + 1) ∧ i = .int .i64 (j : Int) ∧ f = .string (loF x.f ((x :: K).take j)) ∧ l = .string (hiF x.l ((x :: K).take j)) ∧ OwnI wr W5.heap.size v (((x :: K).take j).map (·.nu)) ∧ Below W5.heap.size W5 wr) (fun _ _ _ i _ => (m + 1) - (intOf i).toNat)
            case atStart => exact ⟨0, by omega, rfl, rfl, rfl, World.ownsRow_nil _ _ _ _, Below.refl _ _⟩
            case round =>
              obtain ⟨j, hj, rfl, rfl, rfl, hown, hbel5⟩ := hrel
              obtain ⟨av, capv, rfl, _, _⟩ := row_form hown
              obtain ⟨R, hR⟩ : ∃ R, R = ((x :: K).take j).map (·.nu) := ⟨_, rfl⟩
              rw [← hR] at hown ⊢
              obtain ⟨rn, hrn⟩ : ∃ rn, rn = R.length := ⟨_, rfl⟩
              have hrl : R.length ≤ 100001 := by rw [hR, List.length_map, List.length_take]; omega
              obtain ⟨fk, hfk⟩ : ∃ fk, fk = loF x.f ((x :: K).take j) := ⟨_, rfl⟩
              obtain ⟨lk, hlk⟩ : ∃ lk, lk = hiF x.l ((x :: K).take j) := ⟨_, rfl⟩
              rw [← hfk, ← hlk]
              have HO := Lib.hid hown
              have HB := Lib.hid hbel5
              have HR := Lib.hid (And.intro hR (And.intro hfk hlk))
              have HRL := Lib.hid hrl
              clear hown hbel5 hfk hlk
              by_cases hlt : j < (m + 1)
              · have hjl : j < (x :: K).length := by rw [List.length_cons, ← HM.out]; exact hlt
                have hx := (HQ.out.2 j hjl).below HB.out (World.block_lt_of_cell? _ _ (HQ.out.2 j hjl).c0)
                have hst1 := loF_snoc (x :: K) j hjl x.f
                have hst2 := hiF_snoc (x :: K) j hjl x.l
                have hst3 : ((x :: K).take (j + 1)).map (·.nu) = R ++ [(x :: K)[j].nu] := by rw [hR, List.take_succ_eq_append_getElem hjl, List.map_append]; rfl
                try simp only [Nat.zero_add] at hx
                obtain ⟨z, hz⟩ : ∃ z, (x :: K)[j] = z := ⟨_, rfl⟩
                rw [hz] at hx hst1 hst2 hst3
                rw [← HR.out.2.1] at hst1
                rw [← HR.out.2.2] at hst2
                have HST := Lib.hid (And.intro hst1 (And.intro hst2 hst3))
                rw [← hrn]
                rw [← hrn] at HO
                have HRN := Lib.hid hrn
                obtain ⟨c0, c1, c2, c3, c4, c5⟩ := hx
                clear hz hst1 hst2 hst3 hrn hR hrl
                obtain ⟨W1, hW1⟩ : ∃ W1, wr.alloc (.cells #[.int .i64 z.lv, .int .i64 z.nu, .int .i64 z.ct, .int .i64 z.sz, .string z.f, .string z.l] 57) = W1 := ⟨_, rfl⟩
                have hs1 : W1.heap.size = wr.heap.size + 1 := by rw [← hW1]; simp
                have k0 : W1.cell? ⟨wr.heap.size, 0, none⟩ = some (.int .i64 z.lv) := by rw [← hW1]; simp [go_sem]
                have k1 : W1.cell? ⟨wr.heap.size, 1, none⟩ = some (.int .i64 z.nu) := by rw [← hW1]; simp [go_sem]
                have k4 : W1.cell? ⟨wr.heap.size, 4, none⟩ = some (.string z.f) := by rw [← hW1]; simp [go_sem]
                have k5 : W1.cell? ⟨wr.heap.size, 5, none⟩ = some (.string z.l) := by rw [← hW1]; simp [go_sem]
                have hd5 : Below W5.heap.size W5 W1 := by rw [← hW1]; exact HB.out.alloc HB.out.size _
                have ho1 : OwnI W1 W5.heap.size (.slice av rn capv) R := by rw [← hW1]; exact World.ownsRow.alloc HO.out _
                obtain ⟨W2, hW2⟩ : ∃ W2, W1.alloc (.cells #[.int .i64 z.nu] 3) = W2 := ⟨_, rfl⟩
                have hr2 : OwnI W2 W5.heap.size (.slice av rn capv) R := by rw [← hW2]; exact World.ownsRow.alloc ho1 _
                have hb25 : Below W5.heap.size W5 W2 := by rw [← hW2]; exact hd5.alloc hd5.size _
                have hnew : W2.cell? ⟨wr.heap.size + 1, 0, none⟩ = some (.int .i64 z.nu) := by rw [← hW2, ← hs1]; simp [go_sem]
                have H2 := Lib.hid (And.intro hr2 (And.intro hb25 hnew))
                have hhz : z.here W2 wr.heap.size 0 := by rw [← hW2]; exact Fi.here.below (n := W1.heap.size) (by rw [← hW1]; exact here_of_block (blk_new _ _)) ((Below.refl _ _).alloc (Nat.le_refl _) _) (by rw [hs1]; omega)
                have HHZ := Lib.hid hhz
                clear hd5 ho1 hr2 hb25 hnew hhz
                have hne : ∀ q, (Value.slice av rn capv).ownBlock = some q → q ≠ wr.heap.size := fun q hq => by have := (HO.out.lt q hq).2; omega
                have HNE := Lib.hid hne
                clear hne
                go_wp2_with (first | (go_at_call 22; refine (compare_any _ _ _).mono ?_; rintro e w' ⟨rfl, rfl⟩) | (at_builtin; refine wpl_app_i2 rfl _ _ rfl W5.heap.size (.slice av rn capv) R rfl H2.out.1 (wr.heap.size + 1) z.nu rfl H2.out.2.2 (by have := HRL.out; omega) H2.out.2.1.size ?_; intro a3 cap3 w3 ho3 hb3 hg3; have e4 := grown4 HHZ.out hg3 HNE.out; have e5 := grown5 HHZ.out hg3 HNE.out; have H3 := Lib.hid (And.intro ho3 (H2.out.2.1.trans hb3)); clear ho3 hb3 hg3))
                all_goals
                  go_roundw
                  case rel =>
                    refine ⟨j + 1, by omega, by go_num, ?_, ?_, by rw [HST.out.2.2]; exact H3.out.1, H3.out.2⟩
                    · first | (rw [HST.out.1, if_pos (by assumption)]) | (rw [HST.out.1, if_neg (by first | assumption | omega)])
                    · first | (rw [HST.out.2.1, if_pos (by assumption)]) | (rw [HST.out.2.1, if_neg (by first | assumption | omega)])
                  case measure => simp [intOf]; omega
              · obtain rfl : j = (m + 1) := by omega
                have hend : R = (x :: K).map (·.nu) ∧ fk = loF x.f (x :: K) ∧ lk = hiF x.l (x :: K) := by
                  have e : (x :: K).take ((m + 1)) = (x :: K) := List.take_of_length_le (by rw [List.length_cons, ← HM.out]; omega)
                  exact ⟨by rw [HR.out.1, e], by rw [HR.out.2.1, e], by rw [HR.out.2.2, e]⟩
                have HE := Lib.hid hend
                rw [← hrn]
                rw [← hrn] at HO
                have HRN := Lib.hid hrn
                have HBW := Lib.hid (HQ.out.1.trans (HB.out.mono HQ.out.1.size))
                have hlb : lv + 1 ≤ 100 := by omega
                have hla : 0 ≤ lv := by simpa using t1
                have hHT := HTL.out wr HBW.out fk lk
                have hov := ovL_len L (lv + 1) fk lk
                have HOVL := Lib.hid (Nat.le_trans hov HLN.out)
                obtain ⟨ovn, hovn⟩ : ∃ ovn, ovn = (ovL L (lv + 1) fk lk).length := ⟨_, rfl⟩
                rw [← hovn] at hHT
                have HHT := Lib.hid hHT
                have HOVN := Lib.hid hovn
                clear hend hrn hR hrl hHT hov hovn
                go_wp2_with fail
                refine HHT.out.mono ?_
                rintro _ w6 ⟨a6, cap6, rfl, ho6, hb6⟩
                simp only []
                have hO6 : OwnI w6 w.heap.size (.slice av rn capv) R := row_mono (row_below HO.out hb6) HQ.out.1.size
                have hs6 : Src eInt w6 (.slice a6 ovn cap6) (ovL L (lv + 1) fk lk) := (OwnI.own ho6).src
                have H6 := Lib.hid (And.intro hO6.own (And.intro hs6 (HBW.out.trans (hb6.mono HBW.out.size))))
                clear hO6 hs6 hb6 ho6
                go_wp2_with (at_builtin; refine wpl_app eInt rfl _ _ rfl rfl rfl H6.out.1 H6.out.2.1 (by have := HRL.out; have := HOVL.out; omega) H6.out.2.2.size ?_; intro a7 cap7 w7 ho7 hb7 _ _; have H7 := Lib.hid (And.intro ho7 hb7); clear ho7 hb7)
                go_ret3
                have hres : pickOf L base ratio = (lv, R ++ ovL L (lv + 1) fk lk, true) := by
                  rw [HP4.out, HE.out.1, HE.out.2.1, HE.out.2.2]
                  rfl
                rw [hres]
                refine ⟨a7, cap7, ?_, ?_, H6.out.2.2.trans H7.out.2⟩
                · simp only [List.length_append]; rfl
                · have := H7.out.1.ints
                  rw [List.length_append]
                  exact this
end Go.Proofs.YtnfpnmfgppamgaaGreat
