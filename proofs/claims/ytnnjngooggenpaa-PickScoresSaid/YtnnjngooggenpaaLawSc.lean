/-
  The law PickScores's walk.
-/
import Derived.Test.YtnnjngooggenpaaOpenFiles
import Derived.Test.YtnnjngooggenpaaRealC
import Derived.Test.YtnnjngooggenpaaHold
import Derived.Deep.DeepCutAuto
namespace Go.Proofs.Ytnnjngooggenpaa
open Go.RowKit

/-- Files, as elements. -/
theorem eFile : Elm Try.prog 22 26 6 64 Fi.cells where
  und := Try.underlying22
  info := by
    obtain ⟨i0, hi0, hz0, hs0, hy0⟩ := info_parts info_file
    exact ⟨i0, _, hi0, hz0, hs0, hy0, rfl⟩
  pos := by decide
  few := by decide
  len _ := rfl
  one := cells_one
theorem FilesAt.src {w : World} {a : Option Addr} {L : List Fi} {cap : Nat} (h : FilesAt w a L) (hc : a = none → cap = 0) : Src eFile w (.slice a L.length cap) L := by
  cases a with
  | none =>
    have h0 : L = [] := by
      rcases h with h | ⟨b, off, h, _⟩
      · exact h
      · cases h
    subst h0
    rw [hc rfl]
    exact .inl ⟨rfl, rfl⟩
  | some ad =>
    refine .inr ⟨ad, cap, rfl, fun j u hj => ?_⟩
    rcases h with rfl | ⟨b, off, h, hlt, hi⟩
    · simp at hj
    · cases h
      have hjl : j < L.length * 6 := by rw [← eFile.lens]; exact (List.getElem?_eq_some_iff.1 hj).1
      have h1 : j / 6 < L.length := by omega
      have h2 : j % 6 < 6 := Nat.mod_lt _ (by omega)
      have e : j / 6 * 6 + j % 6 = j := by omega
      rw [← e, eFile.get L (j / 6) (j % 6) h1 h2] at hj
      rw [add_off, ← e, ← Nat.add_assoc]
      have hh := hi (j / 6) h1
      generalize j % 6 = r at *
      match r, h2 with
      | 0, _ => simp [Fi.cells] at hj; subst hj; exact hh.c0
      | 1, _ => simp [Fi.cells] at hj; subst hj; exact hh.c1
      | 2, _ => simp [Fi.cells] at hj; subst hj; exact hh.c2
      | 3, _ => simp [Fi.cells] at hj; subst hj; exact hh.c3
      | 4, _ => simp [Fi.cells] at hj; subst hj; exact hh.c4
      | 5, _ => simp [Fi.cells] at hj; subst hj; exact hh.c5
theorem src_file {w : World} {b : Nat} {f : Fi} (h : f.here w b 0) : Src eFile w (.slice (some ⟨b, 0, none⟩) 1 1) [f] := by
  refine .inr ⟨_, 1, rfl, fun j u hj => ?_⟩
  simp only [List.flatMap_cons, List.flatMap_nil, List.append_nil] at hj
  rw [add_off]
  match j, hj with
  | 0, hj => simp [Fi.cells] at hj; subst hj; exact h.c0
  | 1, hj => simp [Fi.cells] at hj; subst hj; exact h.c1
  | 2, hj => simp [Fi.cells] at hj; subst hj; exact h.c2
  | 3, hj => simp [Fi.cells] at hj; subst hj; exact h.c3
  | 4, hj => simp [Fi.cells] at hj; subst hj; exact h.c4
  | 5, hj => simp [Fi.cells] at hj; subst hj; exact h.c5
  | j + 6, hj => simp [Fi.cells] at hj

/-- Six scores. -/
def Tab (W : World) (v : Value) (bs : List Nat) : Prop := bs.length = 6 ∧ ∃ g c, v = .slice (some ⟨g, 0, none⟩) 6 c ∧ g < W.heap.size ∧ ∀ j, j < 6 → W.cell? ⟨g, j, none⟩ = some (.float .f64 (bs.getD j 0))
theorem Tab.below {W W' : World} {v : Value} {bs : List Nat} (h : Tab W v bs) (hb : Below W.heap.size W W') : Tab W' v bs := by
  obtain ⟨hl, g, c, rfl, hg, hc⟩ := h
  exact ⟨hl, g, c, rfl, Nat.lt_of_lt_of_le hg hb.size, fun j hj => (hb.cell (p := ⟨g, j, none⟩) hg).trans (hc j hj)⟩
theorem tab_of {w : World} {B cap : Nat} {a : Option Addr} {bs : List Nat} (h : OwnR w B (.slice a 6 cap) bs) (hl : bs.length = 6) : Tab w (.slice a 6 cap) bs := by
  obtain ⟨g, rfl, hg, _, hc⟩ := OwnR.cell h (by omega)
  rw [hl] at hc
  exact ⟨hl, g, cap, rfl, hg, hc⟩
theorem scores_tab {w : World} {a : Option Addr} {L : List Fi} (hL : FilesAt w a L) (cap : Nat) (hlen : L.length ≤ 100000) (base ratio : Nat) :
    Calls Try.prog 10 #[.slice a L.length cap, .float .f64 base, .float .f64 ratio] w fun e w' =>
      ∃ v bs, e = .returned v ∧ Tab w' v bs ∧ Scd bs L base ratio 6 ∧ Below w.heap.size w w' :=
  (scores_any hL cap hlen base ratio).mono fun _ _ ⟨_, _, bs, he, ho, hs, hb⟩ => ⟨_, bs, he, tab_of ho hs.1, hs, hb⟩
theorem scores_tab' {w : World} {a : Option Addr} {L : List Fi} {n : Nat} (hL : FilesAt w a L) (cap : Nat) (hlen : L.length ≤ 100000) (hn : n = L.length) (base ratio : Nat) :
    Calls Try.prog 10 #[.slice a n cap, .float .f64 base, .float .f64 ratio] w fun e w' =>
      ∃ v bs, e = .returned v ∧ Tab w' v bs ∧ Scd bs L base ratio 6 ∧ Below w.heap.size w w' := by
  subst hn; exact scores_tab hL cap hlen base ratio
/-- The box of the file that came in. -/
def Box (w : World) (f : Fi) (w' : World) : Prop := w'.cell? ⟨w.heap.size, 0, none⟩ = some (.int .i64 f.lv) ∧ w'.cell? ⟨w.heap.size, 1, none⟩ = some (.int .i64 f.nu) ∧ w'.cell? ⟨w.heap.size, 2, none⟩ = some (.int .i64 f.ct) ∧ w'.cell? ⟨w.heap.size, 3, none⟩ = some (.int .i64 f.sz) ∧ w'.cell? ⟨w.heap.size, 4, none⟩ = some (.string f.f) ∧ w'.cell? ⟨w.heap.size, 5, none⟩ = some (.string f.l)
theorem box_belowB {w w0 wc : World} {f : Fi} (h : f.here w0 w.heap.size 0) (hb : Below w0.heap.size w0 wc) : Box w f wc := by
  have h := h.below hb (World.block_lt_of_cell? _ _ h.c0)
  exact ⟨h.c0, by simpa using h.c1, by simpa using h.c2, by simpa using h.c3, by simpa using h.c4, by simpa using h.c5⟩
theorem box_below {w w0 wc w' : World} {f : Fi} (h : f.here w0 w.heap.size 0) (hb : Below wc.heap.size wc w') (hc : Below w0.heap.size w0 wc) : Box w f w' := box_belowB h (hc.trans (hb.mono hc.size))
/-- What the three calls leave. -/
def Three (w wc : World) (L : List Fi) (f : Fi) (base base2 ratio : Nat) (x y z : Value) : Prop :=
  ∃ b1 b2 b3, Tab wc x b1 ∧ Tab wc y b2 ∧ Tab wc z b3 ∧ Scd b1 L base ratio 6 ∧ Scd b2 (L ++ [f]) base ratio 6 ∧ Scd b3 L base2 ratio 6 ∧ Below w.heap.size w wc

section
variable {P : Program} {ops : Array Oper} {Q : Exit → Act → World → Prop} {md : Region.Mode} {S : World → Prop} {k : Nat}
/-- One that may come up, and is not k, comes up. -/
theorem wpOp_K {i : Nat} {t : Option Tmp} {op : Op} {ty : TypeId} {pos : String} {aft : Array Edge} {gd : Option (Nat × Bool)} {fuel : Nat} {listed : Array Bool} {a : Act} {w : World} (hi : ops[i]? = some ⟨t, op, ty, pos, aft, gd⟩)
    (h : ∀ K' : Act → World → Prop, Shut (∀ a w, S w → (S w → wpAnyK P md ops Q S k fuel (listed.setIfInBounds i true) a w) → K' a w) →
      if Region.wanted ⟨t, op, ty, pos, aft, gd⟩ (yielded ops a.tmps) = true then Oper.wp P ⟨t, op, ty, pos, aft, gd⟩ a w K' Q else K' (a.put t undef) w)
    (hk : (listed.setIfInBounds i true).getD k true = false) : wpOp P ops Q i (fun a' w' => ((listed.setIfInBounds i true).getD k true = false → S w') ∧ wpAnyK P md ops Q S k fuel (listed.setIfInBounds i true) a' w') a w :=
  wpOp_step hi (fun K' hK => h K' (fun a w hS hW => hK a w ⟨fun _ => hS, hW hS⟩))
end

theorem fyes {x y : Nat} {o : Ordering} (h : (FloatKind.f64.format.order x y == some o) = true) : Ieee.double.order x y = some o := by
  show FloatKind.f64.format.order x y = some o
  simpa using h
theorem fno {x y : Nat} {o : Ordering} (h : (FloatKind.f64.format.order x y == some o) = false) : Ieee.double.order x y ≠ some o := by
  show FloatKind.f64.format.order x y ≠ some o
  simpa using h
theorem scores_facts {L L2 : List Fi} {base base2 ratio : Nat} {b1 b2 b3 : List Nat} (hsay : ∀ i, i < 6 → Ieee.double.order (sc L2 base ratio i) (sc L base ratio i) ≠ some .lt ∧ isN (sc L base ratio i) = false ∧ isN (sc L base2 ratio i) = false ∧ (0 < i → Ieee.double.order (sc L base2 ratio i) (fdiv (sc L base ratio i) two64) = some .eq) ∧ (i = 0 → Ieee.double.order (sc L base2 ratio i) (sc L base ratio i) = some .eq))
    (h1 : Scd b1 L base ratio 6) (h2 : Scd b2 L2 base ratio 6) (h3 : Scd b3 L base2 ratio 6) :
    ∀ i, i < 6 → (FloatKind.f64.format.order (b2.getD i 0) (b1.getD i 0) == some .lt) = false ∧ (0 < i → ∃ r, Ieee.double.div (b1.getD i 0) two64 = some r ∧ (FloatKind.f64.format.order (b3.getD i 0) r != some .eq) = false) ∧ (i = 0 → (FloatKind.f64.format.order (b3.getD i 0) (b1.getD i 0) == some .eq) = true) := by
  intro i hi
  obtain ⟨a1, a2, a3, a4, a5⟩ := hsay i hi
  have e1 : b1.getD i 0 = sc L base ratio i := by
    rcases h1.2 i hi with h | h
    · exact h
    · have := h.2; rw [a2] at this; cases this
  have e3 : b3.getD i 0 = sc L base2 ratio i := by
    rcases h3.2 i hi with h | h
    · exact h
    · have := h.2; rw [a3] at this; cases this
  have e2 := h2.2 i hi
  rw [e1, e3]
  refine ⟨?_, fun h0 => ?_, fun h0 => ?_⟩
  · have : Ieee.double.order (b2.getD i 0) (sc L base ratio i) ≠ some .lt := by rw [order_congr e2 (.refl _)]; exact a1
    have h : FloatKind.f64.format.order (b2.getD i 0) (sc L base ratio i) ≠ some .lt := this
    simpa using h
  · have h4 := a4 h0
    cases hd : Ieee.double.div (sc L base ratio i) two64 with
    | none =>
      unfold fdiv at h4
      rw [hd, Option.getD_none, order_nan_r fnan_n] at h4
      cases h4
    | some r =>
      refine ⟨r, rfl, ?_⟩
      unfold fdiv at h4
      rw [hd, Option.getD_some] at h4
      have h : FloatKind.f64.format.order (sc L base2 ratio i) r = some .eq := h4
      rw [h]
      rfl
  · have h : FloatKind.f64.format.order (sc L base2 ratio i) (sc L base ratio i) = some .eq := a5 h0
    rw [h]
    rfl
theorem fcmp (x y : Nat) (o : Ordering) : (FloatKind.f64.format.order x y == some o) = true ∨ (FloatKind.f64.format.order x y == some o) = false := by cases (FloatKind.f64.format.order x y == some o) <;> simp

set_option maxRecDepth 100000 in
set_option maxHeartbeats 4000000 in
theorem scores_law (a : Option Addr) (len cap : Nat) (l : List Fi) (f : Fi) (base ratio : Nat) {W : World} (hl : FilesIn W a len cap l) (hlen : len ≤ maxLen) (_ : f.wf) (_ : (Lit.float .f64 base).wf = true) (_ : (Lit.float .f64 ratio).wf = true) (w : World) (hWw : W = w) :
    Calls Try.prog 4 #[.slice a len cap, f.val, .float .f64 base, .float .f64 ratio] w fun e w' => e = .returned (.bool true) ∧ Below w.heap.size w w' := by
  subst hWw
  unfold maxLen at hlen
  obtain ⟨hll, hat, _, hcap⟩ := hl
  generalize hw : W = w at *
  clear hw
  have HA := Lib.hid (And.intro hll hat)
  have HCAP := Lib.hid hcap
  clear hll hat hcap
  have hal : (∀ w', Calls Try.prog 6 #[] w' fun e w'' => e = .returned (.bool true) ∧ Below w'.heap.size w' w'') := alive_any
  have HAL := Lib.hid hal
  clear hal
  unfold Fi.val
  go_enter Try.func4, Try.ntmps4
  go_upto_region 1 with fail
  obtain ⟨W1, hW1⟩ : ∃ W1, w.alloc (fobj f) = W1 := ⟨_, rfl⟩
  have hW1' := hW1
  unfold fobj at hW1'
  rw [hW1']
  have hb1 : Below w.heap.size w W1 := by rw [← hW1]; exact (Below.refl _ _).alloc (Nat.le_refl _) _
  have hf1 : f.here W1 w.heap.size 0 := by rw [← hW1]; exact here_of_block (blk_new _ _)
  have HB1 := Lib.hid hb1
  have HF1 := Lib.hid hf1
  clear hW1 hW1' hb1 hf1
  go_cut [41] (fun t wc => wc = W1 ∧ ∃ c, t = .bool c ∧ (c = false → len ≤ 200 ∧ (FloatKind.f64.format.order base 0 == some .gt) = true ∧ (FloatKind.f64.format.order ratio 0 == some .gt) = true ∧ (FloatKind.f64.format.order base 5055640609639927018 == some .gt) = false ∧ (FloatKind.f64.format.order ratio 5055640609639927018 == some .gt) = false ∧ (FloatKind.f64.format.order base 4158027847206421152 == some .lt) = false ∧ (FloatKind.f64.format.order ratio 4158027847206421152 == some .lt) = false))
  case first =>
    by_cases hbig : 200 < len
    · have t1 : decide ((200 : Int) < (len : Int)) = true := by simp; omega
      go_wp2
      go_meet
      exact ⟨rfl, _, rfl, fun h => by cases h⟩
    · have t1 : decide ((200 : Int) < (len : Int)) = false := by simp; omega
      have hle : len ≤ 200 := by omega
      rcases fcmp base 0 .gt with e1 | e1
      rotate_left
      · go_wp2
        go_meet
        exact ⟨rfl, _, rfl, fun h => by cases h⟩
      rcases fcmp ratio 0 .gt with e2 | e2
      rotate_left
      · go_wp2
        go_meet
        exact ⟨rfl, _, rfl, fun h => by cases h⟩
      rcases fcmp base 5055640609639927018 .gt with e3 | e3
      · go_wp2
        go_meet
        exact ⟨rfl, _, rfl, fun h => by cases h⟩
      rcases fcmp ratio 5055640609639927018 .gt with e4 | e4
      · go_wp2
        go_meet
        exact ⟨rfl, _, rfl, fun h => by cases h⟩
      rcases fcmp base 4158027847206421152 .lt with e5 | e5
      · go_wp2
        go_meet
        exact ⟨rfl, _, rfl, fun h => by cases h⟩
      rcases fcmp ratio 4158027847206421152 .lt with e6 | e6
      · go_wp2
        go_meet
        exact ⟨rfl, _, rfl, fun h => by cases h⟩
      have HE := Lib.hid (And.intro hle (And.intro e1 (And.intro e2 (And.intro e3 (And.intro e4 (And.intro e5 e6))))))
      go_wp2
      go_meet
      exact ⟨rfl, _, rfl, fun _ => HE.out⟩
  case rest =>
    obtain ⟨rfl, c, rfl, hc⟩ := hcut
    cases c with
    | true =>
      clear hc
      go_wp2_with (go_at_call 6; refine (HAL.out _).mono ?_; rintro e w2 ⟨rfl, hb⟩; have HB2 := Lib.hid hb; clear hb)
      go_ret
      exact ⟨rfl, HB1.out.trans (HB2.out.mono HB1.out.size)⟩
    | false =>
      obtain ⟨hle, e1, e2, e3, e4, e5, e6⟩ := hc rfl
      obtain ⟨mb, pb, hbn, hb1, hb2⟩ := base_read (b := base) (fyes e1) (fno e3) (fno e5)
      obtain ⟨mr, pr, hrn, hr1, hr2⟩ := base_read (b := ratio) (fyes e2) (fno e4) (fno e6)
      have hL2 : l.length ≤ 200 := by rw [HA.out.1]; exact hle
      have HL2 := Lib.hid hL2
      have HSAY := Lib.hid (scores_say (f := f) hL2 hbn hrn ⟨hb1, hb2⟩ ⟨hr1, hr2⟩)
      have hmul : Ieee.double.mul two64 base = some (fmul two64 base) := by
        unfold fmul
        rw [mul_nm two_nm hbn]
        rfl
      obtain ⟨base2, hbase2⟩ : ∃ b2, b2 = fmul two64 base := ⟨_, rfl⟩
      rw [← hbase2] at hmul HSAY
      have hm : ∀ W, (binOp .mul 23 (.float .f64 4611686018427387904) (.float .f64 base)).run Try.prog W = .ok (.float .f64 base2) W := fun W => run_float_arith W .mul _ .f64 _ _ _ hmul
      have HM := Lib.hid hm
      clear hc e1 e2 e3 e4 e5 e6 hbn hb1 hb2 hrn hr1 hr2 hL2 hmul hbase2 hm
      have HFA : Hid (FilesAt wc a l) := HA.out.2.below HB1.out
      obtain ⟨W0, hW0⟩ : ∃ W0, W0 = wc := ⟨_, rfl⟩
      have HF0 := HF1
      have hsc : ∀ W, Below wc.heap.size wc W → Calls Try.prog 10 #[.slice a len cap, .float .f64 base, .float .f64 ratio] W fun e w' => ∃ v bs, e = .returned v ∧ Tab w' v bs ∧ Scd bs l base ratio 6 ∧ Below W.heap.size W w' := fun W hb => scores_tab' (HFA.out.below hb) cap (by have := HL2.out; omega) HA.out.1.symm base ratio
      have HSC := Lib.hid hsc
      have hsc2 : ∀ W, Below wc.heap.size wc W → Calls Try.prog 10 #[.slice a len cap, .float .f64 base2, .float .f64 ratio] W fun e w' => ∃ v bs, e = .returned v ∧ Tab w' v bs ∧ Scd bs l base2 ratio 6 ∧ Below W.heap.size W w' := fun W hb => scores_tab' (HFA.out.below hb) cap (by have := HL2.out; omega) HA.out.1.symm base2 ratio
      have HSC2 := Lib.hid hsc2
      have hsrc : ∀ W, Below wc.heap.size wc W → Src eFile W (.slice a len cap) l := fun W hb => by
        have h := (HFA.out.below hb).src (cap := cap) HCAP.out
        rw [HA.out.1] at h
        exact h
      have HSRC := Lib.hid hsrc
      clear hsrc
      clear hsc hsc2 hW0 W0
      go_upto_region 3 with fail
      go_cut [9, 10, 11] (fun x y z wd => Three wc wd l f base base2 ratio x y z)
      case first =>
        have HB : Hid (Below wc.heap.size wc wc.drew) := (Below.refl _ _).drew
        have hS : Box w f wc.drew := box_belowB HF0.out HB.out
        refine wp_region_K (fun w' => w'.cell? ⟨w.heap.size, 0, none⟩ = some (.int .i64 f.lv) ∧ w'.cell? ⟨w.heap.size, 1, none⟩ = some (.int .i64 f.nu) ∧ w'.cell? ⟨w.heap.size, 2, none⟩ = some (.int .i64 f.ct) ∧ w'.cell? ⟨w.heap.size, 3, none⟩ = some (.int .i64 f.sz) ∧ w'.cell? ⟨w.heap.size, 4, none⟩ = some (.string f.f) ∧ w'.cell? ⟨w.heap.size, 5, none⟩ = some (.string f.l)) 19 20 (by kernel_rfl) (by kernel_rfl) hS (fun hH => ?_)
        obtain ⟨W0, hW0⟩ : ∃ W0, W0 = wc.drew := ⟨_, rfl⟩
        rw [← hW0] at hH HB ⊢
        clear hS hW0
        have hm := HM.out
        refine wpAnyK_take (i := 0) [19] (v := ?v1) rfl (by kernel_rfl) (by kernel_rfl) (by kernel_rfl) (by kernel_rfl) (fun _ _ _ h => h) (Or.inl ⟨by rfl, ?hy1⟩) hH ?rest1
        case hy1 => (intro w hSw; (try dsimp only at hSw); go_simp; with_reducible rfl)
        try simp only [Act.put, List.setIfInBounds_toArray, List.set_cons_zero, List.set_cons_succ]
        refine wpAnyK_take (i := 1) [19] (v := ?v2) rfl (by kernel_rfl) (by kernel_rfl) (by kernel_rfl) (by kernel_rfl) (fun _ _ _ h => h) (Or.inl ⟨by rfl, ?hy2⟩) hH ?rest2
        case hy2 => (intro w hSw; (try dsimp only at hSw); go_simp; with_reducible rfl)
        try simp only [Act.put, List.setIfInBounds_toArray, List.set_cons_zero, List.set_cons_succ]
        refine wpAnyK_take (i := 2) [19] (v := ?v3) rfl (by kernel_rfl) (by kernel_rfl) (by kernel_rfl) (by kernel_rfl) (fun _ _ _ h => h) (Or.inl ⟨by rfl, ?hy3⟩) hH ?rest3
        case hy3 => (intro w hSw; (try dsimp only at hSw); go_simp; with_reducible rfl)
        try simp only [Act.put, List.setIfInBounds_toArray, List.set_cons_zero, List.set_cons_succ]
        refine wpAnyK_take (i := 4) [19] (v := ?v4) rfl (by kernel_rfl) (by kernel_rfl) (by kernel_rfl) (by kernel_rfl) (fun _ _ _ h => h) (Or.inl ⟨by rfl, ?hy4⟩) hH ?rest4
        case hy4 => (intro w hSw; (try dsimp only at hSw); go_simp; with_reducible rfl)
        try simp only [Act.put, List.setIfInBounds_toArray, List.set_cons_zero, List.set_cons_succ]
        refine wpAnyK_take (i := 6) [19] (v := ?v5) rfl (by kernel_rfl) (by kernel_rfl) (by kernel_rfl) (by kernel_rfl) (fun _ _ _ h => h) (Or.inl ⟨by rfl, ?hy5⟩) hH ?rest5
        case hy5 => (intro w hSw; (try dsimp only at hSw); go_simp; with_reducible rfl)
        try simp only [Act.put, List.setIfInBounds_toArray, List.set_cons_zero, List.set_cons_succ]
        refine wpAnyK_take (i := 9) [19] (v := ?v6) rfl (by kernel_rfl) (by kernel_rfl) (by kernel_rfl) (by kernel_rfl) (fun _ _ _ h => h) (Or.inl ⟨by rfl, ?hy6⟩) hH ?rest6
        case hy6 => (intro w hSw; (try dsimp only at hSw); go_simp; with_reducible rfl)
        try simp only [Act.put, List.setIfInBounds_toArray, List.set_cons_zero, List.set_cons_succ]
        refine wpAnyK_take (i := 10) [19] (v := ?v7) rfl (by kernel_rfl) (by kernel_rfl) (by kernel_rfl) (by kernel_rfl) (fun _ _ _ h => h) (Or.inl ⟨by rfl, ?hy7⟩) hH ?rest7
        case hy7 => (intro w hSw; (try dsimp only at hSw); go_simp; with_reducible rfl)
        try simp only [Act.put, List.setIfInBounds_toArray, List.set_cons_zero, List.set_cons_succ]
        refine wpAnyK_take (i := 12) [19] (v := ?v8) rfl (by kernel_rfl) (by kernel_rfl) (by kernel_rfl) (by kernel_rfl) (fun _ _ _ h => h) (Or.inl ⟨by rfl, ?hy8⟩) hH ?rest8
        case hy8 => (intro w hSw; (try dsimp only at hSw); go_simp; with_reducible rfl)
        try simp only [Act.put, List.setIfInBounds_toArray, List.set_cons_zero, List.set_cons_succ]
        refine wpAnyK_take (i := 13) [19] (v := ?v9) rfl (by kernel_rfl) (by kernel_rfl) (by kernel_rfl) (by kernel_rfl) (fun _ _ _ h => h) (Or.inl ⟨by rfl, ?hy9⟩) hH ?rest9
        case hy9 => (intro w hSw; (try dsimp only at hSw); go_simp; with_reducible rfl)
        try simp only [Act.put, List.setIfInBounds_toArray, List.set_cons_zero, List.set_cons_succ]
        refine wpAnyK_take (i := 14) [19] (v := ?v10) rfl (by kernel_rfl) (by kernel_rfl) (by kernel_rfl) (by kernel_rfl) (fun _ _ _ h => h) (Or.inl ⟨by rfl, ?hy10⟩) hH ?rest10
        case hy10 => (intro w hSw; (try dsimp only at hSw); go_simp; with_reducible rfl)
        try simp only [Act.put, List.setIfInBounds_toArray, List.set_cons_zero, List.set_cons_succ]
        refine wpAnyK_take (i := 15) [19] (v := ?v11) rfl (by kernel_rfl) (by kernel_rfl) (by kernel_rfl) (by kernel_rfl) (fun _ _ _ h => h) (Or.inl ⟨by rfl, ?hy11⟩) hH ?rest11
        case hy11 => (intro w hSw; (try dsimp only at hSw); go_simp; with_reducible rfl)
        try simp only [Act.put, List.setIfInBounds_toArray, List.set_cons_zero, List.set_cons_succ]
        clear hm
        refine wpAnyK_all (rs := [3, 7]) (by kernel_rfl) (by simp) (fun i hi => ?_)
        rcases List.mem_cons.1 hi with rfl | hi2
        · refine wpOp_K rfl (fun K hK => ?_) (by kernel_rfl)
          go_simp
          go_at_call 10
          refine (HSC.out _ HB.out).mono ?_
          rintro _ w3 ⟨v3, bs3, rfl, ht3, hs3, hb3⟩
          simp only []
          refine hK.out _ _ (box_below HF0.out hb3 HB.out) (fun hH => ?_)
          clear hK K
          try simp only [Act.put, List.setIfInBounds_toArray, List.set_cons_zero, List.set_cons_succ]
          have HB := Lib.hid (HB.out.trans (hb3.mono HB.out.size))
          have HT3 := Lib.hid (And.intro ht3 hs3)
          clear ht3 hs3 hb3
          refine wpAnyK_all (rs := [5, 7]) (by kernel_rfl) (by simp) (fun i hi => ?_)
          rcases List.mem_cons.1 hi with rfl | hi2
          · refine wpOp_K rfl (fun K hK => ?_) (by kernel_rfl)
            obtain ⟨W5, hW5⟩ : ∃ W5, W5 = w3 := ⟨_, rfl⟩
            rw [← hW5] at hH HB HT3 ⊢
            clear hW5
            have HB5 := HB
            refine step_app eFile rfl (.const (.slice none 0 0)) (.tmp 47) rfl (v := .slice none 0 0) (xv := .slice a len cap) (l := []) (l2 := l) rfl rfl (World.ownsRow_nil _ W5.heap.size _ _) (HSRC.out _ HB.out) (by have := HL2.out; simp; omega) (Nat.le_refl _) ?_
            intro a5 c5 w5 ho5 hb5 _ _
            obtain ⟨n5, hn5⟩ : ∃ n5, n5 = ([] : List Fi).length + l.length := ⟨_, rfl⟩
            rw [← hn5] at ho5 ⊢
            clear hn5
            refine hK.out _ _ (box_below HF0.out hb5 HB.out) (fun hH => ?_)
            clear hK K
            try simp only [Act.put, List.setIfInBounds_toArray, List.set_cons_zero, List.set_cons_succ]
            have HB := Lib.hid (HB.out.trans (hb5.mono HB.out.size))
            have HO5 := Lib.hid (And.intro ho5 hb5)
            clear ho5 hb5
            refine wpAnyK_one (i := 7) (by kernel_rfl) rfl (fun K hK => ?_) (by kernel_rfl)
            go_simp
            obtain ⟨W7, hW7⟩ : ∃ W7, w5.alloc (fobj f) = W7 := ⟨_, rfl⟩
            have hW7' := hW7
            unfold fobj at hW7'
            rw [hW7']
            have hb7 : Below w5.heap.size w5 W7 := by rw [← hW7]; exact (Below.refl _ _).alloc (Nat.le_refl _) _
            have hf7 : f.here W7 w5.heap.size 0 := by rw [← hW7]; exact here_of_block (blk_new _ _)
            refine hK.out _ _ (box_below HF0.out hb7 HB.out) (fun hH => ?_)
            clear hK K hW7 hW7'
            try simp only [Act.put, List.setIfInBounds_toArray, List.set_cons_zero, List.set_cons_succ]
            have HO5 := Lib.hid (And.intro (row_below HO5.out.1 hb7) (HO5.out.2.trans (hb7.mono HO5.out.2.size)))
            have HB := Lib.hid (HB.out.trans (hb7.mono HB.out.size))
            have HF7 := Lib.hid hf7
            clear hf7 hb7
            refine wpAnyK_one (i := 8) (by kernel_rfl) rfl (fun K hK => ?_) (by kernel_rfl)
            refine step_app eFile rfl (.tmp 48) (.tmp 50) rfl (l := [] ++ l) (l2 := [f]) rfl rfl HO5.out.1 (src_file HF7.out) (by have := HL2.out; simp; omega) HO5.out.2.size ?_
            intro a8 c8 w8 ho8 hb8 _ _
            have hb58 := HO5.out.2.trans hb8
            have hbw := (HB5.out.trans (hb58.mono HB5.out.size))
            refine hK.out _ _ (box_belowB HF0.out hbw) (fun hH => ?_)
            clear hK K
            try simp only [Act.put, List.setIfInBounds_toArray, List.set_cons_zero, List.set_cons_succ]
            have HT3 := Lib.hid (And.intro (HT3.out.1.below hb58) HT3.out.2)
            have HF8 := Lib.hid (OwnF.at_ ho8).2
            have HB := Lib.hid hbw
            clear ho8 hb8 hb58 hbw HO5
            refine wpAnyK_one (i := 11) (by kernel_rfl) rfl (fun K hK => ?_) (by kernel_rfl)
            go_simp
            go_at_call 10
            refine (scores_tab' HF8.out c8 (by have := HL2.out; simp; omega) (by simp) _ _).mono ?_
            rintro _ w11 ⟨v11, bs11, rfl, ht11, hs11, hb11⟩
            simp only []
            refine hK.out _ _ (box_below HF0.out hb11 HB.out) (fun hH => ?_)
            clear hK K
            try simp only [Act.put, List.setIfInBounds_toArray, List.set_cons_zero, List.set_cons_succ]
            have HT3 := Lib.hid (And.intro (HT3.out.1.below hb11) HT3.out.2)
            have HT11 := Lib.hid (And.intro ht11 hs11)
            have HB := Lib.hid (HB.out.trans (hb11.mono HB.out.size))
            clear ht11 hs11 hb11
            refine wpAnyK_one (i := 16) (by kernel_rfl) rfl (fun K hK => ?_) (by kernel_rfl)
            go_simp
            go_at_call 10
            refine (HSC2.out _ HB.out).mono ?_
            rintro _ w16 ⟨v16, bs16, rfl, ht16, hs16, hb16⟩
            simp only []
            refine hK.out _ _ (box_below HF0.out hb16 HB.out) (fun hH => ?_)
            clear hK K
            try simp only [Act.put, List.setIfInBounds_toArray, List.set_cons_zero, List.set_cons_succ]
            have HT3 := Lib.hid (And.intro (HT3.out.1.below hb16) HT3.out.2)
            have HT11 := Lib.hid (And.intro (HT11.out.1.below hb16) HT11.out.2)
            have HT16 := Lib.hid (And.intro ht16 hs16)
            have HB := Lib.hid (HB.out.trans (hb16.mono HB.out.size))
            clear ht16 hs16 hb16
            refine wpAnyK_take (i := 17) [19] (v := ?v12) rfl (by kernel_rfl) (by kernel_rfl) (by kernel_rfl) (by kernel_rfl) (fun _ _ _ h => h) (Or.inl ⟨by rfl, ?hy12⟩) hH ?rest12
            case hy12 => (intro w hSw; (try dsimp only at hSw); go_simp; with_reducible rfl)
            try simp only [Act.put, List.setIfInBounds_toArray, List.set_cons_zero, List.set_cons_succ]
            refine wpAnyK_take (i := 18) [19] (v := ?v13) rfl (by kernel_rfl) (by kernel_rfl) (by kernel_rfl) (by kernel_rfl) (fun _ _ _ h => h) (Or.inl ⟨by rfl, ?hy13⟩) hH ?rest13
            case hy13 => (intro w hSw; (try dsimp only at hSw); go_simp; with_reducible rfl)
            try simp only [Act.put, List.setIfInBounds_toArray, List.set_cons_zero, List.set_cons_succ]
            refine wpAnyK_last (by kernel_rfl) rfl (fun K hK => ?_) (by kernel_rfl)
            go_simp
            refine hK.out _ _ (wpAnyK_done (by kernel_rfl) ?_ _)
            clear hK K hH
            go_wp2
            go_meet
            exact ⟨_, _, _, HT3.out.1, HT11.out.1, HT16.out.1, HT3.out.2, HT11.out.2, HT16.out.2, HB.out⟩
          · obtain rfl := List.mem_singleton.1 hi2
            refine wpOp_K rfl (fun K hK => ?_) (by kernel_rfl)
            go_simp
            obtain ⟨W7, hW7⟩ : ∃ W7, w3.alloc (fobj f) = W7 := ⟨_, rfl⟩
            have hW7' := hW7
            unfold fobj at hW7'
            rw [hW7']
            have hb7 : Below w3.heap.size w3 W7 := by rw [← hW7]; exact (Below.refl _ _).alloc (Nat.le_refl _) _
            have hf7 : f.here W7 w3.heap.size 0 := by rw [← hW7]; exact here_of_block (blk_new _ _)
            refine hK.out _ _ (box_below HF0.out hb7 HB.out) (fun hH => ?_)
            clear hK K hW7 hW7'
            try simp only [Act.put, List.setIfInBounds_toArray, List.set_cons_zero, List.set_cons_succ]
            have HT3 := Lib.hid (And.intro (HT3.out.1.below hb7) HT3.out.2)
            have HB := Lib.hid (HB.out.trans (hb7.mono HB.out.size))
            have HF7 := Lib.hid hf7
            clear hf7 hb7
            refine wpAnyK_one (i := 5) (by kernel_rfl) rfl (fun K hK => ?_) (by kernel_rfl)
            obtain ⟨W5, hW5⟩ : ∃ W5, W5 = W7 := ⟨_, rfl⟩
            rw [← hW5] at hH HB HT3 HF7 ⊢
            clear hW5
            have HB5 := HB
            refine step_app eFile rfl (.const (.slice none 0 0)) (.tmp 47) rfl (v := .slice none 0 0) (xv := .slice a len cap) (l := []) (l2 := l) rfl rfl (World.ownsRow_nil _ W5.heap.size _ _) (HSRC.out _ HB.out) (by have := HL2.out; simp; omega) (Nat.le_refl _) ?_
            intro a5 c5 w5 ho5 hb5 _ _
            obtain ⟨n5, hn5⟩ : ∃ n5, n5 = ([] : List Fi).length + l.length := ⟨_, rfl⟩
            rw [← hn5] at ho5 ⊢
            clear hn5
            refine hK.out _ _ (box_below HF0.out hb5 HB.out) (fun hH => ?_)
            clear hK K
            try simp only [Act.put, List.setIfInBounds_toArray, List.set_cons_zero, List.set_cons_succ]
            have HF7 := Lib.hid (HF7.out.below hb5 (World.block_lt_of_cell? _ _ HF7.out.c0))
            have HB := Lib.hid (HB.out.trans (hb5.mono HB.out.size))
            have HO5 := Lib.hid (And.intro ho5 hb5)
            clear ho5 hb5
            refine wpAnyK_one (i := 8) (by kernel_rfl) rfl (fun K hK => ?_) (by kernel_rfl)
            refine step_app eFile rfl (.tmp 48) (.tmp 50) rfl (l := [] ++ l) (l2 := [f]) rfl rfl HO5.out.1 (src_file HF7.out) (by have := HL2.out; simp; omega) HO5.out.2.size ?_
            intro a8 c8 w8 ho8 hb8 _ _
            have hb58 := HO5.out.2.trans hb8
            have hbw := (HB5.out.trans (hb58.mono HB5.out.size))
            refine hK.out _ _ (box_belowB HF0.out hbw) (fun hH => ?_)
            clear hK K
            try simp only [Act.put, List.setIfInBounds_toArray, List.set_cons_zero, List.set_cons_succ]
            have HT3 := Lib.hid (And.intro (HT3.out.1.below hb58) HT3.out.2)
            have HF8 := Lib.hid (OwnF.at_ ho8).2
            have HB := Lib.hid hbw
            clear ho8 hb8 hb58 hbw HO5
            refine wpAnyK_one (i := 11) (by kernel_rfl) rfl (fun K hK => ?_) (by kernel_rfl)
            go_simp
            go_at_call 10
            refine (scores_tab' HF8.out c8 (by have := HL2.out; simp; omega) (by simp) _ _).mono ?_
            rintro _ w11 ⟨v11, bs11, rfl, ht11, hs11, hb11⟩
            simp only []
            refine hK.out _ _ (box_below HF0.out hb11 HB.out) (fun hH => ?_)
            clear hK K
            try simp only [Act.put, List.setIfInBounds_toArray, List.set_cons_zero, List.set_cons_succ]
            have HT3 := Lib.hid (And.intro (HT3.out.1.below hb11) HT3.out.2)
            have HT11 := Lib.hid (And.intro ht11 hs11)
            have HB := Lib.hid (HB.out.trans (hb11.mono HB.out.size))
            clear ht11 hs11 hb11
            refine wpAnyK_one (i := 16) (by kernel_rfl) rfl (fun K hK => ?_) (by kernel_rfl)
            go_simp
            go_at_call 10
            refine (HSC2.out _ HB.out).mono ?_
            rintro _ w16 ⟨v16, bs16, rfl, ht16, hs16, hb16⟩
            simp only []
            refine hK.out _ _ (box_below HF0.out hb16 HB.out) (fun hH => ?_)
            clear hK K
            try simp only [Act.put, List.setIfInBounds_toArray, List.set_cons_zero, List.set_cons_succ]
            have HT3 := Lib.hid (And.intro (HT3.out.1.below hb16) HT3.out.2)
            have HT11 := Lib.hid (And.intro (HT11.out.1.below hb16) HT11.out.2)
            have HT16 := Lib.hid (And.intro ht16 hs16)
            have HB := Lib.hid (HB.out.trans (hb16.mono HB.out.size))
            clear ht16 hs16 hb16
            refine wpAnyK_take (i := 17) [19] (v := ?v14) rfl (by kernel_rfl) (by kernel_rfl) (by kernel_rfl) (by kernel_rfl) (fun _ _ _ h => h) (Or.inl ⟨by rfl, ?hy14⟩) hH ?rest14
            case hy14 => (intro w hSw; (try dsimp only at hSw); go_simp; with_reducible rfl)
            try simp only [Act.put, List.setIfInBounds_toArray, List.set_cons_zero, List.set_cons_succ]
            refine wpAnyK_take (i := 18) [19] (v := ?v15) rfl (by kernel_rfl) (by kernel_rfl) (by kernel_rfl) (by kernel_rfl) (fun _ _ _ h => h) (Or.inl ⟨by rfl, ?hy15⟩) hH ?rest15
            case hy15 => (intro w hSw; (try dsimp only at hSw); go_simp; with_reducible rfl)
            try simp only [Act.put, List.setIfInBounds_toArray, List.set_cons_zero, List.set_cons_succ]
            refine wpAnyK_last (by kernel_rfl) rfl (fun K hK => ?_) (by kernel_rfl)
            go_simp
            refine hK.out _ _ (wpAnyK_done (by kernel_rfl) ?_ _)
            clear hK K hH
            go_wp2
            go_meet
            exact ⟨_, _, _, HT3.out.1, HT11.out.1, HT16.out.1, HT3.out.2, HT11.out.2, HT16.out.2, HB.out⟩
        · obtain rfl := List.mem_singleton.1 hi2
          refine wpOp_K rfl (fun K hK => ?_) (by kernel_rfl)
          go_simp
          obtain ⟨W7, hW7⟩ : ∃ W7, W0.alloc (fobj f) = W7 := ⟨_, rfl⟩
          have hW7' := hW7
          unfold fobj at hW7'
          rw [hW7']
          have hb7 : Below W0.heap.size W0 W7 := by rw [← hW7]; exact (Below.refl _ _).alloc (Nat.le_refl _) _
          have hf7 : f.here W7 W0.heap.size 0 := by rw [← hW7]; exact here_of_block (blk_new _ _)
          refine hK.out _ _ (box_below HF0.out hb7 HB.out) (fun hH => ?_)
          clear hK K hW7 hW7'
          try simp only [Act.put, List.setIfInBounds_toArray, List.set_cons_zero, List.set_cons_succ]
          have HB := Lib.hid (HB.out.trans (hb7.mono HB.out.size))
          have HF7 := Lib.hid hf7
          clear hf7 hb7
          refine wpAnyK_one (i := 3) (by kernel_rfl) rfl (fun K hK => ?_) (by kernel_rfl)
          go_simp
          go_at_call 10
          refine (HSC.out _ HB.out).mono ?_
          rintro _ w3 ⟨v3, bs3, rfl, ht3, hs3, hb3⟩
          simp only []
          refine hK.out _ _ (box_below HF0.out hb3 HB.out) (fun hH => ?_)
          clear hK K
          try simp only [Act.put, List.setIfInBounds_toArray, List.set_cons_zero, List.set_cons_succ]
          have HF7 := Lib.hid (HF7.out.below hb3 (World.block_lt_of_cell? _ _ HF7.out.c0))
          have HB := Lib.hid (HB.out.trans (hb3.mono HB.out.size))
          have HT3 := Lib.hid (And.intro ht3 hs3)
          clear ht3 hs3 hb3
          refine wpAnyK_one (i := 5) (by kernel_rfl) rfl (fun K hK => ?_) (by kernel_rfl)
          obtain ⟨W5, hW5⟩ : ∃ W5, W5 = w3 := ⟨_, rfl⟩
          rw [← hW5] at hH HB HT3 HF7 ⊢
          clear hW5
          have HB5 := HB
          refine step_app eFile rfl (.const (.slice none 0 0)) (.tmp 47) rfl (v := .slice none 0 0) (xv := .slice a len cap) (l := []) (l2 := l) rfl rfl (World.ownsRow_nil _ W5.heap.size _ _) (HSRC.out _ HB.out) (by have := HL2.out; simp; omega) (Nat.le_refl _) ?_
          intro a5 c5 w5 ho5 hb5 _ _
          obtain ⟨n5, hn5⟩ : ∃ n5, n5 = ([] : List Fi).length + l.length := ⟨_, rfl⟩
          rw [← hn5] at ho5 ⊢
          clear hn5
          refine hK.out _ _ (box_below HF0.out hb5 HB.out) (fun hH => ?_)
          clear hK K
          try simp only [Act.put, List.setIfInBounds_toArray, List.set_cons_zero, List.set_cons_succ]
          have HF7 := Lib.hid (HF7.out.below hb5 (World.block_lt_of_cell? _ _ HF7.out.c0))
          have HB := Lib.hid (HB.out.trans (hb5.mono HB.out.size))
          have HO5 := Lib.hid (And.intro ho5 hb5)
          clear ho5 hb5
          refine wpAnyK_one (i := 8) (by kernel_rfl) rfl (fun K hK => ?_) (by kernel_rfl)
          refine step_app eFile rfl (.tmp 48) (.tmp 50) rfl (l := [] ++ l) (l2 := [f]) rfl rfl HO5.out.1 (src_file HF7.out) (by have := HL2.out; simp; omega) HO5.out.2.size ?_
          intro a8 c8 w8 ho8 hb8 _ _
          have hb58 := HO5.out.2.trans hb8
          have hbw := (HB5.out.trans (hb58.mono HB5.out.size))
          refine hK.out _ _ (box_belowB HF0.out hbw) (fun hH => ?_)
          clear hK K
          try simp only [Act.put, List.setIfInBounds_toArray, List.set_cons_zero, List.set_cons_succ]
          have HT3 := Lib.hid (And.intro (HT3.out.1.below hb58) HT3.out.2)
          have HF8 := Lib.hid (OwnF.at_ ho8).2
          have HB := Lib.hid hbw
          clear ho8 hb8 hb58 hbw HO5
          refine wpAnyK_one (i := 11) (by kernel_rfl) rfl (fun K hK => ?_) (by kernel_rfl)
          go_simp
          go_at_call 10
          refine (scores_tab' HF8.out c8 (by have := HL2.out; simp; omega) (by simp) _ _).mono ?_
          rintro _ w11 ⟨v11, bs11, rfl, ht11, hs11, hb11⟩
          simp only []
          refine hK.out _ _ (box_below HF0.out hb11 HB.out) (fun hH => ?_)
          clear hK K
          try simp only [Act.put, List.setIfInBounds_toArray, List.set_cons_zero, List.set_cons_succ]
          have HT3 := Lib.hid (And.intro (HT3.out.1.below hb11) HT3.out.2)
          have HT11 := Lib.hid (And.intro ht11 hs11)
          have HB := Lib.hid (HB.out.trans (hb11.mono HB.out.size))
          clear ht11 hs11 hb11
          refine wpAnyK_one (i := 16) (by kernel_rfl) rfl (fun K hK => ?_) (by kernel_rfl)
          go_simp
          go_at_call 10
          refine (HSC2.out _ HB.out).mono ?_
          rintro _ w16 ⟨v16, bs16, rfl, ht16, hs16, hb16⟩
          simp only []
          refine hK.out _ _ (box_below HF0.out hb16 HB.out) (fun hH => ?_)
          clear hK K
          try simp only [Act.put, List.setIfInBounds_toArray, List.set_cons_zero, List.set_cons_succ]
          have HT3 := Lib.hid (And.intro (HT3.out.1.below hb16) HT3.out.2)
          have HT11 := Lib.hid (And.intro (HT11.out.1.below hb16) HT11.out.2)
          have HT16 := Lib.hid (And.intro ht16 hs16)
          have HB := Lib.hid (HB.out.trans (hb16.mono HB.out.size))
          clear ht16 hs16 hb16
          refine wpAnyK_take (i := 17) [19] (v := ?v16) rfl (by kernel_rfl) (by kernel_rfl) (by kernel_rfl) (by kernel_rfl) (fun _ _ _ h => h) (Or.inl ⟨by rfl, ?hy16⟩) hH ?rest16
          case hy16 => (intro w hSw; (try dsimp only at hSw); go_simp; with_reducible rfl)
          try simp only [Act.put, List.setIfInBounds_toArray, List.set_cons_zero, List.set_cons_succ]
          refine wpAnyK_take (i := 18) [19] (v := ?v17) rfl (by kernel_rfl) (by kernel_rfl) (by kernel_rfl) (by kernel_rfl) (fun _ _ _ h => h) (Or.inl ⟨by rfl, ?hy17⟩) hH ?rest17
          case hy17 => (intro w hSw; (try dsimp only at hSw); go_simp; with_reducible rfl)
          try simp only [Act.put, List.setIfInBounds_toArray, List.set_cons_zero, List.set_cons_succ]
          refine wpAnyK_last (by kernel_rfl) rfl (fun K hK => ?_) (by kernel_rfl)
          go_simp
          refine hK.out _ _ (wpAnyK_done (by kernel_rfl) ?_ _)
          clear hK K hH
          go_wp2
          go_meet
          exact ⟨_, _, _, HT3.out.1, HT11.out.1, HT16.out.1, HT3.out.2, HT11.out.2, HT16.out.2, HB.out⟩
      case rest =>
        obtain ⟨b1, b2, b3, ht1, ht2, ht3, hs1, hs2, hs3, hbw⟩ := hcut
        obtain ⟨hl1, g1, c1, rfl, hg1, hc1⟩ := ht1
        obtain ⟨hl2, g2, c2, rfl, hg2, hc2⟩ := ht2
        obtain ⟨hl3, g3, c3, rfl, hg3, hc3⟩ := ht3
        have hfacts := scores_facts HSAY.out hs1 hs2 hs3
        have HFT := Lib.hid hfacts
        have HC := Lib.hid (And.intro hc1 (And.intro hc2 hc3))
        have HBW := Lib.hid (HB1.out.trans (hbw.mono HB1.out.size))
        have HG := Lib.hid (And.intro hg1 (And.intro hg2 hg3))
        clear hs1 hs2 hs3 hl1 hl2 hl3 hc1 hc2 hc3 hbw hg1 hg2 hg3 hfacts
        go_wp2
        go_loopw [12] (fun iv wr => ∃ i : Nat, i ≤ 6 ∧ iv = .int .i64 (i : Int) ∧ Below wc.heap.size wc wr) (fun iv _ => 6 - (intOf iv).toNat)
        case atStart => exact ⟨0, by omega, rfl, Below.refl _ _⟩
        case round =>
          obtain ⟨i, hi, rfl, hbel⟩ := hrel
          have HB := Lib.hid hbel
          by_cases hlt : i < 6
          · have k1 := (hbel.cell (p := ⟨g1, i, none⟩) HG.out.1).trans (HC.out.1 i hlt)
            have k2 := (hbel.cell (p := ⟨g2, i, none⟩) HG.out.2.1).trans (HC.out.2.1 i hlt)
            have k3 := (hbel.cell (p := ⟨g3, i, none⟩) HG.out.2.2).trans (HC.out.2.2 i hlt)
            have hf := HFT.out i hlt
            obtain ⟨x, hx⟩ : ∃ x, x = b1.getD i 0 := ⟨_, rfl⟩
            obtain ⟨y, hy⟩ : ∃ y, y = b2.getD i 0 := ⟨_, rfl⟩
            obtain ⟨z, hz⟩ : ∃ z, z = b3.getD i 0 := ⟨_, rfl⟩
            rw [← hx] at k1 hf
            rw [← hy] at k2 hf
            rw [← hz] at k3 hf
            obtain ⟨f1, f2, _⟩ := hf
            clear hx hy hz hbel
            by_cases h0 : 0 < i
            · obtain ⟨r, hr, f3⟩ := f2 h0
              have t1 : decide ((0 : Int) < (i : Int)) = true := by simp; omega
              have t1b : decide (0 < i) = true := by simpa using h0
              have hq : ∀ W, (binOp .quo 23 (.float .f64 x) (.float .f64 4611686018427387904)).run Try.prog W = .ok (.float .f64 r) W := fun W => run_float_arith W .quo _ .f64 _ _ _ hr
              clear f2 hr h0
              go_wp2
              go_quiet (fail)
              go_wp2
              go_roundw
              case rel => exact ⟨i + 1, by omega, by go_num, below_drewN HB.out _⟩
              case measure => simp [intOf]; omega
            · have t1 : decide ((0 : Int) < (i : Int)) = false := by simp; omega
              have t1b : decide (0 < i) = false := by simpa using h0
              clear f2 h0
              go_wp2
              go_quiet (fail)
              go_wp2
              go_roundw
              case rel => exact ⟨i + 1, by omega, by go_num, below_drewN HB.out _⟩
              case measure => simp [intOf]; omega
          · obtain rfl : i = 6 := by omega
            have HB6 := Lib.hid (HBW.out.trans (hbel.mono HBW.out.size))
            have k1 := (hbel.cell (p := ⟨g1, 0, none⟩) HG.out.1).trans (HC.out.1 0 (by omega))
            have k3 := (hbel.cell (p := ⟨g3, 0, none⟩) HG.out.2.2).trans (HC.out.2.2 0 (by omega))
            have hf := HFT.out 0 (by omega)
            obtain ⟨x, hx⟩ : ∃ x, x = b1.getD 0 0 := ⟨_, rfl⟩
            obtain ⟨z, hz⟩ : ∃ z, z = b3.getD 0 0 := ⟨_, rfl⟩
            rw [← hx] at k1 hf
            rw [← hz] at k3 hf
            have f3 := hf.2.2 rfl
            have e1 : ∀ X : HW wr, X.val.cell? ⟨g1, 0, none⟩ = some (.float .f64 x) := fun X => (X.ok.cell (p := ⟨g1, 0, none⟩) (World.block_lt_of_cell? _ _ k1)).trans k1
            have e3 : ∀ X : HW wr, X.val.cell? ⟨g3, 0, none⟩ = some (.float .f64 z) := fun X => (X.ok.cell (p := ⟨g3, 0, none⟩) (World.block_lt_of_cell? _ _ k3)).trans k3
            clear hx hz hf hbel k1 k3
            go_wp2
            refine wp_region_held_lit (by kernel_rfl) (by kernel_rfl) ?_
            repeat (go_big_quiet_step ((go_at_call 6; exact calls_held (HAL.out _))))
            refine wpQuiet_nil ?_
            intro _ hw'
            obtain ⟨X, hw''⟩ := hw'
            subst hw''
            go_wp2
            go_ret
            exact ⟨rfl, HB6.out.trans (X.ok.mono HB6.out.size)⟩
end Go.Proofs.Ytnnjngooggenpaa
