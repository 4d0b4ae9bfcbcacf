/-
  Files that are lent, with room behind them; do they stay?
-/
import Derived.Test.YtnfpnmfgppamgaaGreatRlC
import Derived.Laws.StructEq
namespace Go.Proofs.YtnfpnmfgppamgaaGreat
open Go.RowKit

set_option maxRecDepth 100000 in
theorem eqfi (lv nu ct sz : Int) (f l : ByteArray) (w : World) : (Op.equalIn 10000 57 (.agg #[.int .i64 lv, .int .i64 nu, .int .i64 ct, .int .i64 sz, .string f, .string l]) (.agg #[.int .i64 lv, .int .i64 nu, .int .i64 ct, .int .i64 sz, .string f, .string l])).run Tryz.prog w = .ok true w := by
  have hp : ∀ (xs : Array Value) (o : Nat) (v : Value) (w : World), xs[o]? = some v → (part 9 xs o).run Tryz.prog w = .ok v w := by
    intro xs o v w h
    simp [part, Tryz.isAgg9, h, Result.andThen]
  have hpi : ∀ (xs : Array Value) (o : Nat) (v : Value) (w : World), xs[o]? = some v → (part 3 xs o).run Tryz.prog w = .ok v w := by
    intro xs o v w h
    simp [part, Tryz.isAgg3, h, Result.andThen]
  have es : ∀ (d : Nat) (a : ByteArray) (w : World), (Op.equalIn (d + 1) 9 (.string a) (.string a)).run Tryz.prog w = .ok true w := fun d a w => by
    have hb : (a == a) = true := by
      cases a with | mk x =>
      show (x == x) = true
      simp
    simp [Op.equalIn, go_sem, hb]
  have ei : ∀ (d : Nat) (n : Int) (w : World), (Op.equalIn (d + 1) 3 (.int .i64 n) (.int .i64 n)).run Tryz.prog w = .ok true w := fun d n w => by simp [Op.equalIn, go_sem]
  have es9 := es 9998
  have ei9 := ei 9998
  rw [show (10000 : Nat) = 9999 + 1 from rfl, run_equalIn_struct w 9999 _ _ _ (by kernel_rfl) (by kernel_rfl)]
  have hf : (Tryz.prog.fieldsOf 57).toList = _ := congrArg Array.toList (by unfold Program.fieldsOf; rw [Tryz.underlying57])
  rw [hf]
  clear hf
  simp only [Op.eqFields, Sem.run_bind, Sem.run_ite, Sem.run_pure]
  simp [hp, hpi, es9, ei9, Result.andThen]

set_option maxRecDepth 100000 in
set_option maxHeartbeats 1000000 in
theorem samefiles_any {w : World} {a1 a2 : Option Addr} {L : List Fi} (h1 : FilesAt w a1 L) (h2 : FilesAt w a2 L) (c1 c2 : Nat) (hl : L.length ≤ 1000000) :
    Calls Tryz.prog 29 #[.slice a1 L.length c1, .slice a2 L.length c2] w fun e w' => e = .returned (.bool true) ∧ ∃ a, w' = w.drewN a := by
  obtain ⟨n, hn⟩ : ∃ n, n = L.length := ⟨_, rfl⟩
  rw [← hn] at hl ⊢
  have HN := Lib.hid hn
  have H := Lib.hid (And.intro h1 h2)
  have heq := eqfi
  clear hn h1 h2
  have t0 : ((n : Int) != (n : Int)) = false := by simp
  have t0b : (n != n) = false := by simp
  go_enter Tryz.func29, Tryz.ntmps29
  go_wp2
  go_loopw [5] (fun iv wr => ∃ i : Nat, i ≤ n ∧ iv = .int .i64 (i : Int) ∧ ∃ a, wr = w.drewN a) (fun iv _ => n - (intOf iv).toNat)
  case atStart => exact ⟨0, by omega, rfl, 0, rfl⟩
  case round =>
    obtain ⟨i, hi, rfl, a, rfl⟩ := hrel
    by_cases hlt : i < n
    · have hil : i < L.length := by have := HN.out; omega
      obtain ⟨b1, o1, rfl, l1, k1⟩ := H.out.1.resolve_left (fun e => by rw [e] at hil; simp at hil)
      obtain ⟨b2, o2, rfl, l2, k2⟩ := H.out.2.resolve_left (fun e => by rw [e] at hil; simp at hil)
      have d1 := k1 i hil
      have d2 := k2 i hil
      obtain ⟨u, hu⟩ : ∃ u, L[i] = u := ⟨_, rfl⟩
      rw [hu] at d1 d2
      obtain ⟨x0, x1, x2, x3, x4, x5⟩ := d1
      obtain ⟨y0, y1, y2, y3, y4, y5⟩ := d2
      have r1 : (i : Int) < (n : Int) := by omega
      clear k1 k2 hu
      go_wp2
      go_quiet (fail)
      go_wp2
      go_roundw
      case rel => exact ⟨i + 1, by omega, by go_num, _, rfl⟩
      case measure => simp [intOf]; omega
    · obtain rfl : i = n := by omega
      go_wp2
      go_ret
      exact ⟨rfl, _, rfl⟩

def lentF : Fi := ⟨0, -77, 0, 0, ⟨#[]⟩, ⟨#[]⟩⟩
/-- A slice of files with one more behind its end. -/
def LentAt (w : World) (B g len cap : Nat) (L : List Fi) : Prop := len = L.length ∧ Own eFi w B (.slice (some ⟨g, 0, none⟩) (len + 1) cap) (L ++ [lentF])
theorem LentAt.below {w w' : World} {B g len cap : Nat} {L : List Fi} (h : LentAt w B g len cap L) (hb : Below w.heap.size w w') : LentAt w' B g len cap L := ⟨h.1, row_below h.2 hb⟩
theorem LentAt.files {w : World} {B g len cap : Nat} {L : List Fi} (h : LentAt w B g len cap L) : FilesAt w (some ⟨g, 0, none⟩) L := by
  by_cases h0 : L = []
  · exact .inl h0
  · refine .inr ⟨g, 0, rfl, (h.2.lt g rfl).2, fun i hi => ?_⟩
    obtain ⟨g', cap', hv, _, hx⟩ := own_fiAt h.2 (i := i) (by rw [List.length_append]; omega)
    injection hv with i1 i2 i3
    injection i1 with i1
    injection i1 with i1
    subst i1
    rw [List.getElem_append_left hi] at hx
    rw [Nat.zero_add]
    exact hx
theorem src_files {w : World} {a : Option Addr} {len cap : Nat} {L : List Fi} (h : FilesIn w a len cap L) : Src eFi w (.slice a len cap) L := by
  obtain ⟨h1, h2, _, h4⟩ := h
  cases a with
  | none =>
    have hc := h4 rfl
    have hL : L = [] := by
      rcases h2 with h2 | ⟨b, off, h2, _⟩
      · exact h2
      · cases h2
    subst hL
    subst hc
    have h1' : len = 0 := by simpa using h1.symm
    subst h1'
    exact .inl ⟨rfl, rfl⟩
  | some ad =>
    refine .inr ⟨ad, cap, by rw [h1], fun j u hj => ?_⟩
    rcases h2 with h2 | ⟨b, off, h2, hb, hc⟩
    · rw [h2] at hj; simp at hj
    · injection h2 with h2
      subst h2
      have hjl : j < L.length * 6 := by
        have := (List.getElem?_eq_some_iff.1 hj).1
        rwa [eFi.lens] at this
      have hi : j / 6 < L.length := by omega
      have hx := hc (j / 6) hi
      have hg := eFi.get L (j / 6) (j % 6) hi (by omega)
      rw [show j / 6 * 6 + j % 6 = j by omega] at hg
      rw [hg] at hj
      rw [add_off, show off + j = off + j / 6 * 6 + j % 6 by omega]
      have h6 : j % 6 < 6 := by omega
      generalize j % 6 = r at hj h6
      match r, h6 with
      | 0, _ => simp [Fi.cells] at hj; subst hj; exact hx.c0
      | 1, _ => simp [Fi.cells] at hj; subst hj; exact hx.c1
      | 2, _ => simp [Fi.cells] at hj; subst hj; exact hx.c2
      | 3, _ => simp [Fi.cells] at hj; subst hj; exact hx.c3
      | 4, _ => simp [Fi.cells] at hj; subst hj; exact hx.c4
      | 5, _ => simp [Fi.cells] at hj; subst hj; exact hx.c5

set_option maxRecDepth 100000 in
set_option maxHeartbeats 1000000 in
theorem lent_any {w : World} {a : Option Addr} {len cap : Nat} {L : List Fi} (h : FilesIn w a len cap L) (hl : len ≤ 100000) :
    Calls Tryz.prog 5 #[.slice a len cap] w fun e w' => ∃ g cap', e = .returned (.slice (some ⟨g, 0, none⟩) len cap') ∧ LentAt w' w.heap.size g len cap' L ∧ Below w.heap.size w w' := by
  have hsrc := src_files h
  have HS := Lib.hid hsrc
  have HLN := Lib.hid h.1
  clear h hsrc
  go_enter Tryz.func5, Tryz.ntmps5
  go_wp2_with (first
    | (at_builtin; have tok := HO3; refine wpl_app eFi rfl _ _ rfl rfl rfl (l := L) (l2 := [lentF]) (World.ownsRow.alloc HO3.out.1 _) (src_fi w3 lentF) (by rw [HLN.out]; simp; omega) (by have := HO3.out.2.size; simp; omega) ?_; rw [HLN.out]; intro a5 cap5 w5 ho5 hb5 _ _; have ho5' : Own eFi w5 w.heap.size (.slice a5 (len + 1) cap5) (L ++ [lentF]) := ho5; obtain ⟨g5, c5, hv5, hg5, -⟩ := own_fiAt ho5' (i := 0) (by simp); obtain ⟨a6, c6, hv6, hle6, -⟩ := row_form ho5'; injection hv5 with i1 i2 i3; injection hv6 with j1 j2 j3; subst i1 j3; clear i2 i3 j1 j2; have hcap : len ≤ cap5 := (by have := hle6; simp at this; have := HLN.out; omega); have HO5 := Lib.hid (And.intro ho5' ((HO3.out.2.alloc HO3.out.2.size _).trans hb5)); clear ho5 ho5' hb5 hle6)
    | (at_builtin; refine wpl_app eFi rfl _ _ rfl rfl rfl (l := []) (l2 := L) (World.ownsRow_nil _ w.heap.size _ _) HS.out (by rw [HLN.out]; simp; omega) (Nat.le_refl _) ?_; rw [show ([] : List Fi).length + L.length = len from by rw [HLN.out]; simp]; intro a3 cap3 w3 ho3 hb3 _ _; have ho3' : Own eFi w3 w.heap.size (.slice a3 len cap3) L := ho3; have HO3 := Lib.hid (And.intro ho3' hb3); clear ho3 ho3' hb3))
  go_ret
  exact ⟨g5, cap5, rfl, ⟨HLN.out.symm, HO5.out.1⟩, HO5.out.2⟩

set_option maxRecDepth 100000 in
set_option maxHeartbeats 1000000 in
theorem stays_any {w : World} {B g len cap cap2 : Nat} {a : Option Addr} {L : List Fi} (h : LentAt w B g len cap L) (h2 : FilesAt w a L) (hl : len ≤ 100000) :
    Calls Tryz.prog 16 #[.slice (some ⟨g, 0, none⟩) len cap, .slice a len cap2] w fun e w' => e = .returned (.bool true) ∧ Below w.heap.size w w' := by
  obtain ⟨hn, ho⟩ := h
  have hs := samefiles_any (LentAt.files ⟨hn, ho⟩) h2 cap cap2 (by omega)
  rw [← hn] at hs
  have HS := Lib.hid hs
  obtain ⟨a6, c6, hv6, hle6, -⟩ := row_form ho
  injection hv6 with j1 j2 j3
  subst j3
  have hcap : len + 1 ≤ cap := by rw [List.length_append] at hle6; simp at hle6; omega
  obtain ⟨g', cap', hv, hg, hx⟩ := own_fiAt ho (i := len) (by rw [List.length_append]; simp; omega)
  injection hv with i1 i2 i3
  injection i1 with i1
  injection i1 with i1
  subst i1
  have hx2 : (L ++ [lentF])[len]'(by rw [List.length_append]; simp; omega) = lentF := by
    rw [List.getElem_append_right (by omega)]
    simp [hn]
  rw [hx2] at hx
  obtain ⟨-, c1, -, -, -, -⟩ := hx
  have c1' : w.cell? ⟨g, len * 6 + 1, none⟩ = some (.int .i64 (-77)) := c1
  have r1 : (len : Int) < (len : Int) + 1 := by omega
  clear hs h2 ho hn hle6 j1 j2 i2 i3 hx2 c1
  go_enter Tryz.func16, Tryz.ntmps16
  go_wp2_with (go_at_call 29; refine HS.out.mono ?_; rintro _ w2 ⟨rfl, d2, hw2⟩; have c2 : w2.cell? ⟨g, len * 6 + 1, none⟩ = some (.int .i64 (-77)) := (by rw [hw2]; exact c1'); have HW := Lib.hid hw2; clear hw2; simp only [])
  go_ret
  exact ⟨rfl, by rw [HW.out]; exact below_drewN (Below.refl _ _) _⟩
end Go.Proofs.YtnfpnmfgppamgaaGreat
