/-
  Book: pairs that are lent, and whether they stay; a kind that is full.
-/
import Derived.Test.YtkeggcfnoonakaaGreatMgM
import Derived.Test.YtkeggcfnoonakaaGreatBk3
set_option linter.unusedSimpArgs false
set_option linter.unusedVariables false
namespace Go.Proofs.YtkeggcfnoonakaaGreat
open Go.RowKit

abbrev tMark : ByteArray := ⟨#[109, 97, 114, 107]⟩
abbrev pMark : KV := (tMark, ⟨#[]⟩)
/-- Pairs that can be read; a nil slice has no places. -/
def RdQ (w : World) (a : Option Addr) (c : Nat) (l : List KV) : Prop := RdP w a c l ∧ (a = none → c = 0)
theorem RdQ.src {w : World} {a : Option Addr} {c : Nat} {l : List KV} (h : RdQ w a c l) : Src eKV w (.slice a l.length c) l := by
  obtain ⟨⟨_, _, h1⟩, h2⟩ := h
  rcases h1 with rfl | ⟨b, off, rfl, hc⟩
  · cases a with
    | none => rw [h2 rfl]; exact .inl ⟨rfl, rfl⟩
    | some ad => exact .inr ⟨ad, c, rfl, fun j u hj => by simp at hj⟩
  · refine .inr ⟨_, c, rfl, fun j u hj => ?_⟩
    rw [add_off]
    have hlen := eKV.lens l
    have hjl : j < l.length * 2 := by
      rw [← hlen]
      exact (List.getElem?_eq_some_iff.1 hj).1
    have hi : j / 2 < l.length := by omega
    have hg := eKV.get l (j / 2) (j % 2) hi (by omega)
    rw [show j / 2 * 2 + j % 2 = j by omega] at hg
    rw [hg] at hj
    obtain ⟨c0, c1⟩ := hc (j / 2) hi
    rcases (by omega : j % 2 = 0 ∨ j % 2 = 1) with hr | hr
    · rw [hr] at hj
      have : u = .string l[j / 2].1 := by simpa [cKV] using hj.symm
      rw [this, show off + j = off + j / 2 * 2 by omega]
      exact c0
    · rw [hr] at hj
      have : u = .string l[j / 2].2 := by simpa [cKV] using hj.symm
      rw [this, show off + j = off + j / 2 * 2 + 1 by omega]
      exact c1
/-- The mark behind a lent list. -/
def MarkAt (w : World) (s : Sl) (l : List KV) : Prop := ∃ g, s.a = some ⟨g, 0, none⟩ ∧ l.length + 1 ≤ s.cap ∧ s.cap ≤ 9223372036854775807 ∧ w.cell? ⟨g, l.length * 2, none⟩ = some (.string tMark)
theorem MarkAt.tn {G : Nat → Prop} {w w' : World} {s : Sl} {l : List KV} (h : MarkAt w s l) (ht : Tn G w w') (hG : ∀ q, s.val.ownBlock = some q → ¬ G q) : MarkAt w' s l := by
  obtain ⟨g, h1, h2, h3, h4⟩ := h
  refine ⟨g, h1, h2, h3, ht.cell h4 (hG g ?_)⟩
  show Value.ownBlock (.slice s.a s.n s.cap) = _
  rw [h1]
  rfl
theorem MarkAt.below {w w' : World} {s : Sl} {l : List KV} (h : MarkAt w s l) (hb : Below w.heap.size w w') : MarkAt w' s l := h.tn (Tn.ofBelow (F := fun _ => False) hb) (fun _ _ e => e)
set_option maxRecDepth 100000 in
theorem lentk_any {w : World} {a : Option Addr} {n c : Nat} {l : List KV} (hs : Src eKV w (.slice a n c) l) (hn : l.length = n) (hl : n ≤ 1000000) : Calls Tryz.prog 8 #[.slice a n c] w fun e w' =>
    ∃ s : Sl, e = .returned s.val ∧ s.n = n ∧ Own eKV w' w.heap.size s.val l ∧ MarkAt w' s l ∧ Below w.heap.size w w' := by
  have HS := Lib.hid hs
  have HN : Hid (([] : List KV).length + l.length = n) := by unfold Hid; rw [hn]; simp
  have HN2 := Lib.hid hn
  clear hs hn
  go_enter Tryz.func8, Tryz.ntmps8
  go_wp2_with (first
    | (at_builtin; refine wpl_app eKV rfl _ _ rfl rfl rfl (l := l) (l2 := [pMark]) (B := w.heap.size) (row_below H3.out.1 ((Below.refl _ _).alloc (Nat.le_refl _) _)) (src_one w3 pMark _ _ rfl 1) (by rw [HN2.out]; simp; omega) (by have := H3.out.2.size; simp; omega) ?_; rw [HN2.out]; intro a5 cap5 w5 ho5 hb5 _ _
       obtain ⟨g, rfl⟩ : ∃ g, a5 = some ⟨g, 0, none⟩ := (by
         rcases ho5.2 with ⟨e, e0⟩ | ⟨g, c', cur, e, _⟩
         · simp at e0
         · injection e with e1 _ _; exact ⟨g, e1⟩)
       have hcap : n + 1 ≤ cap5 ∧ cap5 ≤ 9223372036854775807 := (by
         obtain ⟨a', c', e, h1, h2⟩ := row_form ho5
         injection e with _ _ e3
         rw [List.length_append, HN2.out] at h1
         subst e3
         exact ⟨h1, h2⟩)
       have hc1 := hcap.1
       have hc2 := hcap.2
       have H5 := Lib.hid (And.intro ho5 ((H3.out.2.alloc H3.out.2.size (.cells #[.string tMark, .string ⟨#[]⟩] 54)).trans hb5)); clear ho5 hb5 hcap)
    | (at_builtin; refine wpl_app eKV (l := []) rfl _ _ rfl rfl rfl (World.ownsRow_nil _ w.heap.size _ _) HS.out (by rw [HN.out]; omega) (Nat.le_refl _) ?_; rw [HN.out, List.nil_append]; intro a3 cap3 w3 ho3 hb3 _ _; have H3 := Lib.hid (And.intro ho3 hb3); clear ho3 hb3))
  go_ret
  have ho := H5.out.1
  have hlen : ([pMark] : List KV).length = 1 := rfl
  refine ⟨⟨some ⟨g, 0, none⟩, n, cap5⟩, rfl, rfl, ?_, ?_, H5.out.2⟩
  · have h2 : w5.ownsRow w.heap.size 54 2 (.slice (some ⟨g, 0, none⟩) (n + 1) cap5) (n + 1) (l.flatMap cKV ++ [pMark].flatMap cKV) := by
      have := ho
      unfold Own at this
      rw [List.length_append, HN2.out, List.flatMap_append] at this
      exact this
    have h3 := row_prefix h2 (by rw [eKV.lens, HN2.out])
    unfold Own
    rw [HN2.out]
    exact h3
  · obtain ⟨g', cap', e, _, _, _, k0, _⟩ := kv_cells ho (i := l.length) (by simp)
    injection e with e1 _ _
    injection e1 with e1
    injection e1 with e1
    subst e1
    refine ⟨g, rfl, by rw [HN2.out]; exact hc1, hc2, ?_⟩
    have hm : (l ++ [pMark])[l.length]'(by simp) = pMark := by simp
    rw [hm] at k0
    exact k0
set_option maxRecDepth 100000 in
theorem staysk_any {w : World} {s : Sl} {cb : Nat} {l : List KV} {ao : Option Addr} (hx : RdP w s.a s.cap l) (hm : MarkAt w s l) (hy : RdP w ao cb l) (hl : l.length ≤ 100000) : Calls Tryz.prog 16 #[.slice s.a l.length s.cap, .slice ao l.length cb] w fun e w' => e = .returned (.bool true) ∧ ∃ d, w' = w.drewN d := by
  have hS := Lib.hid (samekeys_quiet hx hy hl hl)
  obtain ⟨g, hsa, hcap, hc2, hc⟩ := hm
  obtain ⟨n, hn⟩ : ∃ n, l.length = n := ⟨_, rfl⟩
  obtain ⟨cap, hcp⟩ : ∃ c, s.cap = c := ⟨_, rfl⟩
  rw [hsa, hn, hcp] at hS ⊢
  rw [hn] at hc hcap hl
  rw [hcp] at hcap hc2
  have e1 : IntKind.i64.wrap ((n : Int) + 1) = (n : Int) + 1 := IntWalk.i64_in _ (by omega)
  have e2 : IntKind.i64.wrap (n : Int) = (n : Int) := IntWalk.i64_in _ (by omega)
  have b3 : ((n : Int) + 1) ≤ (cap : Int) := by omega
  have b4 : 0 ≤ (n : Int) + 1 := by omega
  have b5 : ((n : Int) + 1).toNat = n + 1 := by omega
  have b6 : (n : Int) < (n : Int) + 1 := by omega
  have se := str_eq tMark
  clear hx hy hsa hn hcp
  go_enter Tryz.func16, Tryz.ntmps16
  go_wp2_with (go_at_call 12; refine hS.out.mono ?_; rintro e w3 ⟨rfl, d3, hw3⟩; rw [show decide (l = l) = true from decide_eq_true rfl]; have d4 : w3.cell? ⟨g, n * 2, none⟩ = some (.string tMark) := (by rw [hw3]; exact hc); have H3 := Lib.hid hw3; clear hw3 hc)
  go_ret
  exact ⟨rfl, _, H3.out⟩
/-- A kind that is full takes no more. -/
theorem full_Keys {w : World} {bk n co : Nat} {ao : Option Addr} (c0 : w.cell? ⟨bk, 6, none⟩ = some (.slice ao n co)) (hn : 250 ≤ n) (v : Value) :
    Calls Tryz.prog 17 #[.pointer (some ⟨bk, 0, none⟩), v] w fun e w' => e = .returned (.tuple #[]) ∧ w' = w := by
  have t1 : ¬ (n : Int) < 250 := by omega
  go_enter Tryz.func17, Tryz.ntmps17
  go_wp2_with fail
  go_end0
  exact ⟨rfl, rfl⟩
end Go.Proofs.YtkeggcfnoonakaaGreat
