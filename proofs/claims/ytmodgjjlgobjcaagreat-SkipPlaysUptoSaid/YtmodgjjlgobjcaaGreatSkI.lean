/-
  Last.
-/
import Derived.Test.YtmodgjjlgobjcaaGreatSkH
import Derived.LaidEql
namespace Go.Proofs.YtmodgjjlgobjcaaGreat
open Go.RowKit

theorem index0 (x0 x1 x2 x3 x4 x5 x6 x7 x8 x9 x10 x11 : Value) (w : World) : (Instr.index 31 (.agg #[x0, x1, x2, x3, x4, x5, x6, x7, x8, x9, x10, x11]) (.int .i64 0)).run Tryz.prog w = .ok x0 w := by kernel_rfl

set_option maxRecDepth 100000 in
theorem ptr_same (a : Nat) (w : World) : (binOp BinOp.eql 30 (.pointer (some ⟨a, 0, none⟩)) (.pointer (some ⟨a, 0, none⟩))).run Tryz.prog w = .ok (.bool true) w := by
  obtain ⟨i, hi⟩ : ∃ i, Tryz.prog.info? 33 = some i := Option.isSome_iff_exists.1 (by kernel_rfl)
  have h : ∀ d, (Op.equalIn (d + 1) 30 (.pointer (some ⟨a, 0, none⟩)) (.pointer (some ⟨a, 0, none⟩))).run Tryz.prog w = .ok true w := by
    intro d
    simp only [Op.equalIn, Sem.run_bind, run_underlying Tryz.underlying30, Result.andThen_ok]
    simp [sizeOf, typeInfo, hi, run_sameAddr_same]
  have h2 := h 9999
  simp only [binOp, Op.equal, Sem.run_bind]
  rw [show Op.equalIn Op.maxDepth = Op.equalIn (9999 + 1) from rfl, h2]
  rfl
set_option maxRecDepth 100000 in
theorem ptr_other {a b : Nat} {w : World} (hne : a ≠ b) (ha : PlainB w a) (hb : PlainB w b) : (binOp BinOp.eql 30 (.pointer (some ⟨a, 0, none⟩)) (.pointer (some ⟨b, 0, none⟩))).run Tryz.prog w = .ok (.bool false) w := by
  obtain ⟨i, hi⟩ : ∃ i, Tryz.prog.info? 33 = some i := Option.isSome_iff_exists.1 (by kernel_rfl)
  have hz : (Tryz.prog.info? 33).map (·.size) = some 15 := by kernel_rfl
  have hz2 : i.size ≠ 0 := by
    rw [hi] at hz
    simp only [Option.map_some, Option.some.injEq] at hz
    omega
  obtain ⟨ca, ta, ha⟩ := ha
  obtain ⟨cb, tb, hb⟩ := hb
  have h : ∀ d, (Op.equalIn (d + 1) 30 (.pointer (some ⟨a, 0, none⟩)) (.pointer (some ⟨b, 0, none⟩))).run Tryz.prog w = .ok false w := by
    intro d
    simp only [Op.equalIn, Sem.run_bind, run_underlying Tryz.underlying30, Result.andThen_ok]
    simp [sizeOf, typeInfo, hi, hz2, run_sameAddr_other w (a := ⟨a, 0, none⟩) (b := ⟨b, 0, none⟩) (fun e => hne (by injection e)) ha hb]
  have h2 := h 9999
  simp only [binOp, Op.equal, Sem.run_bind]
  rw [show Op.equalIn Op.maxDepth = Op.equalIn (9999 + 1) from rfl, h2]
  rfl

/-- The pair ahead of a key: its key, its value. -/
def lastOf (L : List Nd) (k : ByteArray) : ByteArray × ByteArray × Bool := match L[below L k - 1]?, below L k with
  | some n, _ + 1 => (n.k, n.v, true)
  | _, _ => (⟨#[]⟩, ⟨#[]⟩, false)

set_option maxRecDepth 100000 in
theorem last_any {w : World} {sb : Nat} {L : List Nd} {fr : Bool} (s : SkAt w sb L fr) (k : ByteArray) :
    Calls Tryz.prog 14 #[.pointer (some ⟨sb, 0, none⟩), .string k] w fun e w' =>
      e = .returned (.tuple #[.string (lastOf L k).1, .string (lastOf L k).2.1, .bool (lastOf L k).2.2]) ∧ Below w.heap.size w w' := by
  have hix := index0
  have hps := ptr_same
  have HS := Lib.hid s
  have HA := Lib.hid (below_le L k)
  cases hm : below L k with
  | zero =>
    have e0 : lastOf L k = (⟨#[]⟩, ⟨#[]⟩, false) := by
      unfold lastOf
      rw [hm]
      cases L[0 - 1]? <;> rfl
    have HE := Lib.hid e0
    have HM := Lib.hid hm
    rw [e0]
    clear s e0 hm
    go_enter Tryz.func14, Tryz.ntmps14
    go_wp2_with fail
    refine (before_lit HS.out k).mono ?_
    rintro _ W1 ⟨f, hfp, rfl, hb1⟩
    have h0 : blk sb L (f 0) = sb := by rw [pos0 HS.out.hts (hfp 0 (by omega)), HM.out]; rfl
    have HB := Lib.hid hb1
    clear hfp hb1
    simp only []
    rw [h0]
    clear h0
    go_wp2
    refine ⟨rfl, _, ?_, rfl, HB.out⟩
    simp [results, Tryz.results14, go_sem]
  | succ q =>
    have hql : q < L.length := by have := HA.out; omega
    obtain ⟨n, hn⟩ : ∃ n, L[q]? = some n := ⟨_, List.getElem?_eq_getElem hql⟩
    have e0 : lastOf L k = (n.k, n.v, true) := by
      unfold lastOf
      rw [hm, Nat.add_sub_cancel, hn]
    have HM := Lib.hid (And.intro hm hn)
    have hne : n.b ≠ sb := fun e => (List.nodup_cons.1 s.nod).1 (e ▸ List.mem_map_of_mem (List.mem_of_getElem? hn))
    rw [e0]
    obtain ⟨nk, hnk⟩ : ∃ nk, n.k = nk := ⟨_, rfl⟩
    obtain ⟨nv, hnv⟩ : ∃ nv, n.v = nv := ⟨_, rfl⟩
    rw [hnk, hnv]
    have HKV := Lib.hid (And.intro hnk hnv)
    clear s e0 hm hn hnk hnv
    go_enter Tryz.func14, Tryz.ntmps14
    go_wp2_with fail
    refine (before_lit HS.out k).mono ?_
    rintro _ W1 ⟨f, hfp, rfl, hb1⟩
    have h0 : blk sb L (f 0) = n.b := by rw [pos0 HS.out.hts (hfp 0 (by omega)), HM.out.1, blk_succ HM.out.2]
    have HB := Lib.hid hb1
    have hnd := (HS.out.below hb1).node q hql
    rw [(List.getElem?_eq_some_iff.1 HM.out.2).2] at hnd
    have x0 := hnd.c0
    have x1 := hnd.c1
    rw [HKV.out.1] at x0
    rw [HKV.out.2] at x1
    have hpls := (HS.out.below hb1).pl.1
    have hplb := (HS.out.below hb1).pl.2 n (List.mem_of_getElem? HM.out.2)
    obtain ⟨nb, hnb⟩ : ∃ nb, n.b = nb := ⟨_, rfl⟩
    rw [hnb] at x0 x1 h0 hne hplb
    have te : (nb == sb) = false := by simpa using hne
    have hpo := ptr_other (w := W1) hne hplb hpls
    clear hfp hb1 hnd hnb hpls hplb
    simp only []
    rw [h0]
    clear h0
    go_wp2_with fail
    go_quiet (fail)
    go_wp2
    refine ⟨rfl, _, ?_, rfl, HB.out.trans (Tn.below (F := fun _ => False) ⟨rfl, rfl, rfl, Nat.le_refl _, fun _ _ _ => rfl⟩ HB.out.size (fun _ e => e.elim))⟩
    simp [results, Tryz.results14, go_sem]
end Go.Proofs.YtmodgjjlgobjcaaGreat
