/-
  Book: pairs of texts that can be read; the kind Keys rests on it.
-/
import Derived.Test.YtmodgjjlgobjcaaGreatBk3
import Derived.Test.YtmodgjjlgobjcaaGreatShelf
import Derived.StillTailTactics
namespace Go.Proofs.YtmodgjjlgobjcaaGreat
open Go.RowKit

abbrev KV := ByteArray × ByteArray
def RdP (w : World) (a : Option Addr) (c : Nat) (l : List KV) : Prop := l.length ≤ c ∧ c ≤ 9223372036854775807 ∧ (l = [] ∨ ∃ b off, a = some ⟨b, off, none⟩ ∧ ∀ i (hi : i < l.length), w.cell? ⟨b, off + i * 2, none⟩ = some (.string l[i].1) ∧ w.cell? ⟨b, off + i * 2 + 1, none⟩ = some (.string l[i].2))
theorem RdP.below {n : Nat} {w w' : World} {a : Option Addr} {c : Nat} {l : List KV} (h : RdP w a c l) (hb : Below w.heap.size w w') : RdP w' a c l :=
  ⟨h.1, h.2.1, h.2.2.imp id (fun ⟨b, off, h1, h2⟩ => ⟨b, off, h1, fun i hi => by
    have k := h2 i hi
    exact ⟨(hb.cell (p := ⟨b, off + i * 2, none⟩) (World.block_lt_of_cell? _ _ k.1)).trans k.1, (hb.cell (p := ⟨b, off + i * 2 + 1, none⟩) (World.block_lt_of_cell? _ _ k.2)).trans k.2⟩⟩)⟩
theorem tn_drewN {F : Nat → Prop} (w : World) (d : Nat) : Tn F w (w.drewN d) := ⟨rfl, rfl, rfl, Nat.le_refl _, fun _ _ _ => rfl⟩
def cKV (p : KV) : List Value := [.string p.1, .string p.2]
theorem eKV : Elm Tryz.prog 59 74 2 32 cKV where
  und := Tryz.underlying59
  info := by
    have h : (Tryz.prog.info? 74).map (fun i => (i.zero, i.size, i.bytes)) = some (some (.agg #[.string ByteArray.empty, .string ByteArray.empty]), 2, 32) := by kernel_rfl
    obtain ⟨i, hi, h1, h2, h3⟩ := info_parts h
    exact ⟨i, _, hi, h1, h2, h3, rfl⟩
  pos := by decide
  few := by decide
  len := fun _ => rfl
  one := fun h u hu => by
    simp [cKV] at hu
    rcases hu with rfl | rfl <;> rfl
theorem kv_cells {w : World} {B : Nat} {v : Value} {ms : List KV} (h : Own eKV w B v ms) {i : Nat} (hi : i < ms.length) :
    ∃ g cap, v = .slice (some ⟨g, 0, none⟩) ms.length cap ∧ ms.length ≤ cap ∧ B ≤ g ∧ g < w.heap.size ∧ w.cell? ⟨g, i * 2, none⟩ = some (.string ms[i].1) ∧ w.cell? ⟨g, i * 2 + 1, none⟩ = some (.string ms[i].2) := by
  have h0 := h
  obtain ⟨h1, h2⟩ := h
  rcases h2 with ⟨_, h3⟩ | ⟨g, cap, cur, rfl, hg, hh, hn, hc, hcl, htk⟩
  · omega
  · have c0 := h0.cellAt (i * 2) (by omega)
    have c1 := h0.cellAt (i * 2 + 1) (by omega)
    have e0 := eKV.get ms i 0 hi (by decide)
    have e1 := eKV.get ms i 1 hi (by decide)
    rw [Nat.add_zero] at e0
    rw [e0] at c0
    rw [e1] at c1
    exact ⟨g, cap, rfl, hn, hg, (Array.getElem?_eq_some_iff.1 hh).1, c0, c1⟩
theorem rdP_own {w : World} {B : Nat} {v : Value} {l : List KV} (h : Own eKV w B v l) : ∃ a c, v = .slice a l.length c ∧ RdP w a c l := by
  obtain ⟨a, c, rfl, h1, h2⟩ := row_form h
  refine ⟨a, c, rfl, h1, h2, ?_⟩
  by_cases h0 : l = []
  · exact .inl h0
  · have hp : 0 < l.length := List.length_pos_iff.2 h0
    obtain ⟨g, cap, e, _, _, _, _, _⟩ := kv_cells h hp
    injection e with e1 e2 e3
    subst e1
    refine .inr ⟨g, 0, rfl, fun i hi => ?_⟩
    obtain ⟨g', cap', e, _, _, _, k1, k2⟩ := kv_cells h hi
    injection e with e1 e2 e3
    injection e1 with e1
    injection e1 with e1
    subst e1
    rw [Nat.zero_add]
    exact ⟨k1, k2⟩
theorem str_eq (a : ByteArray) : (a.toList == a.toList) = true := by simp
theorem str_ne {a b : ByteArray} (h : a ≠ b) : (a.toList == b.toList) = false := by
  refine beq_eq_false_iff_ne.2 (fun e => h ?_)
  rw [ByteArray.toList_eq, ByteArray.toList_eq] at e
  cases a with | mk a => cases b with | mk b =>
  exact congrArg ByteArray.mk (Array.toList_inj.1 e)
theorem beq_ba (p a : ByteArray) : (p == a) = (p.toList == a.toList) := by
  rw [ByteArray.toList_eq, ByteArray.toList_eq]
  cases p with | mk x => cases a with | mk y =>
    show (x == y) = (x.toList == y.toList)
    by_cases h : x = y
    · subst h; simp
    · have h2 : ¬ x.toList = y.toList := fun e => h (Array.toList_inj.1 e)
      rw [beq_eq_false_iff_ne.2 h, beq_eq_false_iff_ne.2 h2]
theorem eqstr (d : Nat) (p a : ByteArray) (w : World) : (Op.equalIn (d + 1) 9 (.string p) (.string a)).run Tryz.prog w = .ok (p.toList == a.toList) w := by
  rw [← beq_ba]
  simp [Op.equalIn, go_sem]
theorem eqkv (p q a b : ByteArray) (w : World) : (Op.equalIn 10000 74 (.agg #[.string p, .string q]) (.agg #[.string a, .string b])).run Tryz.prog w = .ok ((p.toList == a.toList) && (q.toList == b.toList)) w := by
  have hc : Tryz.prog.cellsOf 9 = 1 := by kernel_rfl
  obtain ⟨i, hi⟩ : ∃ i, Tryz.prog.info? 9 = some i := Option.isSome_iff_exists.1 (by kernel_rfl)
  have hp : ∀ (xs : Array Value) (o : Nat) (v : Value) (w : World), xs[o]? = some v → (part 9 xs o).run Tryz.prog w = .ok v w := by
    intro xs o v w h
    simp [part, Tryz.isAgg9, h, Result.andThen]
  rw [show (10000 : Nat) = 9999 + 1 from rfl, run_equalIn_array w 9999 _ _ Tryz.underlying74 hi, hc]
  simp [List.range, List.range.loop, Op.eqItems, Result.andThen, hp, eqstr 9998]
  cases e1 : (p.toList == a.toList) <;> cases e2 : (q.toList == b.toList) <;> simp_all

theorem ret_b' {a b : Bool} (h : a = b) : Ending.returned (.bool a) = .returned (.bool b) := by rw [h]
theorem eSl : Elm Tryz.prog 39 59 1 24 sCell where
  und := Tryz.underlying39
  info := by
    have h : (Tryz.prog.info? 59).map (fun i => (i.zero, i.size, i.bytes)) = some (some (.slice none 0 0), 1, 24) := by kernel_rfl
    obtain ⟨i, hi, h1, h2, h3⟩ := info_parts h
    exact ⟨i, _, hi, h1, h2, h3, rfl⟩
  pos := by decide
  few := by decide
  len := fun _ => rfl
  one := sCell_one
theorem RdP.drewN {w : World} {a : Option Addr} {c : Nat} {l : List KV} (h : RdP w a c l) (n : Nat) : RdP (w.drewN n) a c l := h.below (n := 0) ((tn_drewN (F := fun _ => False) w n).below (Nat.le_refl _) (fun _ e => e.elim))
set_option maxRecDepth 100000 in
set_option maxHeartbeats 1000000 in
theorem samekeys_quiet {w : World} {a b : Option Addr} {ca cb : Nat} {A B : List KV} (ha : RdP w a ca A) (hb : RdP w b cb B) (hA : A.length ≤ 100000) (hB : B.length ≤ 100000) :
    Calls Tryz.prog 12 #[.slice a A.length ca, .slice b B.length cb] w fun e w' => e = .returned (.bool (decide (A = B))) ∧ ∃ m, w' = w.drewN m := by
  obtain ⟨n, hn⟩ : ∃ n, n = A.length := ⟨_, rfl⟩
  obtain ⟨m, hm⟩ : ∃ m, m = B.length := ⟨_, rfl⟩
  have heq := eqkv
  rw [← hn] at hA ⊢
  rw [← hm] at hB ⊢
  have HA := Lib.hid ha
  have HB := Lib.hid hb
  have HN := Lib.hid (And.intro hn hm)
  clear ha hb hn hm
  by_cases hnm : n = m
  · subst hnm
    go_enter Tryz.func12, Tryz.ntmps12
    go_wp2
    go_loopw [5] (fun x wr => ∃ i : Nat, i ≤ n ∧ x = .int .i64 (i : Int) ∧ A.take i = B.take i ∧ ∃ m, wr = w.drewN m) (fun x _ => n - (intOf x).toNat)
    case atStart => exact ⟨0, by omega, rfl, by simp, 0, rfl⟩
    case round =>
      obtain ⟨i, hi, rfl, htk, d9, hwr⟩ := hrel
      have HWR := Lib.hid hwr
      have HTK := Lib.hid htk
      clear htk hwr
      by_cases hlt : i < n
      · have hia : i < A.length := by have := HN.out.1; omega
        have hib : i < B.length := by have := HN.out.2; omega
        obtain ⟨g, o1, rfl, hca⟩ := HA.out.2.2.resolve_left (fun e => by rw [e] at hia; simp at hia)
        obtain ⟨g2, o2, rfl, hcb⟩ := HB.out.2.2.resolve_left (fun e => by rw [e] at hib; simp at hib)
        have c1 : wr.cell? ⟨g, o1 + i * 2, none⟩ = some (.string A[i].1) := by rw [HWR.out]; exact (hca i hia).1
        have c2 : wr.cell? ⟨g, o1 + i * 2 + 1, none⟩ = some (.string A[i].2) := by rw [HWR.out]; exact (hca i hia).2
        have c3 : wr.cell? ⟨g2, o2 + i * 2, none⟩ = some (.string B[i].1) := by rw [HWR.out]; exact (hcb i hib).1
        have c4 : wr.cell? ⟨g2, o2 + i * 2 + 1, none⟩ = some (.string B[i].2) := by rw [HWR.out]; exact (hcb i hib).2
        obtain ⟨x, hx⟩ : ∃ x, A[i] = x := ⟨_, rfl⟩
        obtain ⟨y, hy⟩ : ∃ y, B[i] = y := ⟨_, rfl⟩
        rw [hx] at c1 c2
        rw [hy] at c3 c4
        obtain ⟨x1, x2⟩ := x
        obtain ⟨y1, y2⟩ := y
        have HXY := Lib.hid (And.intro hx hy)
        clear hca hcb hx hy
        have q1 : (i : Int) < (n : Int) := by omega
        have q2 : (0 : Int) ≤ (i : Int) := by omega
        by_cases hxy : x1 = y1 ∧ x2 = y2
        · obtain ⟨rfl, rfl⟩ := hxy
          have s1 := str_eq x1
          have s2 := str_eq x2
          go_wp2_with fail
          go_quiet (fail)
          go_wp2
          go_roundw
          case rel =>
            refine ⟨i + 1, by omega, by go_num, ?_, by first | exact ⟨_, HWR.out⟩ | exact ⟨_, by rw [HWR.out]; exact World.drewN_drewN _ _ _⟩⟩
            rw [List.take_succ_eq_append_getElem hia, List.take_succ_eq_append_getElem hib, HTK.out, HXY.out.1, HXY.out.2]
          case measure => simp [intOf]; omega
        · have hne : A ≠ B := fun e => by
            subst e
            have := HXY.out.1.symm.trans HXY.out.2
            injection this with e1 e2
            exact hxy ⟨e1, e2⟩
          have HNE := Lib.hid hne
          have hs : (x1.toList == y1.toList) = false ∨ (x1.toList == y1.toList) = true ∧ (x2.toList == y2.toList) = false := by
            by_cases e1 : x1 = y1
            · subst e1
              exact Or.inr ⟨str_eq _, str_ne (fun e => hxy ⟨rfl, e⟩)⟩
            · exact Or.inl (str_ne e1)
          clear hxy hne
          rcases hs with s1 | ⟨s1, s2⟩
          all_goals
            go_wp2_with fail
            go_quiet (fail)
            go_wp2
            go_ret
            exact ⟨ret_b' (by rw [decide_eq_false HNE.out]), by first | exact ⟨_, HWR.out⟩ | exact ⟨_, by rw [HWR.out]; exact World.drewN_drewN _ _ _⟩⟩
      · obtain rfl : i = n := by omega
        have he : A = B := by
          have := HTK.out
          rwa [List.take_of_length_le (by have := HN.out.1; omega), List.take_of_length_le (by have := HN.out.2; omega)] at this
        have HE := Lib.hid he
        clear he
        go_wp2
        go_ret
        exact ⟨ret_b' (by rw [decide_eq_true HE.out]), _, HWR.out⟩
  · have hne : A ≠ B := fun e => by subst e; exact hnm (HN.out.1.trans HN.out.2.symm)
    have HNE := Lib.hid hne
    have t1 : ((n : Int) != (m : Int)) = true := by simp; omega
    have t1n : (n != m) = true := by simpa using hnm
    clear hne
    go_enter Tryz.func12, Tryz.ntmps12
    go_wp2
    go_ret
    exact ⟨ret_b' (by rw [decide_eq_false HNE.out]), 0, rfl⟩

end Go.Proofs.YtmodgjjlgobjcaaGreat
