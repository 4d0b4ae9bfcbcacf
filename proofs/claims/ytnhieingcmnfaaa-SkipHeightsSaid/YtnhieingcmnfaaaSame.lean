/-
  SameKeys.
-/
import Derived.Test.YtnhieingcmnfaaaHeightsP
import Derived.ChangeKeysEq
namespace Go.Proofs.Ytnhieingcmnfaaa
open Go.RowKit

theorem beq_ba (p a : ByteArray) : (p == a) = (p.toList == a.toList) := by
  rw [ByteArray.toList_eq, ByteArray.toList_eq]
  cases p with | mk x => cases a with | mk y =>
    show (x == y) = (x.toList == y.toList)
    by_cases h : x = y
    · subst h; simp
    · have h2 : ¬ x.toList = y.toList := fun e => h (Array.toList_inj.1 e)
      rw [beq_eq_false_iff_ne.2 h, beq_eq_false_iff_ne.2 h2]
theorem eqstr (d : Nat) (p a : ByteArray) (w : World) : (Op.equalIn (d + 1) 9 (.string p) (.string a)).run Try.prog w = .ok (p.toList == a.toList) w := by
  rw [← beq_ba]
  simp [Op.equalIn, go_sem]
theorem eqkv (p q a b : ByteArray) (w : World) : (Op.equalIn 10000 35 (.agg #[.string p, .string q]) (.agg #[.string a, .string b])).run Try.prog w = .ok ((p.toList == a.toList) && (q.toList == b.toList)) w := by
  have hc : Try.prog.cellsOf 9 = 1 := by kernel_rfl
  obtain ⟨i, hi⟩ : ∃ i, Try.prog.info? 9 = some i := Option.isSome_iff_exists.1 (by kernel_rfl)
  have hp : ∀ (xs : Array Value) (o : Nat) (v : Value) (w : World), xs[o]? = some v → (part 9 xs o).run Try.prog w = .ok v w := by
    intro xs o v w h
    simp [part, Try.isAgg9, h, Result.andThen]
  rw [show (10000 : Nat) = 9999 + 1 from rfl, run_equalIn_array w 9999 _ _ Try.underlying35 hi, hc]
  simp [List.range, List.range.loop, Op.eqItems, Result.andThen, hp, eqstr 9998]
  cases e1 : (p.toList == a.toList) <;> cases e2 : (q.toList == b.toList) <;> simp_all

theorem ret_b' {a b : Bool} (h : a = b) : Ending.returned (.bool a) = .returned (.bool b) := by rw [h]

set_option maxRecDepth 100000 in
set_option maxHeartbeats 1000000 in
theorem samekeys_any {w : World} {a b : Option Addr} {A B : List (ByteArray × ByteArray)} (ha : KvAt w a A) (hb : KvAt w b B) (ca cb : Nat) (hA : A.length ≤ 100000) (hB : B.length ≤ 100000) :
    Calls Try.prog 15 #[.slice a A.length ca, .slice b B.length cb] w fun e w' => e = .returned (.bool (decide (A = B))) ∧ Below w.heap.size w w' := by
  obtain ⟨n, hn⟩ : ∃ n, n = A.length := ⟨_, rfl⟩
  obtain ⟨m, hm⟩ : ∃ m, m = B.length := ⟨_, rfl⟩
  have heq := eqkv
  rw [← hn] at hA ⊢
  rw [← hm] at hB ⊢
  have HA := Lib.hid ha
  have HB := Lib.hid hb
  have HN := Lib.hid (And.intro hn hm)
  clear ha hb hn hm
  by_cases hnm : n = m
  · subst hnm
    go_enter Try.func15, Try.ntmps15
    go_wp2
    go_loopw [5] (fun x wr => ∃ i : Nat, i ≤ n ∧ x = .int .i64 (i : Int) ∧ A.take i = B.take i ∧ Below w.heap.size w wr) (fun x _ => n - (intOf x).toNat)
    case atStart => exact ⟨0, by omega, rfl, by simp, Below.refl _ _⟩
    case round =>
      obtain ⟨i, hi, rfl, htk, hbel⟩ := hrel
      have HTK := Lib.hid htk
      clear htk
      by_cases hlt : i < n
      · have hia : i < A.length := by have := HN.out.1; omega
        have hib : i < B.length := by have := HN.out.2; omega
        obtain ⟨g, rfl, hg, hca⟩ : ∃ g, a = some ⟨g, 0, none⟩ ∧ g < w.heap.size ∧ ∀ j (hj : j < A.length), w.cell? ⟨g, j * 2, none⟩ = some (.string A[j].1) ∧ w.cell? ⟨g, j * 2 + 1, none⟩ = some (.string A[j].2) := HA.out.resolve_left (by omega)
        obtain ⟨g2, rfl, hg2, hcb⟩ : ∃ g, b = some ⟨g, 0, none⟩ ∧ g < w.heap.size ∧ ∀ j (hj : j < B.length), w.cell? ⟨g, j * 2, none⟩ = some (.string B[j].1) ∧ w.cell? ⟨g, j * 2 + 1, none⟩ = some (.string B[j].2) := HB.out.resolve_left (by omega)
        have c1 := (hbel.cell (p := ⟨g, i * 2, none⟩) hg).trans (hca i hia).1
        have c2 := (hbel.cell (p := ⟨g, i * 2 + 1, none⟩) hg).trans (hca i hia).2
        have c3 := (hbel.cell (p := ⟨g2, i * 2, none⟩) hg2).trans (hcb i hib).1
        have c4 := (hbel.cell (p := ⟨g2, i * 2 + 1, none⟩) hg2).trans (hcb i hib).2
        obtain ⟨x, hx⟩ : ∃ x, A[i] = x := ⟨_, rfl⟩
        obtain ⟨y, hy⟩ : ∃ y, B[i] = y := ⟨_, rfl⟩
        rw [hx] at c1 c2
        rw [hy] at c3 c4
        obtain ⟨x1, x2⟩ := x
        obtain ⟨y1, y2⟩ := y
        have HXY := Lib.hid (And.intro hx hy)
        clear hca hcb hx hy hg hg2
        have q1 : (i : Int) < (n : Int) := by omega
        have q2 : (0 : Int) ≤ (i : Int) := by omega
        by_cases hxy : x1 = y1 ∧ x2 = y2
        · obtain ⟨rfl, rfl⟩ := hxy
          have s1 := str_eq x1
          have s2 := str_eq x2
          go_wp2_with fail
          go_quiet (fail)
          go_wp2
          go_roundw
          case rel =>
            refine ⟨i + 1, by omega, by go_num, ?_, by first | exact hbel | exact below_drewN hbel _⟩
            rw [List.take_succ_eq_append_getElem hia, List.take_succ_eq_append_getElem hib, HTK.out, HXY.out.1, HXY.out.2]
          case measure => simp [intOf]; omega
        · have hne : A ≠ B := fun e => by
            subst e
            have := HXY.out.1.symm.trans HXY.out.2
            injection this with e1 e2
            exact hxy ⟨e1, e2⟩
          have HNE := Lib.hid hne
          have hs : (x1.toList == y1.toList) = false ∨ (x1.toList == y1.toList) = true ∧ (x2.toList == y2.toList) = false := by
            by_cases e1 : x1 = y1
            · subst e1
              exact Or.inr ⟨str_eq _, str_ne (fun e => hxy ⟨rfl, e⟩)⟩
            · exact Or.inl (str_ne e1)
          clear hxy hne
          rcases hs with s1 | ⟨s1, s2⟩
          all_goals
            go_wp2_with fail
            go_quiet (fail)
            go_wp2
            go_ret
            exact ⟨ret_b' (by rw [decide_eq_false HNE.out]), by first | exact hbel | exact below_drewN hbel _⟩
      · obtain rfl : i = n := by omega
        have he : A = B := by
          have := HTK.out
          rwa [List.take_of_length_le (by have := HN.out.1; omega), List.take_of_length_le (by have := HN.out.2; omega)] at this
        have HE := Lib.hid he
        clear he
        go_wp2
        go_ret
        exact ⟨ret_b' (by rw [decide_eq_true HE.out]), hbel⟩
  · have hne : A ≠ B := fun e => by subst e; exact hnm (HN.out.1.trans HN.out.2.symm)
    have HNE := Lib.hid hne
    have t1 : ((n : Int) != (m : Int)) = true := by simp; omega
    have t1n : (n != m) = true := by simpa using hnm
    clear hne
    go_enter Try.func15, Try.ntmps15
    go_wp2
    go_ret
    exact ⟨ret_b' (by rw [decide_eq_false HNE.out]), Below.refl _ _⟩
end Go.Proofs.Ytnhieingcmnfaaa
