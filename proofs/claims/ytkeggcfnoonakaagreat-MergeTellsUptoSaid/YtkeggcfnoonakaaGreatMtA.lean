/-
  The document: Compare, Rising, two, Merge.
-/
import Derived.Test.YtkeggcfnoonakaaGreatMtP
import Derived.Test.YtkeggcfnoonakaaGreatMgM
set_option linter.unusedSimpArgs false
set_option linter.unusedVariables false
namespace Go.Proofs.YtkeggcfnoonakaaGreat
open Go.RowKit

theorem ret_i {k : IntKind} {a b : Int} (h : a = b) : Ending.returned (.int k a) = .returned (.int k b) := by rw [h]
theorem ret_b {a b : Bool} (h : a = b) : Ending.returned (.bool a) = .returned (.bool b) := by rw [h]
theorem cmp_drop (a b : ByteArray) (i : Nat) (ha : i < a.size) (hb : i < b.size) :
    Lib.compareBytes (a.data.toList.drop i) (b.data.toList.drop i) = if a[i] < b[i] then -1 else if b[i] < a[i] then 1 else Lib.compareBytes (a.data.toList.drop (i + 1)) (b.data.toList.drop (i + 1)) := by
  rw [List.drop_eq_getElem_cons (show i < a.data.toList.length by simpa using ha), List.drop_eq_getElem_cons (show i < b.data.toList.length by simpa using hb)]
  rfl

set_option maxRecDepth 100000 in
theorem refcompare_any (a b : ByteArray) (w : World) (ha : a.size ≤ 1000000) (hb : b.size ≤ 1000000) :
    Calls Tryz.prog 88 #[.string a, .string b] w fun e w' => e = .returned (.int .i64 (kc a b)) ∧ ∃ n, w' = w.drewN n := by
  unfold kc
  go_enter Tryz.func88, Tryz.ntmps88
  go_wp2
  go_loopw [5] (fun x wr => ∃ i : Nat, i ≤ a.size ∧ i ≤ b.size ∧ x = .int .i64 (i : Int) ∧ Lib.compareBytes (a.data.toList.drop i) (b.data.toList.drop i) = Lib.compareBytes a.data.toList b.data.toList ∧ ∃ n, wr = w.drewN n)
    (fun x _ => a.size - (intOf x).toNat)
  case atStart => exact ⟨0, by omega, by omega, rfl, by simp, 0, rfl⟩
  case round =>
    obtain ⟨i, hia, hib, rfl, hcmp, n0, rfl⟩ := hrel
    have HC := Lib.hid hcmp
    clear hcmp
    by_cases h1 : i < a.size
    · by_cases h2 : i < b.size
      · have HD := Lib.hid (cmp_drop a b i h1 h2)
        have e1 : (a[i] < b[i]) ↔ a[i].toNat < b[i].toNat := UInt8.lt_iff_toNat_lt
        have e2 : (b[i] < a[i]) ↔ b[i].toNat < a[i].toNat := UInt8.lt_iff_toNat_lt
        have HE1 := Lib.hid e1
        have HE2 := Lib.hid e2
        clear e1 e2
        by_cases c1 : a[i].toNat < b[i].toNat
        · have t1 : decide ((a[i].toNat : Int) < (b[i].toNat : Int)) = true := by simp; omega
          have t1n : decide (a[i].toNat < b[i].toNat) = true := by simp; omega
          have HA : Hid (Lib.compareBytes a.data.toList b.data.toList = -1) := by have := HD.out; rw [HC.out, if_pos (HE1.out.2 c1)] at this; exact this
          clear c1
          go_wp2
          go_quiet (fail)
          go_wp2
          go_ret
          exact ⟨ret_i HA.out.symm, (by first | exact ⟨_, rfl⟩ | exact ⟨_, World.drewN_drewN _ _ _⟩ | exact ⟨_, (World.drewN_drewN _ _ _).trans (World.drewN_drewN _ _ _)⟩)⟩
        · have t1 : decide ((a[i].toNat : Int) < (b[i].toNat : Int)) = false := by simp; omega
          have t1n : decide (a[i].toNat < b[i].toNat) = false := by simp; omega
          by_cases c2 : b[i].toNat < a[i].toNat
          · have t2 : decide ((b[i].toNat : Int) < (a[i].toNat : Int)) = true := by simp; omega
            have t2n : decide (b[i].toNat < a[i].toNat) = true := by simp; omega
            have HA : Hid (Lib.compareBytes a.data.toList b.data.toList = 1) := by have := HD.out; rw [HC.out, if_neg (fun h => c1 (HE1.out.1 h)), if_pos (HE2.out.2 c2)] at this; exact this
            clear c1 c2
            go_wp2
            go_quiet (fail)
            go_wp2
            go_quiet (fail)
            go_wp2
            go_ret
            exact ⟨ret_i HA.out.symm, (by first | exact ⟨_, rfl⟩ | exact ⟨_, World.drewN_drewN _ _ _⟩ | exact ⟨_, (World.drewN_drewN _ _ _).trans (World.drewN_drewN _ _ _)⟩)⟩
          · have t2 : decide ((b[i].toNat : Int) < (a[i].toNat : Int)) = false := by simp; omega
            have t2n : decide (b[i].toNat < a[i].toNat) = false := by simp; omega
            have HA : Hid (Lib.compareBytes (a.data.toList.drop (i + 1)) (b.data.toList.drop (i + 1)) = Lib.compareBytes a.data.toList b.data.toList) := by
              have := HD.out; rw [HC.out, if_neg (fun h => c1 (HE1.out.1 h)), if_neg (fun h => c2 (HE2.out.1 h))] at this; exact this.symm
            clear c1 c2
            go_wp2
            go_quiet (fail)
            go_wp2
            go_quiet (fail)
            go_wp2
            go_roundw
            case rel => exact ⟨i + 1, by omega, by omega, by go_num, HA.out, (by first | exact ⟨_, rfl⟩ | exact ⟨_, World.drewN_drewN _ _ _⟩ | exact ⟨_, (World.drewN_drewN _ _ _).trans (World.drewN_drewN _ _ _)⟩)⟩
            case measure => simp [intOf]; omega
      · obtain rfl : i = b.size := by omega
        have HA : Hid (Lib.compareBytes a.data.toList b.data.toList = 1) := by
          have := HC.out
          rw [List.drop_eq_nil_of_le (show b.data.toList.length ≤ b.size by simp), List.drop_eq_getElem_cons (show b.size < a.data.toList.length by simpa using h1)] at this
          exact this.symm
        go_wp2
        go_ret
        exact ⟨ret_i HA.out.symm, (by first | exact ⟨_, rfl⟩ | exact ⟨_, World.drewN_drewN _ _ _⟩ | exact ⟨_, (World.drewN_drewN _ _ _).trans (World.drewN_drewN _ _ _)⟩)⟩
    · obtain rfl : i = a.size := by omega
      by_cases h2 : a.size < b.size
      · have HA : Hid (Lib.compareBytes a.data.toList b.data.toList = -1) := by
          have := HC.out
          rw [List.drop_eq_nil_of_le (show a.data.toList.length ≤ a.size by simp), List.drop_eq_getElem_cons (show a.size < b.data.toList.length by simpa using h2)] at this
          exact this.symm
        go_wp2
        go_ret
        exact ⟨ret_i HA.out.symm, (by first | exact ⟨_, rfl⟩ | exact ⟨_, World.drewN_drewN _ _ _⟩ | exact ⟨_, (World.drewN_drewN _ _ _).trans (World.drewN_drewN _ _ _)⟩)⟩
      · have HA : Hid (Lib.compareBytes a.data.toList b.data.toList = 0) := by
          have := HC.out
          rw [List.drop_eq_nil_of_le (show a.data.toList.length ≤ a.size by simp), List.drop_eq_nil_of_le (show b.data.toList.length ≤ a.size by simp; omega)] at this
          exact this.symm
        go_wp2
        go_ret
        exact ⟨ret_i HA.out.symm, (by first | exact ⟨_, rfl⟩ | exact ⟨_, World.drewN_drewN _ _ _⟩ | exact ⟨_, (World.drewN_drewN _ _ _).trans (World.drewN_drewN _ _ _)⟩)⟩


/-- Texts that are short. -/
def Short (l : List KV) : Prop := ∀ p ∈ l, p.1.size ≤ 1000000
set_option maxRecDepth 100000 in
set_option maxHeartbeats 1000000 in
theorem rising_any {w : World} {a : Option Addr} {c : Nat} {l : List KV} (h : RdP w a c l) (hl : l.length ≤ 100000) (hf : Short l) :
    Calls Tryz.prog 20 #[.slice a l.length c] w fun e w' => ((Ris l ∧ e = .returned (.bool true)) ∨ (¬ Ris l ∧ e = .returned (.bool false))) ∧ ∃ d, w' = w.drewN d := by
  obtain ⟨n, hn⟩ : ∃ n, l.length = n := ⟨_, rfl⟩
  rw [hn] at hl ⊢
  have H := Lib.hid (And.intro h (And.intro hf hn))
  clear h hf hn
  go_enter Tryz.func20, Tryz.ntmps20
  go_wp2_with fail
  go_loopw [3] (fun x wr => ∃ (i d : Nat), (i = 0 ∨ i + 1 ≤ n) ∧ x = .int .i64 ((i : Int) + 1) ∧ Ris (l.take (i + 1)) ∧ wr = w.drewN d) (fun x _ => n + 1 - (intOf x).toNat)
  case atStart => exact ⟨0, 0, .inl rfl, rfl, by
    cases l with
    | nil => exact List.Pairwise.nil
    | cons x l => exact List.pairwise_singleton _ _, rfl⟩
  case round =>
    obtain ⟨i, d, hi, rfl, hr, hwr⟩ := hrel
    have HW := Lib.hid (And.intro hwr (And.intro hr hi))
    clear hwr hr hi
    by_cases hlt : i + 1 < n
    · have hil : i + 1 < l.length := by rw [H.out.2.2]; exact hlt
      have hil0 : i < l.length := by omega
      obtain ⟨b, off, rfl, c0, _⟩ := H.out.1.two hil0
      obtain ⟨b2, off2, hbb, c1, _⟩ := H.out.1.two hil
      obtain ⟨rfl, rfl⟩ : b = b2 ∧ off = off2 := by injection hbb with e; injection e with e1 e2 _; exact ⟨e1, e2⟩
      have s0 := H.out.2.1 _ (List.getElem_mem hil0)
      have s1 := H.out.2.1 _ (List.getElem_mem hil)
      have hst : kc l[i].1 l[i + 1].1 < 0 → Ris (l.take (i + 1 + 1)) := fun hc => ris_step (x := l) (k := i + 1) (by omega) hil HW.out.2.1 (by simpa using hc)
      have hno : 0 ≤ kc l[i].1 l[i + 1].1 → ¬ Ris l := fun hc => ris_not (x := l) (k := i + 1) (by omega) hil (by simpa using hc)
      obtain ⟨x, hx⟩ : ∃ x, l[i].1 = x := ⟨_, rfl⟩
      obtain ⟨y, hy⟩ : ∃ y, l[i + 1].1 = y := ⟨_, rfl⟩
      rw [hx] at c0 s0 hst hno
      rw [hy] at c1 s1 hst hno
      have d0 : wr.cell? ⟨b, off + i * 2, none⟩ = some (.string x) := by rw [HW.out.1]; exact c0
      have d1 : wr.cell? ⟨b, off + (i + 1) * 2, none⟩ = some (.string y) := by rw [HW.out.1]; exact c1
      have hcall := fun dd => refcompare_any x y (wr.drewN dd) s0 s1
      have HS := Lib.hid (And.intro hst hno)
      have z1 : (i : Int) + 1 < (n : Int) := by omega
      have z2 : (i : Int) < (n : Int) := by omega
      have z3 : IntKind.i64.wrap (i : Int) = (i : Int) := IntWalk.i64_in _ (by omega)
      have z5 : (0 : Int) ≤ (i : Int) + 1 := by omega
      have z6 : ((i : Int) + 1).toNat = i + 1 := by omega
      have z7 : (0 : Int) ≤ (i : Int) := by omega
      clear c0 c1 hst hno hx hy s0 s1 hbb
      by_cases hc : 0 ≤ kc x y
      · have t1 : decide ((0 : Int) ≤ kc x y) = true := decide_eq_true hc
        have HC := Lib.hid (HS.out.2 hc)
        clear hc
        go_wp2_with fail
        go_quiet ((go_at_call 88; with_reducible exact Calls.quiet_of (hcall _)))
        clear hcall
        go_wp2_with fail
        go_ret
        exact ⟨.inr ⟨HC.out, rfl⟩, by rw [HW.out.1]; first | exact ⟨_, rfl⟩ | exact ⟨_, World.drewN_drewN _ _ _⟩⟩
      · have t1 : decide ((0 : Int) ≤ kc x y) = false := decide_eq_false hc
        have HC := Lib.hid (HS.out.1 (by omega))
        clear hc
        go_wp2_with fail
        go_quiet ((go_at_call 88; with_reducible exact Calls.quiet_of (hcall _)))
        clear hcall
        go_wp2_with fail
        go_roundw
        case rel => exact ⟨i + 1, _, .inr (by omega), by go_num, HC.out, by rw [HW.out.1]; first | rfl | exact World.drewN_drewN _ _ _⟩
        case measure => simp [intOf]; omega
    · have hfull : Ris l := by
        have := HW.out.2.1
        rwa [List.take_of_length_le (by have := H.out.2.2; omega)] at this
      have HF := Lib.hid hfull
      have z1 : ¬ (i : Int) + 1 < (n : Int) := by omega
      clear hfull
      go_wp2_with fail
      go_ret
      exact ⟨.inl ⟨HF.out, rfl⟩, _, HW.out.1⟩

set_option maxRecDepth 100000 in
set_option maxHeartbeats 2000000 in
theorem two_any {w : World} {a b : Option Addr} {ca cb : Nat} {A B : List KV} (ha : RdP w a ca A) (hb : RdP w b cb B) (hA : A.length ≤ 100000) (hB : B.length ≤ 100000) (sA : Short A) (sB : Short B) :
    Calls Tryz.prog 21 #[.slice a A.length ca, .slice b B.length cb] w fun e w' => ∃ v, e = .returned v ∧ Own eKV w' w.heap.size v (twoF A B) ∧ Below w.heap.size w w' := by
  obtain ⟨n, hn⟩ : ∃ n, A.length = n := ⟨_, rfl⟩
  obtain ⟨m, hm⟩ : ∃ m, B.length = m := ⟨_, rfl⟩
  rw [hn] at hA ⊢
  rw [hm] at hB ⊢
  have H := Lib.hid (And.intro ha (And.intro hb (And.intro hn (And.intro hm (And.intro sA sB)))))
  clear ha hb hn hm sA sB
  go_enter Tryz.func21, Tryz.ntmps21
  go_wp2_with fail
  go_loopw [5, 6, 7] (fun o x y wr => ∃ (i k : Nat) (out : List KV), i ≤ n ∧ k ≤ m ∧ x = .int .i64 (i : Int) ∧ y = .int .i64 (k : Int) ∧ Own eKV wr w.heap.size o out ∧ out ++ twoF (A.drop i) (B.drop k) = twoF A B ∧ out.length ≤ i + k ∧ Below w.heap.size w wr) (fun _ x y _ => n + m - (intOf x).toNat - (intOf y).toNat)
  case atStart => exact ⟨0, 0, [], by omega, by omega, rfl, rfl, World.ownsRow_nil _ _ _ _, rfl, by simp, Below.refl _ _⟩
  case round =>
    obtain ⟨i, k, out, hi, hk, rfl, rfl, ho, heq, hln, hbel⟩ := hrel
    have HR := Lib.hid (And.intro ho (And.intro hbel (And.intro heq hln)))
    clear ho hbel heq hln
    by_cases hin : i < n
    · have zi : (i : Int) < (n : Int) := by omega
      have ti : ((i : Int) == (n : Int)) = false := beq_eq_false_iff_ne.2 (by omega)
      have z0 : (0 : Int) ≤ (i : Int) := by omega
      have hil : i < A.length := by rw [H.out.2.2.1]; exact hin
      obtain ⟨ga, oa, rfl, c0, c1⟩ := H.out.1.two hil
      have d0 := (HR.out.2.1.cell (p := ⟨ga, oa + i * 2, none⟩) (World.block_lt_of_cell? _ _ c0)).trans c0
      have d1 := (HR.out.2.1.cell (p := ⟨ga, oa + i * 2 + 1, none⟩) (World.block_lt_of_cell? _ _ c1)).trans c1
      by_cases hkm : k < m
      · have zk : (k : Int) < (m : Int) := by omega
        have tk : ((k : Int) == (m : Int)) = false := beq_eq_false_iff_ne.2 (by omega)
        have y0 : (0 : Int) ≤ (k : Int) := by omega
        have hkl : k < B.length := by rw [H.out.2.2.2.1]; exact hkm
        obtain ⟨gb, ob, rfl, e0, e1⟩ := H.out.2.1.two hkl
        have f0 := (HR.out.2.1.cell (p := ⟨gb, ob + k * 2, none⟩) (World.block_lt_of_cell? _ _ e0)).trans e0
        have f1 := (HR.out.2.1.cell (p := ⟨gb, ob + k * 2 + 1, none⟩) (World.block_lt_of_cell? _ _ e1)).trans e1
        have s0 := H.out.2.2.2.2.1 _ (List.getElem_mem hil)
        have s1 := H.out.2.2.2.2.2 _ (List.getElem_mem hkl)
        have g1 := twoF_lt (A := A) (B := B) hil hkl
        have g2 := twoF_eq (A := A) (B := B) hil hkl
        have g3 := twoF_gt (A := A) (B := B) hil hkl
        obtain ⟨⟨kp, vp⟩, hp⟩ : ∃ p, A[i] = p := ⟨_, rfl⟩
        obtain ⟨⟨kq, vq⟩, hq⟩ : ∃ p, B[k] = p := ⟨_, rfl⟩
        rw [hp] at d0 d1 s0 g1 g2 g3
        rw [hq] at f0 f1 s1 g1 g2 g3
        simp only at d0 d1 s0 f0 f1 s1 g1 g2 g3
        have hcall := fun dd => refcompare_any kp kq (wr.drewN dd) s0 s1
        have HG := Lib.hid (And.intro g1 (And.intro g2 g3))
        clear c0 c1 e0 e1 s0 s1 g1 g2 g3 hp hq hil hkl
        rcases (by omega : kc kp kq < 0 ∨ kc kp kq = 0 ∨ 0 < kc kp kq) with hc | hc | hc
        · have t1 : kc kp kq ≤ 0 := by omega
          have t2 : ¬ (0 : Int) < kc kp kq := by omega
          have t3 : ¬ (0 : Int) ≤ kc kp kq := by omega
          have HT := Lib.hid (HG.out.1 hc)
          clear hc
          go_wp2_with fail
          go_quiet ((go_at_call 88; with_reducible exact Calls.quiet_of (hcall _)))
          clear hcall f0 f1
          go_wp2_with (at_builtin; go_loud (refine wpl_app eKV rfl (.tmp 42) (.tmp 47) rfl rfl rfl (l := out) (l2 := [(kp, vp)]) (B := w.heap.size) (row_below HR.out.1 (((tn_drewN (F := fun _ => False) wr nq).below (Nat.le_refl _) (fun _ e => e.elim)).alloc (Nat.le_refl _) _)) (src_one (e := eKV) (wr.drewN nq) (kp, vp) _ _ rfl 1) (by have := HR.out.2.2.2; simp; omega) (by have := HR.out.2.1.size; simp; omega) ?_); intro a5 cap5 w5 ho5 hb5 _ _; have H5 := Lib.hid (And.intro ho5 hb5); clear ho5 hb5)
          go_wp2_with fail
          go_roundw
          case rel =>
            refine ⟨i + 1, k, out ++ [(kp, vp)], by omega, by omega, by go_num, by rfl, H5.out.1, ?_, by simp only [List.length_append, List.length_singleton]; have := HR.out.2.2.2; omega, (((HR.out.2.1.trans ((tn_drewN (F := fun _ => False) wr nq).below HR.out.2.1.size (fun _ e => e.elim))).alloc HR.out.2.1.size (.cells #[.string kp, .string vp] 54))).trans H5.out.2⟩
            rw [← HR.out.2.2.1, List.append_assoc, HT.out]
            rfl
          case measure => simp [intOf]; omega
        · have t1 : kc kp kq ≤ 0 := by omega
          have t2 : ¬ (0 : Int) < kc kp kq := by omega
          have t3 : (0 : Int) ≤ kc kp kq := by omega
          have HT := Lib.hid (HG.out.2.1 hc)
          clear hc
          go_wp2_with fail
          go_quiet ((go_at_call 88; with_reducible exact Calls.quiet_of (hcall _)))
          clear hcall f0 f1
          go_wp2_with (at_builtin; go_loud (refine wpl_app eKV rfl (.tmp 42) (.tmp 47) rfl rfl rfl (l := out) (l2 := [(kp, vp)]) (B := w.heap.size) (row_below HR.out.1 (((tn_drewN (F := fun _ => False) wr nq).below (Nat.le_refl _) (fun _ e => e.elim)).alloc (Nat.le_refl _) _)) (src_one (e := eKV) (wr.drewN nq) (kp, vp) _ _ rfl 1) (by have := HR.out.2.2.2; simp; omega) (by have := HR.out.2.1.size; simp; omega) ?_); intro a5 cap5 w5 ho5 hb5 _ _; have H5 := Lib.hid (And.intro ho5 hb5); clear ho5 hb5)
          go_wp2_with fail
          go_roundw
          case rel =>
            refine ⟨i + 1, k + 1, out ++ [(kp, vp)], by omega, by omega, by go_num, by go_num, H5.out.1, ?_, by simp only [List.length_append, List.length_singleton]; have := HR.out.2.2.2; omega, (((HR.out.2.1.trans ((tn_drewN (F := fun _ => False) wr nq).below HR.out.2.1.size (fun _ e => e.elim))).alloc HR.out.2.1.size (.cells #[.string kp, .string vp] 54))).trans H5.out.2⟩
            rw [← HR.out.2.2.1, List.append_assoc, HT.out]
            rfl
          case measure => simp [intOf]; omega
        · have t1 : ¬ kc kp kq ≤ 0 := by omega
          have t2 : (0 : Int) < kc kp kq := by omega
          have t3 : (0 : Int) ≤ kc kp kq := by omega
          have HT := Lib.hid (HG.out.2.2 hc)
          clear hc
          go_wp2_with fail
          go_quiet ((go_at_call 88; with_reducible exact Calls.quiet_of (hcall _)))
          clear hcall d0 d1
          obtain ⟨kp', vp', rfl, rfl⟩ : ∃ x y, x = kp ∧ y = vp := ⟨_, _, rfl, rfl⟩
          go_wp2_with (at_builtin; go_loud (refine wpl_app eKV rfl (.tmp 53) (.tmp 58) rfl rfl rfl (l := out) (l2 := [(kq, vq)]) (B := w.heap.size) (row_below HR.out.1 (((tn_drewN (F := fun _ => False) wr nq).below (Nat.le_refl _) (fun _ e => e.elim)).alloc (Nat.le_refl _) _)) (src_one (e := eKV) (wr.drewN nq) (kq, vq) _ _ rfl 1) (by have := HR.out.2.2.2; simp; omega) (by have := HR.out.2.1.size; simp; omega) ?_); intro a5 cap5 w5 ho5 hb5 _ _; have H5 := Lib.hid (And.intro ho5 hb5); clear ho5 hb5)
          go_wp2_with fail
          go_roundw
          case rel =>
            refine ⟨i, k + 1, out ++ [(kq, vq)], by omega, by omega, by rfl, by go_num, H5.out.1, ?_, by simp only [List.length_append, List.length_singleton]; have := HR.out.2.2.2; omega, (((HR.out.2.1.trans ((tn_drewN (F := fun _ => False) wr nq).below HR.out.2.1.size (fun _ e => e.elim))).alloc HR.out.2.1.size (.cells #[.string kq, .string vq] 54))).trans H5.out.2⟩
            rw [← HR.out.2.2.1, List.append_assoc, HT.out]
            rfl
          case measure => simp [intOf]; omega
      · have zk : ¬ (k : Int) < (m : Int) := by omega
        have tk : ((k : Int) == (m : Int)) = true := beq_iff_eq.2 (by omega)
        have g1 := twoF_l (A := A) (B := B) (k := k) hil (by rw [H.out.2.2.2.1]; omega)
        obtain ⟨⟨kp, vp⟩, hp⟩ : ∃ p, A[i] = p := ⟨_, rfl⟩
        rw [hp] at d0 d1 g1
        simp only at d0 d1 g1
        have HT := Lib.hid g1
        clear c0 c1 g1 hp hil
        go_wp2_with (at_builtin; go_loud (refine wpl_app eKV rfl (.tmp 42) (.tmp 47) rfl rfl rfl (l := out) (l2 := [(kp, vp)]) (B := w.heap.size) (row_below HR.out.1 ((Below.refl _ _).alloc (Nat.le_refl _) _)) (src_one (e := eKV) wr (kp, vp) _ _ rfl 1) (by have := HR.out.2.2.2; simp; omega) (by have := HR.out.2.1.size; simp; omega) ?_); intro a5 cap5 w5 ho5 hb5 _ _; have H5 := Lib.hid (And.intro ho5 hb5); clear ho5 hb5)
        go_wp2_with fail
        go_roundw
        case rel =>
          refine ⟨i + 1, k, out ++ [(kp, vp)], by omega, by omega, by go_num, by rfl, H5.out.1, ?_, by simp only [List.length_append, List.length_singleton]; have := HR.out.2.2.2; omega, (HR.out.2.1.alloc HR.out.2.1.size (.cells #[.string kp, .string vp] 54)).trans H5.out.2⟩
          rw [← HR.out.2.2.1, List.append_assoc, HT.out]
          rfl
        case measure => simp [intOf]; omega
    · obtain rfl : i = n := by omega
      have zi : ¬ (i : Int) < (i : Int) := by omega
      by_cases hkm : k < m
      · have zk : (k : Int) < (m : Int) := by omega
        have y0 : (0 : Int) ≤ (k : Int) := by omega
        have hkl : k < B.length := by rw [H.out.2.2.2.1]; exact hkm
        obtain ⟨gb, ob, rfl, e0, e1⟩ := H.out.2.1.two hkl
        have f0 := (HR.out.2.1.cell (p := ⟨gb, ob + k * 2, none⟩) (World.block_lt_of_cell? _ _ e0)).trans e0
        have f1 := (HR.out.2.1.cell (p := ⟨gb, ob + k * 2 + 1, none⟩) (World.block_lt_of_cell? _ _ e1)).trans e1
        have g1 := twoF_r (A := A) (B := B) (i := i) (by rw [H.out.2.2.1]; omega) hkl
        obtain ⟨⟨kp, vp⟩, hp⟩ : ∃ p, B[k] = p := ⟨_, rfl⟩
        rw [hp] at f0 f1 g1
        simp only at f0 f1 g1
        have HT := Lib.hid g1
        clear e0 e1 g1 hp hkl
        go_wp2_with (at_builtin; go_loud (refine wpl_app eKV rfl (.tmp 53) (.tmp 58) rfl rfl rfl (l := out) (l2 := [(kp, vp)]) (B := w.heap.size) (row_below HR.out.1 ((Below.refl _ _).alloc (Nat.le_refl _) _)) (src_one (e := eKV) wr (kp, vp) _ _ rfl 1) (by have := HR.out.2.2.2; simp; omega) (by have := HR.out.2.1.size; simp; omega) ?_); intro a5 cap5 w5 ho5 hb5 _ _; have H5 := Lib.hid (And.intro ho5 hb5); clear ho5 hb5)
        go_wp2_with fail
        go_roundw
        case rel =>
          refine ⟨i, k + 1, out ++ [(kp, vp)], by omega, by omega, by rfl, by go_num, H5.out.1, ?_, by simp only [List.length_append, List.length_singleton]; have := HR.out.2.2.2; omega, (HR.out.2.1.alloc HR.out.2.1.size (.cells #[.string kp, .string vp] 54)).trans H5.out.2⟩
          rw [← HR.out.2.2.1, List.append_assoc, HT.out]
          rfl
        case measure => simp [intOf]; omega
      · obtain rfl : k = m := by omega
        have hfin : out = twoF A B := by
          have := HR.out.2.2.1
          rwa [twoF_end (by rw [H.out.2.2.1]; omega) (by rw [H.out.2.2.2.1]; omega), List.append_nil] at this
        have HF := Lib.hid hfin
        have zk : ¬ (k : Int) < (k : Int) := by omega
        clear hfin
        go_wp2_with fail
        go_ret
        exact ⟨_, rfl, by rw [← HF.out]; exact HR.out.1, HR.out.2.1⟩

set_option maxRecDepth 100000 in
set_option maxHeartbeats 2000000 in
theorem refmerge_any {w : World} {a : Option Addr} {c : Nat} {L : List (List KV)} (hl : RdL w a L) (hlen : L.length ≤ 1000) (htot : lenS L ≤ 100000) (hsz : ∀ l ∈ L, Short l) :
    Calls Tryz.prog 7 #[.slice a L.length c] w (MergeAns L w) := by
  obtain ⟨n, hn⟩ : ∃ n, L.length = n := ⟨_, rfl⟩
  rw [hn] at hlen ⊢
  have H := Lib.hid (And.intro hl (And.intro htot (And.intro hsz hn)))
  clear hl htot hsz hn
  go_enter Tryz.func7, Tryz.ntmps7
  go_wp2_with fail
  go_loopw [4, 5] (fun o x wr => ∃ (i : Nat) (out : List KV), i ≤ n ∧ x = .int .i64 (i : Int) ∧ Own eKV wr w.heap.size o out ∧ Laid (L.take i) out ∧ (∀ l ∈ L.take i, Ris l) ∧ out.length ≤ lenS (L.take i) ∧ Below w.heap.size w wr) (fun _ x _ => n - (intOf x).toNat)
  case atStart => exact ⟨0, [], by omega, rfl, World.ownsRow_nil _ _ _ _, laid_nil, fun l hl => by simp at hl, by simp, Below.refl _ _⟩
  case round =>
    obtain ⟨i, out, hi, rfl, ho, hla, hri, hln, hbel⟩ := hrel
    by_cases hlt : i < n
    · have hil : i < L.length := by rw [H.out.2.2.2]; exact hlt
      obtain ⟨b, off, rfl, hc⟩ := H.out.1.resolve_left (fun e => by rw [e] at hil; simp at hil)
      obtain ⟨ai, ci, c0, hr⟩ := hc i hil
      have d0 := (hbel.cell (p := ⟨b, off + i, none⟩) (World.block_lt_of_cell? _ _ c0)).trans c0
      have hr2 : RdP wr ai ci L[i] := RdP.below (n := 0) hr hbel
      have hss := H.out.2.2.1 _ (List.getElem_mem hil)
      have hnx := lenS_take L i hil
      have htk : L.take (i + 1) = L.take i ++ [L[i]] := List.take_succ_eq_append_getElem hil
      have hle : lenS (L.take (i + 1)) ≤ lenS L := by
        unfold lenS
        conv => rhs; rw [← List.take_append_drop (i + 1) L, List.map_append, List.sum_append]
        omega
      have hmem : L[i] ∈ L := List.getElem_mem hil
      have hso : Short out := fun p hp => by
        obtain ⟨l, h1, h2⟩ := laid_mem hla p hp
        exact H.out.2.2.1 l (List.mem_of_mem_take h1) p h2
      obtain ⟨va, vc, rfl, hro⟩ := rdP_own ho
      obtain ⟨x, hx⟩ : ∃ x, L[i] = x := ⟨_, rfl⟩
      rw [hx] at d0 hr2 hss hnx htk hmem
      have htot := H.out.2.1
      have hxl : x.length ≤ 100000 := by omega
      have hol : out.length ≤ 100000 := by omega
      have hR := rising_any hr2 hxl hss
      have hT : ∀ d, Calls Tryz.prog 21 #[.slice va out.length vc, .slice ai x.length ci] (wr.drewN d) fun e w' => ∃ v, e = .returned v ∧ Own eKV w' wr.heap.size v (twoF out x) ∧ Below wr.heap.size wr w' := fun d =>
        (two_any (hro.drewN d) (hr2.drewN d) hol hxl hso hss).mono fun e w' ⟨v, h1, h2, h3⟩ => ⟨v, h1, h2, ((tn_drewN (F := fun _ => False) wr d).below (Nat.le_refl _) (fun _ e => e.elim)).trans h3⟩
      have htl := twoF_len _ out x (Nat.le_refl _)
      obtain ⟨m, hm⟩ : ∃ m, x.length = m := ⟨_, rfl⟩
      obtain ⟨q, hq⟩ : ∃ q, out.length = q := ⟨_, rfl⟩
      rw [hm] at d0 hR hT
      rw [hq] at hT ⊢
      have HX := Lib.hid (And.intro hR (And.intro hT (And.intro hnx (And.intro htk (And.intro hmem (And.intro hla (And.intro hri (And.intro hln (And.intro hbel (And.intro htl (And.intro hm hq)))))))))))
      have z0 : (i : Int) < (n : Int) := by omega
      clear hc c0 hr hr2 hss hle hso ho hro hx hR hT hnx htk hmem hla hri hln hbel htl hm hq hxl hol htot
      go_wp2_with fail
      refine HX.out.1.mono ?_
      rintro e w2 ⟨⟨hris, rfl⟩ | ⟨hris, rfl⟩, dd, rfl⟩
      · have e0 : (wr.drewN dd).cell? ⟨b, off + i, none⟩ = some (.slice ai m ci) := d0
        have HY := Lib.hid hris
        clear hris
        go_wp2_with fail
        refine (HX.out.2.1 dd).mono ?_
        rintro e w3 ⟨v, rfl, ho3, hb3⟩
        have H3 := Lib.hid (And.intro ho3 hb3)
        clear ho3 hb3
        go_wp2_with fail
        go_roundw
        case rel =>
          refine ⟨i + 1, twoF out x, by omega, by go_num, row_mono H3.out.1 HX.out.2.2.2.2.2.2.2.2.1.size, ?_, ?_, ?_, HX.out.2.2.2.2.2.2.2.2.1.trans (H3.out.2.mono HX.out.2.2.2.2.2.2.2.2.1.size)⟩
          · rw [HX.out.2.2.2.1]
            exact laid_snoc HX.out.2.2.2.2.2.1 HY.out
          · intro l hl
            rw [HX.out.2.2.2.1] at hl
            rcases List.mem_append.1 hl with hl | hl
            · exact HX.out.2.2.2.2.2.2.1 l hl
            · rw [List.mem_singleton] at hl
              subst hl
              exact HY.out
          · have h1 := HX.out.2.2.1
            have h2 := HX.out.2.2.2.2.2.2.2.1
            have h3 := HX.out.2.2.2.2.2.2.2.2.2.1
            omega
        case measure => simp [intOf]; omega
      · have HY := Lib.hid (show ¬ ∀ l ∈ L, Ris l from fun h => hris (h x HX.out.2.2.2.2.1))
        clear hris
        go_wp2_with fail
        go_ret2
        exact ⟨HX.out.2.2.2.2.2.2.2.2.1.trans ((tn_drewN (F := fun _ => False) wr dd).below HX.out.2.2.2.2.2.2.2.2.1.size (fun _ e => e.elim)), .inr ⟨HY.out, rfl⟩⟩
    · obtain rfl : i = n := by omega
      have hfull : L.take i = L := by rw [← H.out.2.2.2]; exact List.take_length
      rw [hfull] at hla hri hln
      have HX := Lib.hid (And.intro ho (And.intro hla (And.intro hri (And.intro hln hbel))))
      have z0 : ¬ (i : Int) < (i : Int) := by omega
      clear ho hla hri hln hbel hfull
      go_wp2_with fail
      go_ret2
      exact ⟨HX.out.2.2.2.2, .inl ⟨HX.out.2.2.1, out, _, rfl, HX.out.1, HX.out.2.1, HX.out.2.2.2.1⟩⟩
end Go.Proofs.YtkeggcfnoonakaaGreat
