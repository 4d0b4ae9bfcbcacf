/-
  The document's net: words; ways, IsCut.
-/
import Derived.Test.YtanekdcmealoeaaNetU
import Derived.ChangeKeysEq
namespace Go.Proofs.Ytanekdcmealoeaa
open Go.RowKit Go.Maps

abbrev OwnR (w : World) (v : Value) (l : List Msg) : Prop := w.ownsRow 0 46 3 v l.length (mCells l)
def cCells (l : List (Int × Int)) : List Value := l.flatMap fun p => [.int .i64 p.1, .int .i64 p.2]
theorem cCells_len (l : List (Int × Int)) : (cCells l).length = l.length * 2 := by
  induction l with
  | nil => rfl
  | cons m l ih => rw [cCells, List.flatMap_cons, List.length_append, ← cCells, ih, List.length_cons]; simp; omega
theorem cCells_append (a b : List (Int × Int)) : cCells (a ++ b) = cCells a ++ cCells b := by simp [cCells]
theorem cCells_get (l : List (Int × Int)) (i : Nat) (hi : i < l.length) : (cCells l)[2 * i]? = some (.int .i64 l[i].1) ∧ (cCells l)[2 * i + 1]? = some (.int .i64 l[i].2) := by
  induction l generalizing i with
  | nil => simp at hi
  | cons m l ih =>
    cases i with
    | zero => exact ⟨rfl, rfl⟩
    | succ i =>
      have h := ih i (by simpa using hi)
      exact ⟨h.1, h.2⟩
abbrev OwnC (w : World) (v : Value) (l : List (Int × Int)) : Prop := w.ownsRow 0 60 2 v l.length (cCells l)

/-- The world holds the document's net in the same state. -/
structure RefAt (w : World) (rb : Nat) (lr cr : Value) (cl : List (Int × Int)) (s : St) : Prop where
  c0 : w.cell? ⟨rb, 0, none⟩ = some (.int .i64 s.n)
  c1 : w.cell? ⟨rb, 1, none⟩ = some lr
  c2 : w.cell? ⟨rb, 2, none⟩ = some cr
  c3 : w.cell? ⟨rb, 3, none⟩ = some (.int .i64 s.lost)
  fz : ∀ j, w.frozen? ⟨rb, j, none⟩ = false
  row : OwnR w lr s.l
  cuts : OwnC w cr cl
  cut : ∀ a b, s.cut a b = cl.contains (a, b)
  nl : lr.ownBlock ≠ some rb
  nc : cr.ownBlock ≠ some rb
  n0 : 1 ≤ s.n
  n8 : s.n ≤ 8
  len : s.l.length ≤ 400
  l0 : 0 ≤ s.lost

def RFoot (rb : Nat) (lr cr : Value) (k : Nat) : Prop := k = rb ∨ lr.ownBlock = some k ∨ cr.ownBlock = some k
theorem RefAt.lt {w : World} {rb : Nat} {lr cr : Value} {cl : List (Int × Int)} {s : St} (h : RefAt w rb lr cr cl s) : rb < w.heap.size := World.block_lt_of_cell? w _ h.c0
theorem RefAt.foot_lt {w : World} {rb : Nat} {lr cr : Value} {cl : List (Int × Int)} {s : St} (h : RefAt w rb lr cr cl s) : ∀ k, RFoot rb lr cr k → k < w.heap.size := by
  rintro k (rfl | hk | hk)
  · exact h.lt
  · exact (h.row.lt k hk).2
  · exact (h.cuts.lt k hk).2
theorem RefAt.turn {F : Nat → Prop} {w w' : World} {rb : Nat} {lr cr : Value} {cl : List (Int × Int)} {s : St} (h : RefAt w rb lr cr cl s) (ht : Tn F w w') (hF : ∀ k, RFoot rb lr cr k → ¬ F k) : RefAt w' rb lr cr cl s := by
  have hn : ¬ F rb := hF rb (Or.inl rfl)
  exact ⟨ht.cell h.c0 hn, ht.cell h.c1 hn, ht.cell h.c2 hn, ht.cell h.c3 hn, fun j => (ht.frozen h.lt hn).trans (h.fz j), ht.row h.row (fun k hk => hF k (Or.inr (Or.inl hk))), ht.row h.cuts (fun k hk => hF k (Or.inr (Or.inr hk))), h.cut, h.nl, h.nc, h.n0, h.n8, h.len, h.l0⟩
theorem RefAt.below {w w' : World} {rb : Nat} {lr cr : Value} {cl : List (Int × Int)} {s : St} (h : RefAt w rb lr cr cl s) (hb : Below w.heap.size w w') : RefAt w' rb lr cr cl s := h.turn (F := fun _ => False) (Tn.ofBelow hb) (fun _ _ h => h)

/-- A slice that a call owns reads as it says: its form, its cells. -/
theorem own_reads {w : World} {base : Nat} {e : TypeId} {size n : Nat} {v : Value} {xs : List Value} (h : w.ownsRow base e size v n xs) :
    (v = .slice none 0 0 ∧ n = 0) ∨ ∃ g cap, v = .slice (some ⟨g, 0, none⟩) n cap ∧ n ≤ cap ∧ cap ≤ maxLen ∧ g < w.heap.size ∧ ∀ k, k < n * size → w.cell? ⟨g, k, none⟩ = xs[k]? := by
  obtain ⟨hlen, h2⟩ := h
  rcases h2 with ⟨rfl, h0⟩ | ⟨g, cap, cur, rfl, hg, hh, hn, hcap, hsz, htake⟩
  · exact Or.inl ⟨rfl, h0⟩
  · refine Or.inr ⟨g, cap, rfl, hn, hcap, (Array.getElem?_eq_some_iff.1 hh).1, fun k hk => ?_⟩
    rw [← htake, List.getElem?_take, if_pos hk]
    simp [World.cell?, hh]

theorem rways_any {w : World} {rb : Nat} {lr cr : Value} {cl : List (Int × Int)} {s : St} (h : RefAt w rb lr cr cl s) (a b : Int) :
    Calls Try.prog 34 #[.pointer (some ⟨rb, 0, none⟩), .int .i64 a, .int .i64 b] w fun e w' => e = .returned (.bool (s.way a b)) ∧ w = w' := by
  have h0 := h.c0
  obtain ⟨n, hn⟩ : ∃ n, n = s.n := ⟨_, rfl⟩
  have HW : Hid (s.way a b = (decide (0 ≤ a) && decide (a < n) && decide (0 ≤ b) && decide (b < n) && decide (a ≠ b))) := by unfold Hid St.way; rw [hn]
  rw [← hn] at h0
  clear hn h
  by_cases a1 : 0 ≤ a
  · by_cases a2 : a < n
    · by_cases a3 : 0 ≤ b
      · by_cases a4 : b < n
        · have hne : (a != b) = decide (a ≠ b) := by by_cases e : a = b <;> simp [e]
          have H : Hid (s.way a b = decide (a ≠ b)) := by unfold Hid; rw [HW.out]; simp [a1, a2, a3, a4]
          go_enter Try.func34, Try.ntmps34
          go_wp2
          go_ret
          exact ⟨ret_b (by rw [H.out]; simp), rfl⟩
        · have H : Hid (s.way a b = false) := by unfold Hid; rw [HW.out]; simp [a4]
          have t4 : decide (b < n) = false := by simpa using a4
          go_enter Try.func34, Try.ntmps34
          go_wp2
          go_ret
          exact ⟨ret_b (by rw [H.out]), rfl⟩
      · have H : Hid (s.way a b = false) := by unfold Hid; rw [HW.out]; simp [a3]
        have t3 : decide (0 ≤ b) = false := by simpa using a3
        go_enter Try.func34, Try.ntmps34
        go_wp2
        go_ret
        exact ⟨ret_b (by rw [H.out]), rfl⟩
    · have H : Hid (s.way a b = false) := by unfold Hid; rw [HW.out]; simp [a2]
      have t2 : decide (a < n) = false := by simpa using a2
      go_enter Try.func34, Try.ntmps34
      go_wp2
      go_ret
      exact ⟨ret_b (by rw [H.out]), rfl⟩
  · have H : Hid (s.way a b = false) := by unfold Hid; rw [HW.out]; simp [a1]
    have t1 : decide (0 ≤ a) = false := by simpa using a1
    go_enter Try.func34, Try.ntmps34
    go_wp2
    go_ret
    exact ⟨ret_b (by rw [H.out]), rfl⟩

theorem eqint (d : Nat) (p a : Int) (w : World) : (Op.equalIn (d + 1) 3 (.int .i64 p) (.int .i64 a)).run Try.prog w = .ok (p == a) w := by
  simp [Op.equalIn, go_sem]
theorem eq60 (p q a b : Int) (w : World) : (Op.equalIn 10000 60 (.agg #[.int .i64 p, .int .i64 q]) (.agg #[.int .i64 a, .int .i64 b])).run Try.prog w = .ok ((p == a) && (q == b)) w := by
  have hc : Try.prog.cellsOf 3 = 1 := by kernel_rfl
  obtain ⟨i, hi⟩ : ∃ i, Try.prog.info? 3 = some i := Option.isSome_iff_exists.1 (by kernel_rfl)
  have hp : ∀ (xs : Array Value) (o : Nat) (v : Value) (w : World), xs[o]? = some v → (part 3 xs o).run Try.prog w = .ok v w := by
    intro xs o v w h
    simp [part, Try.isAgg3, h, Result.andThen]
  rw [show (10000 : Nat) = 9999 + 1 from rfl, run_equalIn_array w 9999 _ _ Try.underlying60 hi, hc]
  simp [List.range, List.range.loop, Op.eqItems, Result.andThen, hp, eqint 9998]
  by_cases e1 : p = a <;> by_cases e2 : q = b <;> simp [e1, e2]

theorem contains_take {cl : List (Int × Int)} {i : Nat} (hi : i < cl.length) (x : Int × Int) (h : (cl.take i).contains x = false) (hne : cl[i] ≠ x) : (cl.take (i + 1)).contains x = false := by
  rw [List.take_succ_eq_append_getElem hi]
  simp only [List.contains_eq_mem, List.mem_append, List.mem_singleton, decide_eq_false_iff_not, not_or] at h ⊢
  exact ⟨h, fun e => hne e.symm⟩

set_option maxRecDepth 100000 in
theorem riscut_any {w : World} {rb : Nat} {lr cr : Value} {cl : List (Int × Int)} {s : St} (h : RefAt w rb lr cr cl s) (a b : Int) :
    Calls Try.prog 25 #[.pointer (some ⟨rb, 0, none⟩), .int .i64 a, .int .i64 b] w fun e w' => e = .returned (.bool (s.cut a b)) ∧ w = w' := by
  have h2 := h.c2
  have heq := eq60
  have HC := Lib.hid (h.cut a b)
  rcases own_reads h.cuts with ⟨hcr, h0⟩ | ⟨g, cap, hcr, hcap, hcm, hg, hcell⟩
  · have e0 : Hid (s.cut a b = false) := by unfold Hid; rw [HC.out, List.length_eq_zero_iff.1 h0]; rfl
    rw [hcr] at h2
    clear h hcr h0
    go_enter Try.func25, Try.ntmps25
    go_wp2
    go_loop [7] (fun x => x = .int .i64 0) (fun _ => 0)
    case atStart => rfl
    case round =>
      subst hrel
      go_wp2
      go_ret
      exact ⟨ret_b e0.out.symm, rfl⟩
  · rw [hcr] at h2
    obtain ⟨n, hn⟩ : ∃ n, n = cl.length := ⟨_, rfl⟩
    rw [← hn] at h2 hcap hcell
    unfold maxLen at hcm
    have HCELL := Lib.hid hcell
    have HN := Lib.hid hn
    clear h hcr hcell hn
    go_enter Try.func25, Try.ntmps25
    go_wp2
    go_loop [7] (fun x => ∃ i : Nat, i ≤ n ∧ x = .int .i64 (i : Int) ∧ (cl.take i).contains (a, b) = false) (fun x => n - (intOf x).toNat)
    case atStart => exact ⟨0, by omega, rfl, rfl⟩
    case round =>
      obtain ⟨i, hi, rfl, hno⟩ := hrel
      have HNO := Lib.hid hno
      clear hno
      by_cases hlt : i < n
      · have hil : i < cl.length := by have := HN.out; omega
        obtain ⟨p, q⟩ : (∃ p, p = cl[i].1) ∧ (∃ q, q = cl[i].2) := ⟨⟨_, rfl⟩, ⟨_, rfl⟩⟩
        obtain ⟨p, hp⟩ := p
        obtain ⟨q, hq⟩ := q
        have hg1 := cCells_get cl i hil
        have q0 : w.cell? ⟨g, i * 2, none⟩ = some (.int .i64 p) := by rw [HCELL.out _ (by omega), Nat.mul_comm, hg1.1, hp]
        have q1 : w.cell? ⟨g, i * 2 + 1, none⟩ = some (.int .i64 q) := by rw [HCELL.out _ (by omega), Nat.mul_comm, hg1.2, hq]
        have HP : Hid (cl[i] = (p, q)) := by unfold Hid; rw [hp, hq]
        clear hg1 hp hq
        by_cases e1 : p = a
        · subst e1
          by_cases e2 : q = b
          · subst e2
            have HT : Hid (s.cut p q = true) := by
              unfold Hid
              rw [HC.out, ← HP.out]
              simp
            go_wp2
            go_ret
            exact ⟨ret_b HT.out.symm, rfl⟩
          · have t2 : (q == b) = false := by simpa using e2
            have HT := Lib.hid (contains_take hil (p, b) HNO.out (by rw [HP.out]; intro e; exact e2 (by injection e)))
            go_wp2
            go_round
            case rel => exact ⟨i + 1, by omega, by go_num, HT.out⟩
            case measure => simp [intOf]; omega
        · have t1 : (p == a) = false := by simpa using e1
          have HT := Lib.hid (contains_take hil (a, b) HNO.out (by rw [HP.out]; intro e; exact e1 (by injection e)))
          go_wp2
          go_round
          case rel => exact ⟨i + 1, by omega, by go_num, HT.out⟩
          case measure => simp [intOf]; omega
      · have e0 : Hid (s.cut a b = false) := by
          unfold Hid
          have := HNO.out
          rw [List.take_of_length_le (by have := HN.out; omega)] at this
          rw [HC.out, this]
        go_wp2
        go_ret
        exact ⟨ret_b e0.out.symm, rfl⟩
end Go.Proofs.Ytanekdcmealoeaa
