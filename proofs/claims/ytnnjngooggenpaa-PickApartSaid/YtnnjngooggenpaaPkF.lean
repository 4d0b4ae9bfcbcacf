/-
  The walks of among and within.
-/
import Derived.Test.YtnnjngooggenpaaLawOv
namespace Go.Proofs.Ytnnjngooggenpaa
open Go.RowKit

set_option maxHeartbeats 400000 in
theorem among_any {w : World} {B n cap : Nat} {a : Option Addr} {l : List Int} (h : OwnI w B (.slice a n cap) l) (hn : n = l.length) (hl : l.length ≤ 1000000) (v : Int) :
    Calls Try.prog 8 #[.slice a n cap, .int .i64 v] w fun e w' => e = .returned (.bool (decide (v ∈ l))) ∧ w = w' := by
  have HC := Lib.hid h.cell
  have HN := Lib.hid hn
  have hn2 : n ≤ 1000000 := by omega
  clear h hn hl
  go_enter Try.func8, Try.ntmps8
  go_wp2
  go_loop [5] (fun y => ∃ i : Nat, i ≤ n ∧ y = .int .i64 (i : Int) ∧ v ∉ l.take i) (fun y => n - (intOf y).toNat)
  case atStart => exact ⟨0, by omega, rfl, by simp⟩
  case round =>
    obtain ⟨i, hi, rfl, hno⟩ := hrel
    have HNO := Lib.hid hno
    clear hno
    by_cases hlt : i < n
    · have hil : i < l.length := by have := HN.out; omega
      obtain ⟨g, rfl, hg, _, hc⟩ := HC.out.resolve_left (fun e => by rw [e] at hil; simp at hil)
      have c := hc i hil
      obtain ⟨u, hu⟩ : ∃ u, l[i] = u := ⟨_, rfl⟩
      rw [hu] at c
      have HU := Lib.hid hu
      clear hc hu
      by_cases he : u = v
      · have t1 : (u == v) = true := by simpa using he
        have hmem : v ∈ l := by rw [← he, ← HU.out]; exact List.getElem_mem _
        have HM := Lib.hid hmem
        clear he hmem
        go_wp2
        go_ret
        exact ⟨by rw [decide_eq_true HM.out]; rfl, rfl⟩
      · have t1 : (u == v) = false := by simpa using he
        have hno2 : v ∉ l.take (i + 1) := by
          rw [List.take_succ_eq_append_getElem hil, HU.out]
          intro h
          rcases List.mem_append.1 h with h | h
          · exact HNO.out h
          · exact he (List.mem_singleton.1 h).symm
        have HNO2 := Lib.hid hno2
        clear he hno2
        go_wp2
        go_round
        case rel => exact ⟨i + 1, by omega, by go_num, HNO2.out⟩
        case measure => simp [intOf]; omega
    · obtain rfl : i = n := by omega
      have hno : v ∉ l := by have := HNO.out; rwa [List.take_of_length_le (by have := HN.out; omega)] at this
      have HM := Lib.hid hno
      clear hno
      go_wp2
      go_ret
      exact ⟨by rw [decide_eq_false HM.out]; rfl, rfl⟩

/-- Those of a level whose numbers are among some. -/
def picked (l : List Int) (n : Int) (L : List Fi) : List Fi := L.filter (fun x => decide (x.lv = n) && decide (x.nu ∈ l))
theorem picked_snoc (l : List Int) (n : Int) (L : List Fi) (i : Nat) (hi : i < L.length) : picked l n (L.take (i + 1)) = picked l n (L.take i) ++ (if L[i].lv = n ∧ L[i].nu ∈ l then [L[i]] else []) := by
  unfold picked
  rw [List.take_succ_eq_append_getElem hi, List.filter_append]
  by_cases h : L[i].lv = n ∧ L[i].nu ∈ l
  · rw [if_pos h]; simp [h.1, h.2]
  · rw [if_neg h]
    have : (decide (L[i].lv = n) && decide (L[i].nu ∈ l)) = false := by simpa using h
    simp [List.filter_cons, this]
/-- The range of some. -/
def stOf : List Fi → ByteArray × ByteArray × Bool
  | [] => (⟨#[]⟩, ⟨#[]⟩, false)
  | x :: t => (loF x.f (x :: t), hiF x.l (x :: t), true)
theorem stOf_snoc (K : List Fi) (y : Fi) : stOf (K ++ [y]) = ((if (stOf K).2.2 = false ∨ kcmp y.f (stOf K).1 < 0 then y.f else (stOf K).1), (if (stOf K).2.2 = false ∨ 0 < kcmp y.l (stOf K).2.1 then y.l else (stOf K).2.1), true) := by
  cases K with
  | nil =>
    unfold stOf
    simp only [List.nil_append, true_or, if_true]
    unfold loF hiF
    simp only [List.foldl_cons, List.foldl_nil, ite_self]
  | cons x t =>
    show (loF x.f ((x :: t) ++ [y]), hiF x.l ((x :: t) ++ [y]), true) = _
    unfold stOf
    simp only [Bool.true_eq_false, false_or]
    unfold loF hiF
    rw [List.foldl_append, List.foldl_append]
    rfl
/-- Has a file a key of the range? -/
def inRange (s : ByteArray × ByteArray × Bool) (f : Fi) : Bool := s.2.2 && (decide (kcmp f.f s.2.1 ≤ 0) && decide (0 ≤ kcmp f.l s.1))

theorem less3 (p q : ByteArray) : (kcmp p q < 0 ∧ Op.bytesLess p.toList q.toList = true ∧ (p.toList == q.toList) = false) ∨ (kcmp p q = 0 ∧ Op.bytesLess p.toList q.toList = false ∧ (p.toList == q.toList) = true) ∨ (0 < kcmp p q ∧ Op.bytesLess p.toList q.toList = false ∧ (p.toList == q.toList) = false) := by
  rw [less_k]
  by_cases h : p = q
  · subst h
    exact .inr (.inl ⟨kcmp_self p, by rw [kcmp_self]; rfl, str_eq p⟩)
  · have hs := str_ne h
    have hz : kcmp p q ≠ 0 := fun e => h (kcmp_zero e)
    rcases Int.lt_or_le (kcmp p q) 0 with h1 | h1
    · exact .inl ⟨h1, by simpa using h1, hs⟩
    · exact .inr (.inr ⟨by omega, by simpa using h1, hs⟩)

set_option maxRecDepth 100000 in
set_option maxHeartbeats 1000000 in
theorem within_any {w : World} {a am : Option Addr} {L : List Fi} {cap len B nm capm : Nat} {l : List Int} (hL : FilesAt w a L) (hlen : len = L.length) (hl60 : len ≤ 60) (hm : OwnI w B (.slice am nm capm) l) (hnm : nm = l.length) (hl : l.length ≤ 1000000) (n : Int) (f : Fi) :
    Calls Try.prog 9 #[.slice a len cap, .slice am nm capm, .int .i64 n, f.val] w fun e w' => e = .returned (.bool (inRange (stOf (picked l n L)) f)) ∧ Below w.heap.size w w' := by
  have HL := Lib.hid hL
  have HN := Lib.hid hlen
  have ham : ∀ W, Below w.heap.size w W → ∀ v, Calls Try.prog 8 #[.slice am nm capm, .int .i64 v] W fun e w' => e = .returned (.bool (decide (v ∈ l))) ∧ W = w' := fun W hb v => among_any (row_below hm hb) hnm hl v
  have HAM := Lib.hid ham
  clear hL hlen hm hnm hl ham
  unfold Fi.val
  go_enter Try.func9, Try.ntmps9
  go_upto_region 1 with fail
  obtain ⟨W1, hW1⟩ : ∃ W1, w.alloc (fobj f) = W1 := ⟨_, rfl⟩
  have hW1' := hW1
  unfold fobj at hW1'
  rw [hW1']
  have hb1 : Below w.heap.size w W1 := by rw [← hW1]; exact (Below.refl _ _).alloc (Nat.le_refl _) _
  have hf1 : f.here W1 w.heap.size 0 := by rw [← hW1]; exact here_of_block (blk_new _ _)
  have HB1 := Lib.hid hb1
  have k4 : W1.cell? ⟨w.heap.size, 4, none⟩ = some (.string f.f) := by simpa using hf1.c4
  have k5 : W1.cell? ⟨w.heap.size, 5, none⟩ = some (.string f.l) := by simpa using hf1.c5
  clear hW1 hW1' hf1
  go_wp2
  go_loop [9, 10, 11, 12] (fun p q b y => ∃ i : Nat, i ≤ len ∧ y = .int .i64 (i : Int) ∧ p = .string (stOf (picked l n (L.take i))).1 ∧ q = .string (stOf (picked l n (L.take i))).2.1 ∧ b = .bool (stOf (picked l n (L.take i))).2.2) (fun _ _ _ y => len - (intOf y).toNat)
  case atStart => exact ⟨0, by omega, rfl, rfl, rfl, rfl⟩
  case round =>
    obtain ⟨i, hi, rfl, rfl, rfl, rfl⟩ := hrel
    obtain ⟨s, hs⟩ : ∃ s, s = stOf (picked l n (L.take i)) := ⟨_, rfl⟩
    rw [← hs]
    have HS := Lib.hid hs
    clear hs
    obtain ⟨p, q, b⟩ := s
    simp only []
    by_cases hlt : i < len
    · have hil : i < L.length := by have := HN.out; omega
      obtain ⟨b0, off, rfl, hb, hc⟩ : ∃ b off, a = some ⟨b, off, none⟩ ∧ b < w.heap.size ∧ ∀ i (hi : i < L.length), L[i].here w b (off + i * 6) := by
        rcases HL.out with h | h
        · rw [h] at hil; simp at hil
        · exact h
      have hx := (hc i hil).below HB1.out hb
      have hps := picked_snoc l n L i hil
      obtain ⟨x, hxx⟩ : ∃ x, L[i] = x := ⟨_, rfl⟩
      rw [hxx] at hx hps
      obtain ⟨c0, c1, c2, c3, c4, c5⟩ := hx
      have HPS := Lib.hid hps
      have hcall := HAM.out W1 HB1.out x.nu
      have HCALL := Lib.hid hcall
      clear hc hxx hps hcall
      by_cases hsel : x.lv = n ∧ x.nu ∈ l
      · have hst := stOf_snoc (picked l n (L.take i)) x
        rw [← HS.out] at hst
        have hp2 : picked l n (L.take (i + 1)) = picked l n (L.take i) ++ [x] := by rw [HPS.out, if_pos hsel]
        rw [← hp2] at hst
        simp only [] at hst
        have HST := Lib.hid hst
        have t1 : (x.lv != n) = false := by simpa using hsel.1
        have t2 : decide (x.nu ∈ l) = true := by simpa using hsel.2
        rw [t2] at HCALL
        clear hst hp2 hsel t2
        cases b with
        | false =>
          go_wp2_with (go_at_call 8; refine HCALL.out.mono ?_; rintro e w' ⟨rfl, rfl⟩)
          go_round
          case rel => exact ⟨i + 1, by omega, by go_num, by rw [HST.out]; simp, by rw [HST.out]; simp, by rw [HST.out]⟩
          case measure => simp [intOf]; omega
        | true =>
          rcases less3 x.f p with ⟨h1, s1, _⟩ | ⟨h1, s1, _⟩ | ⟨h1, s1, _⟩
          all_goals
            rcases less3 x.l q with ⟨h2, s2, s3⟩ | ⟨h2, s2, s3⟩ | ⟨h2, s2, s3⟩
            all_goals
              have HH := Lib.hid (And.intro h1 h2)
              clear h1 h2
              go_wp2_with (go_at_call 8; refine HCALL.out.mono ?_; rintro e w' ⟨rfl, rfl⟩)
              go_round
              case rel =>
                have h1 := HH.out.1
                have h2 := HH.out.2
                refine ⟨i + 1, by omega, by go_num, ?_, ?_, by rw [HST.out]⟩
                · rw [HST.out]
                  show _ = Value.string (if true = false ∨ kcmp x.f p < 0 then x.f else p)
                  by_cases hh : true = false ∨ kcmp x.f p < 0
                  · rw [if_pos hh]; first | done | (exfalso; simp at hh; omega)
                  · rw [if_neg hh]; first | done | (exfalso; simp at hh; omega)
                · rw [HST.out]
                  show _ = Value.string (if true = false ∨ 0 < kcmp x.l q then x.l else q)
                  by_cases hh : true = false ∨ 0 < kcmp x.l q
                  · rw [if_pos hh]; first | done | (exfalso; simp at hh; omega)
                  · rw [if_neg hh]; first | done | (exfalso; simp at hh; omega)
              case measure => simp [intOf]; omega
      · have hp2 : picked l n (L.take (i + 1)) = picked l n (L.take i) := by rw [HPS.out, if_neg hsel, List.append_nil]
        have HP2 := Lib.hid hp2
        by_cases hlv : x.lv = n
        · have t1 : (x.lv != n) = false := by simpa using hlv
          have t2 : decide (x.nu ∈ l) = false := by simp only [decide_eq_false_iff_not]; exact fun h => hsel ⟨hlv, h⟩
          rw [t2] at HCALL
          clear hlv t2 hsel hp2
          go_wp2_with (go_at_call 8; refine HCALL.out.mono ?_; rintro e w' ⟨rfl, rfl⟩)
          go_round
          case rel => exact ⟨i + 1, by omega, by go_num, by rw [HP2.out, ← HS.out], by rw [HP2.out, ← HS.out], by rw [HP2.out, ← HS.out]⟩
          case measure => simp [intOf]; omega
        · have t1 : (x.lv != n) = true := by simpa using hlv
          clear hlv hsel hp2
          go_wp2
          go_round
          case rel => exact ⟨i + 1, by omega, by go_num, by rw [HP2.out, ← HS.out], by rw [HP2.out, ← HS.out], by rw [HP2.out, ← HS.out]⟩
          case measure => simp [intOf]; omega
    · obtain rfl : i = len := by omega
      have hend : (p, q, b) = stOf (picked l n L) := by rw [HS.out, List.take_of_length_le (by have := HN.out; omega)]
      have HE := Lib.hid hend
      clear hend
      cases b with
      | false =>
        go_wp2
        go_ret
        exact ⟨by rw [← HE.out]; rfl, HB1.out⟩
      | true =>
        rcases less3 f.f q with ⟨h1, s1, s2⟩ | ⟨h1, s1, s2⟩ | ⟨h1, s1, s2⟩
        all_goals
          rcases less3 f.l p with ⟨h2, s3, s4⟩ | ⟨h2, s3, s4⟩ | ⟨h2, s3, s4⟩
          all_goals
            have HH := Lib.hid (And.intro h1 h2)
            clear h1 h2
            go_wp2
            go_ret
            refine ⟨?_, HB1.out⟩
            rw [← HE.out]
            have h1 := HH.out.1
            have h2 := HH.out.2
            have r : ∀ (x y : Bool), decide (kcmp f.f q ≤ 0) = x → decide (0 ≤ kcmp f.l p) = y → Ending.returned (.bool (x && y)) = Ending.returned (.bool (inRange (p, q, true) f)) := by
              intro x y e1 e2
              rw [← e1, ← e2]
              rfl
            first
              | exact r true true (by simp; omega) (by simp; omega)
              | exact r true false (by simp; omega) (by simp; omega)
              | exact r false true (by simp; omega) (by simp; omega)
              | exact r false false (by simp; omega) (by simp; omega)
end Go.Proofs.Ytnnjngooggenpaa
