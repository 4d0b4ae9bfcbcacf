/-
  Lease: what asks no leases: times and vectors.
-/
import Derived.Test.YtmdhegmnfcodbaaApp2
import Derived.Test.YtmdhegmnfcodbaaMpS
import Derived.WalkSpells
namespace Go.Proofs.Ytmdhegmnfcodbaa
open Go.RowKit

/-- Numbers that can be read. -/
def RdI (w : World) (x : Value) (l : List Int) : Prop := ∃ a c, x = .slice a l.length c ∧ (l = [] ∨ ∃ b off, a = some ⟨b, off, none⟩ ∧ b < w.heap.size ∧ ∀ i (hi : i < l.length), w.cell? ⟨b, off + i, none⟩ = some (.int .i64 l[i]))
theorem RdI.below {w w' : World} {x : Value} {l : List Int} (h : RdI w x l) (hb : Below w.heap.size w w') : RdI w' x l := by
  obtain ⟨a, c, hx, h⟩ := h
  refine ⟨a, c, hx, h.imp id ?_⟩
  rintro ⟨b, off, ha, hlt, hc⟩
  exact ⟨b, off, ha, Nat.lt_of_lt_of_le hlt hb.size, fun i hi => (hb.cell (p := ⟨b, off + i, none⟩) hlt).trans (hc i hi)⟩

theorem info_int : (Try.prog.info? 3).map (fun i => (i.zero, i.size, i.bytes)) = some (some (.int .i64 0), 1, 8) := by kernel_rfl
/-- Slices of numbers, as vectors. -/
theorem eVec : Elm Try.prog 28 3 1 8 (fun k : Int => [.int .i64 k]) where
  und := Try.underlying28
  info := by
    obtain ⟨i0, hi0, hz0, hs0, hy0⟩ := info_parts info_int
    exact ⟨i0, _, hi0, hz0, hs0, hy0, rfl⟩
  pos := by decide
  few := by decide
  len _ := rfl
  one := by
    intro x u hu
    rw [List.mem_singleton] at hu
    subst hu
    rfl
theorem rdI_own {w : World} {B : Nat} {v : Value} {l : List Int} (h : Own eVec w B v l) : RdI w v l := by
  have h0 := h
  obtain ⟨h1, h2⟩ := h
  rcases h2 with ⟨rfl, h3⟩ | ⟨g, cap', cur, rfl, hg, hh, hn', hc, hcl, htk⟩
  · obtain rfl := List.eq_nil_of_length_eq_zero h3
    exact ⟨none, 0, rfl, .inl rfl⟩
  · refine ⟨_, cap', rfl, .inr ⟨g, 0, rfl, (Array.getElem?_eq_some_iff.1 hh).1, fun i hi => ?_⟩⟩
    have := h0.cellAt i (by omega)
    rw [Nat.zero_add, this]
    have h4 := eVec.get l i 0 hi (by omega)
    rw [Nat.mul_one, Nat.add_zero] at h4
    rw [h4]
    rfl

def rightB (ttl now : Int) : Bool := decide (1 ≤ ttl ∧ ttl ≤ 2147483647 ∧ 0 ≤ now ∧ now < 281474976710656)
theorem right_any (ttl now : Int) (w : World) : Calls Try.prog 20 #[.int .i64 ttl, .int .i64 now] w fun e w' => e = .returned (.bool (rightB ttl now)) ∧ w = w' := by
  go_enter Try.func20, Try.ntmps20
  by_cases h1 : (1 : Int) ≤ ttl
  · by_cases h2 : ttl ≤ (2147483647 : Int)
    · by_cases h3 : (0 : Int) ≤ now
      · by_cases h4 : now < (281474976710656 : Int)
        · go_wp2
          go_ret
          refine ⟨?_, rfl⟩
          have : rightB ttl now = true := by simp [rightB]; omega
          rw [this]
          try rfl
        · go_wp2
          go_ret
          refine ⟨?_, rfl⟩
          have : rightB ttl now = false := by simp [rightB]; omega
          rw [this]
          try rfl
      · go_wp2
        go_ret
        refine ⟨?_, rfl⟩
        have : rightB ttl now = false := by simp [rightB]; omega
        rw [this]
        try rfl
    · go_wp2
      go_ret
      refine ⟨?_, rfl⟩
      have : rightB ttl now = false := by simp [rightB]; omega
      rw [this]
      try rfl
  · go_wp2
    go_ret
    refine ⟨?_, rfl⟩
    have : rightB ttl now = false := by simp [rightB]; omega
    rw [this]
    try rfl
def tillZ (ttl now : Int) : Int := min (now + ttl) 281474976710656
theorem till_any (ttl now : Int) (h : rightB ttl now = true) (w : World) : Calls Try.prog 23 #[.int .i64 ttl, .int .i64 now] w fun e w' => e = .returned (.int .i64 (tillZ ttl now)) ∧ w = w' := by
  have h1 : 1 ≤ ttl ∧ ttl ≤ 2147483647 ∧ 0 ≤ now ∧ now < 281474976710656 := by simpa [rightB] using h
  have hw : IntKind.i64.wrap (now + ttl) = now + ttl := IntWalk.i64_in _ (by omega)
  clear h
  unfold tillZ
  by_cases hm : now + ttl ≤ 281474976710656
  · rw [Int.min_eq_left hm]
    go_enter Try.func23, Try.ntmps23
    go_wp2
    go_ret
    exact ⟨by first | rfl | (simp; omega), rfl⟩
  · rw [Int.min_eq_right (by omega)]
    go_enter Try.func23, Try.ntmps23
    go_wp2
    go_ret
    exact ⟨by first | rfl | (simp; omega), rfl⟩
theorem over_any (id : Int) (a : Option Addr) (n c : Nat) (until_ now : Int) (w : World) : Calls Try.prog 21 #[.agg #[.int .i64 id, .slice a n c, .int .i64 until_], .int .i64 now] w fun e w' => e = .returned (.bool (decide (until_ ≤ now))) ∧ Below w.heap.size w w' := by
  go_enter Try.func21, Try.ntmps21
  go_wp2
  go_ret
  exact ⟨rfl, (Below.refl _ _).alloc (Nat.le_refl _) _⟩

def okT (t : Int) : Bool := decide (0 ≤ t ∧ t < 281474976710656)
theorem valid1_any (t : Int) (w : World) : Calls Try.prog 34 #[.int .i64 t] w fun e w' => e = .returned (.bool (!okT t)) ∧ w = w' := by
  go_enter Try.func34, Try.ntmps34
  by_cases h1 : t < (0 : Int)
  · go_wp2
    go_ret
    refine ⟨?_, rfl⟩
    have : okT t = false := by simp [okT]; omega
    rw [this]
    rfl
  · by_cases h2 : (281474976710656 : Int) ≤ t
    · go_wp2
      go_ret
      refine ⟨?_, rfl⟩
      have : okT t = false := by simp [okT]; omega
      rw [this]
      rfl
    · go_wp2
      go_ret
      refine ⟨?_, rfl⟩
      have : okT t = true := by simp [okT]; omega
      rw [this]
      rfl
/-- The first place of a time that cannot be; below 0: there is none. -/
def IdxE (l : List Int) (e : Ending) : Prop := ∃ n : Int, e = .returned (.int .i64 n) ∧ ((l.all okT = true ∧ n = -1) ∨ (l.all okT = false ∧ 0 ≤ n))
set_option maxRecDepth 100000 in
set_option maxHeartbeats 1000000 in
theorem index_any {w : World} {x : Value} {l : List Int} (h : RdI w x l) (hl : l.length ≤ 1000000) :
    Calls Try.prog 47 #[x, .func (.func 34) #[] #[]] w fun e w' => IdxE l e ∧ w' = w := by
  obtain ⟨a, c, rfl, h1⟩ := h
  obtain ⟨n, hn⟩ : ∃ n, n = l.length := ⟨_, rfl⟩
  rw [← hn] at hl ⊢
  have HN := Lib.hid hn
  have H := Lib.hid h1
  clear hn h1
  go_enter Try.func47, Try.ntmps47
  go_wp2
  go_loopw [5, 8] (fun _ iv wr => ∃ i : Nat, i ≤ n ∧ iv = .int .i64 (i : Int) ∧ (l.take i).all okT = true ∧ wr = w) (fun _ iv _ => n - (intOf iv).toNat)
  case atStart => exact ⟨0, by omega, rfl, by simp, rfl⟩
  case round =>
    obtain ⟨i, hi, rfl, hall, rfl⟩ := hrel
    have HB := Lib.hid hall
    clear hall
    by_cases hlt : i < n
    · have hil : i < l.length := by have := HN.out; omega
      obtain ⟨b1, o1, rfl, l1, k1⟩ := H.out.resolve_left (fun e => by rw [e] at hil; simp at hil)
      have d1 := k1 i hil
      obtain ⟨u, hu⟩ : ∃ u, l[i] = u := ⟨_, rfl⟩
      rw [hu] at d1
      have hW := valid1_any u
      obtain ⟨nb, hnb⟩ : ∃ nb, okT u = nb := ⟨_, rfl⟩
      rw [hnb] at hW
      have htk : l.take (i + 1) = l.take i ++ [u] := by rw [List.take_succ_eq_append_getElem hil, hu]
      have HX := Lib.hid (And.intro htk (And.intro hnb hu))
      have r1 : (i : Int) < (n : Int) := by omega
      clear k1 hu htk hnb
      cases nb
      · simp only [Bool.not_false] at hW
        go_wp2_with (go_at_call 34; refine (hW _).mono ?_; rintro e w1 ⟨rfl, rfl⟩)
        go_ret
        refine ⟨⟨i, rfl, .inr ⟨?_, by omega⟩⟩, rfl⟩
        rw [Bool.eq_false_iff]
        intro h
        have := List.all_eq_true.1 h u (HX.out.2.2 ▸ List.getElem_mem hil)
        rw [HX.out.2.1] at this
        cases this
      · simp only [Bool.not_true] at hW
        go_wp2_with (go_at_call 34; refine (hW _).mono ?_; rintro e w1 ⟨rfl, rfl⟩)
        go_roundw
        case rel => exact ⟨i + 1, by omega, by go_num, by rw [HX.out.1, List.all_append, HB.out]; simp [HX.out.2.1], by first | rfl | trivial⟩
        case measure => simp [intOf]; omega
    · obtain rfl : i = n := by omega
      go_wp2
      go_ret
      refine ⟨⟨-1, rfl, .inl ⟨?_, rfl⟩⟩, rfl⟩
      have := HB.out
      rw [HN.out, List.take_length] at this
      exact this
theorem contains_any {w : World} {x : Value} {l : List Int} (h : RdI w x l) (hl : l.length ≤ 1000000) :
    Calls Try.prog 33 #[x, .func (.func 34) #[] #[]] w fun e w' => e = .returned (.bool (!l.all okT)) ∧ w = w' := by
  have hI := index_any h hl
  obtain ⟨b, hb⟩ : ∃ b, l.all okT = b := ⟨_, rfl⟩
  rw [hb]
  have HB := Lib.hid hb
  clear hb h hl
  go_enter Try.func33, Try.ntmps33
  go_wp2_with fail
  refine hI.mono ?_
  rintro e w1 ⟨⟨n, rfl, hn⟩, rfl⟩
  rw [HB.out] at hn
  clear hI
  rcases hn with ⟨rfl, rfl⟩ | ⟨rfl, hn⟩
  · go_wp2
    go_ret
    exact ⟨rfl, rfl⟩
  · go_wp2
    go_ret
    exact ⟨rfl, rfl⟩
def validB (l : List Int) : Bool := decide (1 ≤ l.length ∧ l.length ≤ 8) && l.all okT
set_option maxRecDepth 100000 in
theorem valid_any {w : World} {x : Value} {l : List Int} (h : RdI w x l) : Calls Try.prog 19 #[x] w fun e w' => e = .returned (.bool (validB l)) ∧ w = w' := by
  have hC := fun hl => contains_any h hl
  obtain ⟨a, c, rfl, -⟩ := h
  obtain ⟨n, hn⟩ : ∃ n, l.length = n := ⟨_, rfl⟩
  rw [hn] at hC ⊢
  by_cases h1 : 1 ≤ n
  · have t1 : (1 : Int) ≤ (n : Int) := by omega
    by_cases h2 : n ≤ 8
    · have t2 : (n : Int) ≤ 8 := by omega
      have hC := hC (by omega)
      obtain ⟨b, hb⟩ : ∃ b, l.all okT = b := ⟨_, rfl⟩
      have hv : validB l = b := by unfold validB; rw [hn, hb, decide_eq_true ⟨h1, h2⟩]; simp
      rw [hb] at hC
      rw [hv]
      clear hv hb hn h1 h2
      cases b
      · simp only [Bool.not_false] at hC
        go_enter Try.func19, Try.ntmps19
        go_wp2_with (go_at_call 33; refine hC.mono ?_; rintro e w1 ⟨rfl, rfl⟩)
        go_ret
        exact ⟨rfl, rfl⟩
      · simp only [Bool.not_true] at hC
        go_enter Try.func19, Try.ntmps19
        go_wp2_with (go_at_call 33; refine hC.mono ?_; rintro e w1 ⟨rfl, rfl⟩)
        go_ret
        exact ⟨rfl, rfl⟩
    · have t2 : ¬ (n : Int) ≤ 8 := by omega
      have hv : validB l = false := by unfold validB; rw [hn, decide_eq_false (by omega)]; simp
      rw [hv]
      clear hv hn h1 h2 hC
      go_enter Try.func19, Try.ntmps19
      go_wp2
      go_ret
      exact ⟨rfl, rfl⟩
  · have t1 : ¬ (1 : Int) ≤ (n : Int) := by omega
    have hv : validB l = false := by unfold validB; rw [hn, decide_eq_false (by omega)]; simp
    rw [hv]
    clear hv hn h1 hC
    go_enter Try.func19, Try.ntmps19
    go_wp2
    go_ret
    exact ⟨rfl, rfl⟩
end Go.Proofs.Ytmdhegmnfcodbaa
