/-
  Put in the whole.
-/
import Derived.Test.YtmodgjjlgobjcaaGreatSkF
namespace Go.Proofs.YtmodgjjlgobjcaaGreat
open Go.RowKit

/-- The list's own blocks. -/
def Feet (sb : Nat) (L : List Nd) (q : Nat) : Prop := q = sb ∨ ∃ n ∈ L, n.b = q
theorem SkAt.feet_lt {w : World} {sb : Nat} {L : List Nd} {fr : Bool} (s : SkAt w sb L fr) : ∀ q, Feet sb L q → q < w.heap.size := by
  rintro q (rfl | ⟨n, hn, rfl⟩)
  · exact s.lt
  · exact s.node_lt hn

def hasK (L : List Nd) (k : ByteArray) : Bool := match L[below L k]? with
  | some n => decide (n.k = k)
  | none => false
def putE (L : List Nd) (fr : Bool) (k v : ByteArray) : Int := if fr = true then 30 else if 65536 < k.size ∨ 65536 < v.size then 2 else if hasK L k = true then 23 else 0
def clampH (h : Int) : Nat := (min (max h 1) 12).toNat

/-- What Put leaves, seen from ahead of the call. -/
theorem put_back {w W w2 : World} {sb : Nat} {L L' : List Nd} {fr : Bool} (s : SkAt w sb L fr) (hb : Below w.heap.size w W) (hlt : w.heap.size < W.heap.size) (s2 : SkAt w2 sb L' fr) (ht : Tn (Feet sb L) W w2) (hL : ∀ n ∈ L', n ∈ L ∨ W.heap.size ≤ n.b) (v : Value) :
    SkAt (w2.setCell ⟨w.heap.size, 0, none⟩ v) sb L' fr ∧ Tn (Feet sb L) w (w2.setCell ⟨w.heap.size, 0, none⟩ v) := by
  refine ⟨s2.turn (Tn.setCell (F := fun q => q = w.heap.size) _ _ _ rfl) (fun e => ?_) (fun n hn e => ?_), ?_⟩
  · have := s.lt
    have e : sb = w.heap.size := e
    omega
  · have e : n.b = w.heap.size := e
    rcases hL n hn with h | h
    · have := s.node_lt h; omega
    · omega
  · have h0 : Tn (Feet sb L) w W := Tn.ofBelow hb
    exact (h0.trans ht).andThen (Tn.setCell (F := fun q => q = w.heap.size) _ _ _ rfl) (fun q e => Or.inr (by omega))

theorem keep_res {w W w2 : World} {sb : Nat} {L : List Nd} {fr : Bool} (s : SkAt w sb L fr) (hlt : w.heap.size < W.heap.size) (ht : Tn (Feet sb L) W w2) : w2.heap[w.heap.size]? = W.heap[w.heap.size]? :=
  ht.block _ hlt (fun e => by have := s.feet_lt _ e; omega)

theorem Put_any {w : World} {sb : Nat} {L : List Nd} {fr : Bool} (s : SkAt w sb L fr) (k v : ByteArray) (h : Int) (hlen : L.length < 100000) :
    Calls Tryz.prog 6 #[.pointer (some ⟨sb, 0, none⟩), .string k, .string v, .int .i64 h] w fun e w' =>
      e = .returned (.int .i64 (putE L fr k v)) ∧ ∃ nb : Nat, w.heap.size ≤ nb ∧ SkAt w' sb (if putE L fr k v = 0 then ins L (below L k) ⟨nb, k, v, clampH h⟩ else L) fr ∧ Tn (Feet sb L) w w' := by
  by_cases h0 : putE L fr k v = 0
  · simp only [h0, if_true]
    have hfr : fr = false := by
      cases fr
      · rfl
      · simp [putE] at h0
    subst hfr
    have hl : ¬ (65536 < k.size ∨ 65536 < v.size) := fun e => by simp [putE, e] at h0
    have hh : hasK L k = false := by
      cases e : hasK L k
      · rfl
      · simp [putE, e, hl] at h0
    have hno : ∀ n, L[below L k]? = some n → n.k ≠ k := by
      intro n hn e
      simp [hasK, hn, e] at hh
    refine (Put_run (.pointer (some ⟨sb, 0, none⟩)) k v h w (fun code W w' => code = 0 ∧ ∃ nb : Nat, W.heap.size ≤ nb ∧ SkAt w' sb (ins L (below L k) ⟨nb, k, v, clampH h⟩) false ∧ Tn (Feet sb L) W w') (fun W hb hlt => ?_)).mono ?_
    · refine (put_ok (s.below hb) k v h (by omega) (by omega) hno hlen).mono ?_
      rintro e w' ⟨rfl, nb, h1, h2, h3⟩
      exact ⟨Or.inl ⟨rfl, rfl, nb, h1, h2, h3⟩, keep_res s hlt h3⟩
    · rintro e w' ⟨code, W, w2, rfl, hb, hlt, ⟨rfl, nb, h1, h2, h3⟩, rfl⟩
      have hs := hb.size
      obtain ⟨q1, q2⟩ := put_back s hb hlt h2 h3 (fun n hn => (ins_mem hn).elim (fun e => Or.inr (by rw [e]; exact h1)) Or.inl) (.int .i64 0)
      exact ⟨rfl, nb, by omega, q1, q2⟩
  · simp only [if_neg h0]
    have hR : ∀ W, Below w.heap.size w W → w.heap.size < W.heap.size → Calls Tryz.prog 29 #[.pointer (some ⟨sb, 0, none⟩), .string k, .string v, .int .i64 h] W fun e w' =>
        ((e = .returned (.tuple #[]) ∧ ((0 : Int) = putE L fr k v ∧ SkAt w' sb L fr ∧ Tn (Feet sb L) W w')) ∨ ∃ code, e = errPanic code ∧ (code = putE L fr k v ∧ SkAt w' sb L fr ∧ Tn (Feet sb L) W w')) ∧ w'.heap[w.heap.size]? = W.heap[w.heap.size]? := by
      intro W hb hlt
      have sW := s.below hb
      cases fr with
      | true =>
        refine (put_open sW k v h).mono ?_
        rintro e w' ⟨rfl, rfl⟩
        exact ⟨Or.inr ⟨30, rfl, by simp [putE], sW, Tn.refl _ _⟩, rfl⟩
      | false =>
        by_cases hl : 65536 < k.size ∨ 65536 < v.size
        · refine (put_long sW k v h hl).mono ?_
          rintro e w' ⟨rfl, rfl⟩
          exact ⟨Or.inr ⟨2, rfl, by simp [putE, hl], sW, Tn.refl _ _⟩, rfl⟩
        · have hh : hasK L k = true := by
            cases e : hasK L k
            · exact absurd (by simp [putE, hl, e]) h0
            · rfl
          cases hn : L[below L k]? with
          | none => simp [hasK, hn] at hh
          | some n =>
            have hk : n.k = k := by simpa [hasK, hn] using hh
            refine (put_there sW k v h (by omega) (by omega) n hn hk).mono ?_
            rintro e w' ⟨rfl, hb2⟩
            exact ⟨Or.inr ⟨23, rfl, by simp [putE, hl, hh], sW.below hb2, Tn.ofBelow hb2⟩, hb2.block _ hlt⟩
    refine (Put_run (.pointer (some ⟨sb, 0, none⟩)) k v h w (fun code W w' => code = putE L fr k v ∧ SkAt w' sb L fr ∧ Tn (Feet sb L) W w') hR).mono ?_
    rintro e w' ⟨code, W, w2, rfl, hb, hlt, ⟨rfl, h2, h3⟩, rfl⟩
    obtain ⟨q1, q2⟩ := put_back s hb hlt h2 h3 (fun n hn => Or.inl hn) (.int .i64 (putE L fr k v))
    exact ⟨rfl, w.heap.size, Nat.le_refl _, q1, q2⟩

theorem Put_nil (k v : ByteArray) (h : Int) (w : World) : Calls Tryz.prog 6 #[.pointer none, .string k, .string v, .int .i64 h] w fun e w' => e = .returned (.int .i64 1) ∧ Below w.heap.size w w' := by
  refine (Put_run (.pointer none) k v h w (fun code W w' => code = 1 ∧ W = w') (fun W hb hlt => ?_)).mono ?_
  · refine (put_nil k v h W).mono ?_
    rintro e w' ⟨rfl, rfl⟩
    exact ⟨Or.inr ⟨1, rfl, rfl, rfl⟩, rfl⟩
  · rintro e w' ⟨code, W, w2, rfl, hb, hlt, ⟨rfl, rfl⟩, rfl⟩
    exact ⟨rfl, hb.setCell (p := ⟨w.heap.size, 0, none⟩) (Nat.le_refl _) _⟩
end Go.Proofs.YtmodgjjlgobjcaaGreat
