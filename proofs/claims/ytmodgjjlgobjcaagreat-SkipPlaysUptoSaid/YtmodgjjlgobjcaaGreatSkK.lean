/-
  all: what a range over the pairs from a key on comes by.
-/
import Derived.Test.YtmodgjjlgobjcaaGreatSkJ
import Derived.RangeFuncNested
import Derived.RangeFuncBound
import Derived.RangeFuncCalls
import Derived.RangeFuncLeaves
import Derived.RangeFuncBox
import Derived.Shelf.Abstract
import Derived.Shelf.RegionOpen
import Derived.WalkKit
import Derived.OwnWalkIn
import Derived.TacticsInMore
import Derived.LoopNIn
import Derived.LoopIn
namespace Go.Proofs.YtmodgjjlgobjcaaGreat
open Go.RowKit Go.Shelf

attribute [local go_sem] Oper.semAt_some

theorem Tn.ofBelowAt {n₀ : Nat} {a b : World} (h : Below n₀ a b) : Tn (fun q => n₀ ≤ q) a b := ⟨h.os, h.tape, h.output, h.size, fun i _ hf => h.block i (Nat.lt_of_not_le hf)⟩
theorem SkAt.belowAt {w w' : World} {sb : Nat} {L : List Nd} {fr : Bool} {n₀ : Nat} (s : SkAt w sb L fr) (hb : Below n₀ w w') (h0 : ∀ q, Feet sb L q → q < n₀) : SkAt w' sb L fr :=
  s.turn (Tn.ofBelowAt hb) (fun e => by have := h0 sb (Or.inl rfl); omega) (fun n hn e => by have := h0 n.b (Or.inr ⟨n, hn, rfl⟩); omega)

/-- A pair of L. -/
abbrev In (L : List Nd) := { x : Nd // x ∈ L }
def encN {L : List Nd} (x : In L) : Array Value := #[.pointer (some ⟨x.1.b, 0, none⟩)]
/-- The pairs from the m-th on. -/
def from_ (L : List Nd) (m : Nat) : List (In L) := L.attach.drop m

theorem all_any (k : ByteArray) (o : Option Addr) (w : World) :
    Calls Tryz.prog 31 #[.pointer o, .string k] w fun e w' => e = .returned (.func (.func 98) #[] #[.pointer (some ⟨w.heap.size, 0, none⟩), .pointer (some ⟨w.heap.size + 1, 0, none⟩)]) ∧
      w' = (w.alloc (.cells #[.pointer o] 24)).alloc (.cells #[.string k] 9) := by
  go_enter Tryz.func31, Tryz.ntmps31
  go_wp2
  go_ret
  exact ⟨by simp, rfl⟩

theorem from_get {L : List Nd} {m j : Nat} (h : m ≤ j) {x : Nd} (hx : L[j]? = some x) : ∃ hm, (from_ L m)[j - m]? = some ⟨x, hm⟩ := by
  refine ⟨List.mem_of_getElem? hx, ?_⟩
  obtain ⟨hlt, he⟩ := List.getElem?_eq_some_iff.1 hx
  unfold from_
  rw [List.getElem?_drop, show m + (j - m) = j by omega, List.getElem?_eq_getElem (by simpa using hlt)]
  simp [he]
theorem from_len {L : List Nd} {m : Nat} : (from_ L m).length = L.length - m := by simp [from_]
theorem from_val {L : List Nd} {m : Nat} : (from_ L m).map (·.1) = L.drop m := by
  unfold from_
  rw [List.map_drop, List.attach_map_subtype_val]

set_option maxRecDepth 100000 in
set_option maxHeartbeats 1000000 in
theorem all1_in (n : Nat) (hn : 1 ≤ n) (l B1 B2 n₀ : Nat) {W : World} {sb : Nat} {L : List Nd} {fr : Bool} (s : SkAt W sb L fr) (h0 : ∀ q, Feet sb L q → q < n₀) (k : ByteArray) (J Jx : List (In L) → World → Prop)
    (hJ : AbidesFrom W.heap.size J)
    (hY : ∀ pre x W, J pre W → pre.length < (from_ L (below L k)).length → YieldAt Fence.wide (n - 1) Tryz.prog l (encN x) W fun e W' =>
      (e = .returned (.bool true) ∧ J (pre ++ [x]) W' ∧ Below n₀ W W') ∨ (e = .returned (.bool false) ∧ Jx (pre ++ [x]) W'))
    (hB1 : W.cell? ⟨B1, 0, none⟩ = some (.pointer (some ⟨sb, 0, none⟩))) (hB2 : W.cell? ⟨B2, 0, none⟩ = some (.string k)) (hJ0 : J [] W) :
    CallsIn Fence.wide n Tryz.prog 98 #[.func (.yield l) #[] #[], .pointer (some ⟨B1, 0, none⟩), .pointer (some ⟨B2, 0, none⟩)] W fun e W' => (∃ v, e = .returned v) ∧
      ((∃ ys, ys = from_ L (below L k) ∧ J ys W') ∨ (∃ pre, pre <+: from_ L (below L k) ∧ Jx pre W')) := by
  have hix := index0
  have HS := Lib.hid s
  have HA := Lib.hid (below_le L k)
  clear s
  refine callsIn_of_wp Tryz.func98 rfl trivial ?_ rfl
  simp only [Tryz.ntmps98, List.size_toArray, List.length_cons, List.length_nil, Nat.reduceAdd, Nat.reduceSub, Array.replicate_succ, Array.replicate_zero, List.push_toArray, List.append_toArray, List.nil_append, List.cons_append]
  gi_wp2
  refine ⟨trivial, (callsIn_wide.2 (before_lit HS.out k)).mono ?_⟩
  rintro _ W1 ⟨f, hfp, rfl, hb1⟩
  have hp0 := pos0 HS.out.hts (hfp 0 (by omega))
  have hJ1 : J [] W1 := hJ [] W W1 none hJ0 ⟨hb1.os, hb1.tape, hb1.output, hb1.size, fun i hi _ => hb1.block i hi⟩ (fun _ e => by cases e)
  have HS1 := Lib.hid (HS.out.below hb1)
  have hin : inLane L 0 (below L k) := hp0 ▸ (hfp 0 (by omega)).1
  have hcell := HS1.out.next (by omega) hin
  obtain ⟨ov, hov⟩ : ∃ ov : Option Addr, ptr (nxt (L.drop (below L k)) 0) = .pointer ov := ⟨_, rfl⟩
  rw [hov] at hcell
  have HOV := Lib.hid hov
  rw [hp0]
  obtain ⟨b0, hb0⟩ : ∃ b0, b0 = blk sb L (below L k) := ⟨_, rfl⟩
  rw [← hb0] at hcell ⊢
  clear hov hin hfp hb1 hJ0 hJ hb0
  simp only []
  gi_wp2
  gi_loopw [4] (fun v wr => ∃ p : Nat, below L k ≤ p ∧ p ≤ L.length ∧ v = ptr (nxt (L.drop p) 0) ∧ SkAt wr sb L fr ∧ J ((from_ L (below L k)).take (p - below L k)) wr)
    (fun v _ => match v with
      | .pointer none => 0
      | u => L.length + 1 - pIdx sb L u)
  case atStart => exact ⟨below L k, Nat.le_refl _, HA.out, HOV.out.symm, HS1.out, by rw [Nat.sub_self, List.take_zero]; exact hJ1⟩
  case round =>
    obtain ⟨p, hmp, hp, rfl, hs, hJr⟩ := hrel
    have HSr := Lib.hid hs
    have hn0 := nxt0 hs.hts p
    have hix0 : (from_ L (below L k)).length = L.length - below L k := from_len
    clear hs
    rcases Nat.lt_or_ge p L.length with hlt | hge
    · obtain ⟨nd, hnd⟩ : ∃ nd, L[p]? = some nd := ⟨_, List.getElem?_eq_getElem hlt⟩
      obtain ⟨hmem, hget⟩ := from_get hmp hnd
      rw [hnd] at hn0
      obtain ⟨fn, tmps, assign, body, hy, hR⟩ := hY _ ⟨nd, hmem⟩ wr hJr (by rw [List.length_take]; omega)
      have htk : (from_ L (below L k)).take (p - below L k) ++ [⟨nd, hmem⟩] = (from_ L (below L k)).take (p + 1 - below L k) := by
        rw [show p + 1 - below L k = (p - below L k) + 1 by omega, List.take_add_one, hget]
        rfl
      rw [htk] at hR
      have hpi : pIdx sb L (.pointer (some ⟨nd.b, 0, none⟩)) = p + 1 := by
        have := pIdx_blk HSr.out.nod (p := p + 1) (by omega)
        rw [blk_succ hnd] at this
        exact this
      have HQ := Lib.hid (And.intro hnd (And.intro hpi htk))
      have hpn : ptr (nxt (L.drop p) 0) = .pointer (some ⟨nd.b, 0, none⟩) := by rw [hn0]; rfl
      rw [hpn]
      obtain ⟨nb, hnb⟩ : ∃ nb, nd.b = nb := ⟨_, rfl⟩
      have hyy := hy
      simp only [encN, hnb] at hyy
      rw [hnb]
      have HNB := Lib.hid hnb
      clear hn0 hpi htk hnd hnb hpn hy hJr
      gi_wp2
      refine hR.mono ?_
      rintro e W3 (⟨rfl, hJ3, hk3⟩ | ⟨rfl, hJx3⟩)
      · have HS3 := Lib.hid (HSr.out.belowAt hk3 h0)
        have hin3 : inLane L 0 (p + 1) := Or.inr ⟨nd, by simpa using HQ.out.1, by omega, by have := (HSr.out.hts nd hmem).1; omega⟩
        have hc3 := HS3.out.next (by omega) hin3
        rw [blk_succ HQ.out.1, HNB.out] at hc3
        obtain ⟨ov3, hov3⟩ : ∃ ov : Option Addr, ptr (nxt (L.drop (p + 1)) 0) = .pointer ov := ⟨_, rfl⟩
        rw [hov3] at hc3
        have HOV3 := Lib.hid hov3
        clear hin3 hov3 hk3
        gi_wp2
        go_roundw
        case rel => exact ⟨p + 1, by omega, by omega, HOV3.out.symm, HS3.out, hJ3⟩
        case measure =>
          rw [← HOV3.out, ← HNB.out]
          show _ < L.length + 1 - pIdx sb L (.pointer (some ⟨nd.b, 0, none⟩))
          rw [HQ.out.2.1, nxt0 HS3.out.hts (p + 1)]
          cases hn1 : L[p + 1]? with
          | none => show 0 < _; omega
          | some n2 =>
            show L.length + 1 - pIdx sb L (.pointer (some ⟨n2.b, 0, none⟩)) < _
            have h2 := pIdx_blk HS3.out.nod (p := p + 1 + 1) (by have := (List.getElem?_eq_some_iff.1 hn1).1; omega)
            rw [blk_succ hn1] at h2
            rw [h2]
            omega
      · gi_wp2
        refine bodyPost_ret (results_none rfl _ _ _) rfl ?_
        exact ⟨⟨_, rfl⟩, .inr ⟨_, List.take_prefix _ _, hJx3⟩⟩
    · obtain rfl : p = L.length := by omega
      rw [List.getElem?_eq_none (Nat.le_refl _)] at hn0
      have hpn : ptr (nxt (L.drop L.length) 0) = .pointer none := by rw [hn0]; rfl
      rw [hpn]
      have hend : (from_ L (below L k)).take (L.length - below L k) = from_ L (below L k) := List.take_of_length_le (by omega)
      rw [hend] at hJr
      clear hn0 hpn hend
      gi_wp2
      go_end0
      exact ⟨⟨_, rfl⟩, .inl ⟨_, rfl, hJr⟩⟩

/-- all hands back what a range goes through. -/
theorem all_stops (n : Nat) (hn : 1 ≤ n) (B1 B2 n₀ : Nat) {w : World} {sb : Nat} {L : List Nd} {fr : Bool} (s : SkAt w sb L fr) (h0 : ∀ q, Feet sb L q → q < n₀) (k : ByteArray) (h1 : B1 < w.heap.size) (h2 : B2 < w.heap.size)
    (hB1 : w.cell? ⟨B1, 0, none⟩ = some (.pointer (some ⟨sb, 0, none⟩))) (hB2 : w.cell? ⟨B2, 0, none⟩ = some (.string k)) :
    SeqStopsK Fence.wide n Tryz.prog 98 #[.pointer (some ⟨B1, 0, none⟩), .pointer (some ⟨B2, 0, none⟩)] encN (Below n₀) (fun ys => ys = from_ L (below L k)) (fun pre => pre <+: from_ L (below L k)) (from_ L (below L k)).length w := fun l J Jx _ hW hJ _ hY hj0 =>
  all1_in n hn l B1 B2 n₀ (s.below hW) h0 k J Jx hJ hY ((hW.cell (p := ⟨B1, 0, none⟩) h1).trans hB1) ((hW.cell (p := ⟨B2, 0, none⟩) h2).trans hB2) hj0
end Go.Proofs.YtmodgjjlgobjcaaGreat
