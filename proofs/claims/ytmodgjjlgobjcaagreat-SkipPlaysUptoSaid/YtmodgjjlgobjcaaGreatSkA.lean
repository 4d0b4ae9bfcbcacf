/-
  before: the last pair of each lane whose key is below one.
-/
import Derived.Test.YtmodgjjlgobjcaaGreatCmp
namespace Go.Proofs.YtmodgjjlgobjcaaGreat
open Go.RowKit

theorem SkAt.lt {w : World} {sb : Nat} {L : List Nd} {fr : Bool} (s : SkAt w sb L fr) : sb < w.heap.size := World.block_lt_of_cell? w _ s.cnt
theorem SkAt.node_lt {w : World} {sb : Nat} {L : List Nd} {fr : Bool} (s : SkAt w sb L fr) {n : Nd} (hn : n ∈ L) : n.b < w.heap.size := by
  obtain ⟨i, hi, rfl⟩ := List.mem_iff_getElem.1 hn
  exact World.block_lt_of_cell? w _ (s.node i hi).c0
theorem SkAt.turn {F : Nat → Prop} {w w' : World} {sb : Nat} {L : List Nd} {fr : Bool} (s : SkAt w sb L fr) (ht : Tn F w w') (h0 : ¬ F sb) (h1 : ∀ n ∈ L, ¬ F n.b) : SkAt w' sb L fr := by
  refine ⟨fun h hh => ht.cell (s.head h hh) h0, ht.cell s.cnt h0, ht.cell s.byt h0, ht.cell s.frz h0, fun j => (ht.frozen s.lt h0).trans (s.fz j), fun i hi => ?_, fun i hi h hh => ht.cell (s.lane i hi h hh) (h1 _ (List.getElem_mem hi)), s.sorted, s.hts, s.sizes, s.nod, s.len, s.pl.1.turn ht h0, fun n hn => (s.pl.2 n hn).turn ht (h1 n hn)⟩
  have hF := h1 _ (List.getElem_mem hi)
  have hlt := s.node_lt (List.getElem_mem hi)
  have hn := s.node i hi
  exact ⟨ht.cell hn.c0 hF, ht.cell hn.c1 hF, ht.cell hn.c2 hF, fun j => (ht.frozen hlt hF).trans (hn.fz j)⟩
theorem SkAt.below {w w' : World} {sb : Nat} {L : List Nd} {fr : Bool} (s : SkAt w sb L fr) (hb : Below w.heap.size w w') : SkAt w' sb L fr := s.turn (F := fun _ => False) (Tn.ofBelow hb) (fun e => e) (fun _ _ e => e)

theorem inLane.mono {L : List Nd} {h h' p : Nat} (hp : inLane L h p) (hh : h' ≤ h) : inLane L h' p := hp.imp id (fun ⟨n, a, b, c⟩ => ⟨n, a, b, by omega⟩)

/-- p is the last place of lane h whose key is below k. -/
def IsPos (L : List Nd) (k : ByteArray) (h p : Nat) : Prop := inLane L h p ∧ p ≤ below L k ∧ ∀ j, p < j → j ≤ below L k → ¬ inLane L h j

theorem below_le (L : List Nd) (k : ByteArray) : below L k ≤ L.length := by
  unfold below
  exact (List.takeWhile_prefix _).length_le

theorem below_iff {L : List Nd} (hs : L.Pairwise (fun a b => kcmp a.k b.k < 0)) (k : ByteArray) {q : Nat} {n : Nd} (hq : L[q]? = some n) : kcmp n.k k < 0 ↔ q < below L k := by
  induction L generalizing q with
  | nil => simp at hq
  | cons a L ih =>
    obtain ⟨ha, hs'⟩ := List.pairwise_cons.1 hs
    unfold below
    by_cases h : kcmp a.k k < 0
    · rw [List.takeWhile_cons_of_pos (by simpa using h)]
      cases q with
      | zero =>
        simp only [List.getElem?_cons_zero, Option.some.injEq] at hq
        subst hq
        simp [h]
      | succ q =>
        have := ih hs' (q := q) (by simpa using hq)
        unfold below at this
        rw [this]
        simp
    · rw [List.takeWhile_cons_of_neg (by simpa using h)]
      constructor
      · intro hn
        exfalso
        cases q with
        | zero =>
          simp only [List.getElem?_cons_zero, Option.some.injEq] at hq
          subst hq
          exact h hn
        | succ q => exact h (kcmp_trans (ha n (List.mem_of_getElem? (by simpa using hq))) hn)
      · intro hn
        simp at hn

theorem blk_succ {sb : Nat} {L : List Nd} {q : Nat} {n : Nd} (hq : L[q]? = some n) : blk sb L (q + 1) = n.b := by simp [blk, hq]

theorem pos_none {L : List Nd} {k : ByteArray} {h p : Nat} (hp : inLane L h p) (hb : p ≤ below L k) (e : nxt (L.drop p) h = none) : IsPos L k h p := by
  refine ⟨hp, hb, fun j h1 h2 hj => ?_⟩
  rcases hj with rfl | ⟨n, hn, h3, h4⟩
  · omega
  · have := nxt_none e (j - 1) n (by omega) hn
    omega
theorem pos_some {L : List Nd} {k : ByteArray} {h p q : Nat} {n : Nd} (hs : L.Pairwise (fun a b => kcmp a.k b.k < 0)) (hp : inLane L h p) (hb : p ≤ below L k) (hq : L[q]? = some n) (hno : ∀ j n', p ≤ j → j < q → L[j]? = some n' → n'.h ≤ h) (hk : ¬ kcmp n.k k < 0) : IsPos L k h p := by
  refine ⟨hp, hb, fun j h1 h2 hj => ?_⟩
  have hqb : ¬ q < below L k := fun e => hk ((below_iff hs k hq).2 e)
  rcases hj with rfl | ⟨n', hn, h3, h4⟩
  · omega
  · have := hno (j - 1) n' (by omega) (by omega) hn
    omega

/-- What before lays down: for the lanes from c on, the places of f. -/
def Out (w : World) (ob sb : Nat) (L : List Nd) (c : Nat) (f : Nat → Nat) : Prop :=
  ∀ j, j < 12 → w.cell? ⟨ob, j, none⟩ = some (if c ≤ j then .pointer (some ⟨blk sb L (f j), 0, none⟩) else .pointer none)

def nils : Array Value := (List.replicate 12 (Value.pointer none)).toArray
theorem nils_get (j : Nat) (h : j < 12) : nils[j]? = some (.pointer none) := by
  unfold nils
  rw [List.getElem?_toArray, List.getElem?_replicate, if_pos h]

/-- The place of a pointer to a pair. -/
def pIdx (sb : Nat) (L : List Nd) (v : Value) : Nat := match v with
  | .pointer (some a) => (sb :: L.map (·.b)).idxOf a.block
  | _ => 0
theorem pIdx_blk {sb : Nat} {L : List Nd} (hn : (sb :: L.map (·.b)).Nodup) {p : Nat} (hp : p ≤ L.length) : pIdx sb L (.pointer (some ⟨blk sb L p, 0, none⟩)) = p := by
  have hlt : p < (sb :: L.map (·.b)).length := by simp; omega
  have e : blk sb L p = (sb :: L.map (·.b))[p] := by
    cases p with
    | zero => rfl
    | succ q => simp only [blk, List.getElem_cons_succ]; rw [List.getD_eq_getElem?_getD, List.getElem?_eq_getElem (by simpa using hlt)]; rfl
  simp only [pIdx]
  rw [e]
  exact hn.idxOf_getElem p hlt

/-- Values laid down one behind the other. -/
def chain (w : World) (b : Nat) (v : Nat → Value) : Nat → World
  | 0 => w
  | n + 1 => (chain w b v n).setCell ⟨b, n, none⟩ (v n)
theorem chain_get (w : World) (b : Nat) (v : Nat → Value) (N : Nat) (h : ∀ j, j < N → ∃ u, w.cell? ⟨b, j, none⟩ = some u) : ∀ n, n ≤ N → ∀ j, j < N → (chain w b v n).cell? ⟨b, j, none⟩ = if j < n then some (v j) else w.cell? ⟨b, j, none⟩
  | 0, _, j, _ => by rw [if_neg (by omega)]; rfl
  | n + 1, hn, j, hj => by
    have ih := chain_get w b v N h n (by omega)
    unfold chain
    by_cases e : j = n
    · subst e
      obtain ⟨u, hu⟩ := h j hj
      rw [World.cell?_setCell_same _ _ _ (show (chain w b v j).cell? ⟨b, j, none⟩ = some u by rw [ih j hj, if_neg (by omega)]; exact hu), if_pos (by omega)]
    · rw [World.cell?_setCell_other _ _ _ _ (fun e2 => e (by injection e2 with _ e3; exact e3.symm)), ih j hj]
      by_cases h2 : j < n
      · rw [if_pos h2, if_pos (by omega)]
      · rw [if_neg h2, if_neg (by omega)]
theorem chain_tn (w : World) (b : Nat) (v : Nat → Value) : ∀ n, Tn (fun q => q = b) w (chain w b v n)
  | 0 => Tn.refl _ _
  | n + 1 => (chain_tn w b v n).trans (Tn.setCell _ _ _ rfl)

set_option maxRecDepth 100000 in
set_option maxHeartbeats 1000000 in
theorem before_any {w : World} {sb : Nat} {L : List Nd} {fr : Bool} (s : SkAt w sb L fr) (k : ByteArray) :
    Calls Tryz.prog 33 #[.pointer (some ⟨sb, 0, none⟩), .string k] w fun e w' => ∃ f : Nat → Nat, (∀ j, j < 12 → IsPos L k j (f j)) ∧
      e = .returned (.agg ((List.range 12).map fun j => Value.pointer (some ⟨blk sb L (f j), 0, none⟩)).toArray) ∧ Below w.heap.size w w' := by
  obtain ⟨W0, hW0⟩ : ∃ W0, (w.alloc (.cells nils 31)).alloc (.cells nils 31) = W0 := ⟨_, rfl⟩
  have hb0 : Below w.heap.size w W0 := by rw [← hW0]; exact ((Below.refl _ _).alloc (Nat.le_refl _) _).alloc (by simp) _
  have ho : ∀ j, j < 12 → W0.cell? ⟨w.heap.size + 1, j, none⟩ = some (.pointer none) := by
    intro j hj
    rw [← hW0, show w.heap.size + 1 = (w.alloc (.cells nils 31)).heap.size by simp, World.cell?_alloc_mark]
    exact nils_get j hj
  have hr : ∀ j, j < 12 → W0.cell? ⟨w.heap.size, j, none⟩ = some (.pointer none) := by
    intro j hj
    rw [← hW0, World.cell?_alloc_lt _ _ _ (by simp), World.cell?_alloc_mark]
    exact nils_get j hj
  have hfz : ∀ j, W0.frozen? ⟨w.heap.size + 1, j, none⟩ = false ∧ W0.frozen? ⟨w.heap.size, j, none⟩ = false := by
    intro j
    rw [← hW0]
    constructor <;> simp [go_sem]
  have s0 := s.below hb0
  have HS := Lib.hid s0
  have HLT : Hid (sb < w.heap.size ∧ ∀ n ∈ L, n.b < w.heap.size) := ⟨s.lt, fun n hn => s.node_lt hn⟩
  have HB := Lib.hid hb0
  have HO := Lib.hid ho
  have HR := Lib.hid hr
  have HZ := Lib.hid hfz
  have hlen := s.len
  unfold nils at hW0
  simp only [List.replicate] at hW0
  clear ho hr hfz hb0 s0 s
  go_enter Tryz.func33, Tryz.ntmps33
  go_wp2_with fail
  clear hW0
  go_loopw [6, 7] (fun x y wr => ∃ (c p : Nat) (f : Nat → Nat), c ≤ 12 ∧ x = .pointer (some ⟨blk sb L p, 0, none⟩) ∧ y = .int .i64 ((c : Int) - 1) ∧ inLane L c p ∧ p ≤ below L k ∧ (∀ j, c ≤ j → j < 12 → IsPos L k j (f j)) ∧
    Out wr (w.heap.size + 1) sb L c f ∧ (∀ j, wr.frozen? ⟨w.heap.size + 1, j, none⟩ = false) ∧ Tn (fun q => q = w.heap.size + 1) W0 wr) (fun _ y _ => (intOf y + 1).toNat)
  case atStart =>
    refine ⟨12, 0, fun _ => 0, by omega, rfl, rfl, Or.inl rfl, by omega, by omega, ?_, fun j => (HZ.out j).1, Tn.refl _ _⟩
    intro j hj
    rw [if_neg (by omega)]
    exact HO.out j hj
  case round =>
    obtain ⟨c, p, f, hc, rfl, rfl, hp, hpb, hf, hout, hfw, ht⟩ := hrel
    have HF := Lib.hid hf
    have HOUT := Lib.hid hout
    have HT := Lib.hid ht
    have HP := Lib.hid hp
    have HS2 : Hid (SkAt wr sb L fr) := HS.out.turn ht (fun e => by have := HLT.out.1; omega) (fun n hn e => by have := HLT.out.2 n hn; omega)
    clear hf hout ht hp
    cases c with
    | zero =>
      have hne : ¬ ((fun q => q = w.heap.size + 1) w.heap.size) := fun e => by have e : w.heap.size = w.heap.size + 1 := e; omega
      have hrl : w.heap.size < W0.heap.size := World.block_lt_of_cell? W0 ⟨w.heap.size, 0, none⟩ (HR.out 0 (by omega))
      have k0 : wr.cell? ⟨w.heap.size + 1, 0, none⟩ = some (.pointer (some ⟨blk sb L (f 0), 0, none⟩)) := HOUT.out 0 (by omega)
      have r0 : wr.cell? ⟨w.heap.size, 0, none⟩ = some (.pointer none) := HT.out.cell (HR.out 0 (by omega)) hne
      have k1 : wr.cell? ⟨w.heap.size + 1, 1, none⟩ = some (.pointer (some ⟨blk sb L (f 1), 0, none⟩)) := HOUT.out 1 (by omega)
      have r1 : wr.cell? ⟨w.heap.size, 1, none⟩ = some (.pointer none) := HT.out.cell (HR.out 1 (by omega)) hne
      have k2 : wr.cell? ⟨w.heap.size + 1, 2, none⟩ = some (.pointer (some ⟨blk sb L (f 2), 0, none⟩)) := HOUT.out 2 (by omega)
      have r2 : wr.cell? ⟨w.heap.size, 2, none⟩ = some (.pointer none) := HT.out.cell (HR.out 2 (by omega)) hne
      have k3 : wr.cell? ⟨w.heap.size + 1, 3, none⟩ = some (.pointer (some ⟨blk sb L (f 3), 0, none⟩)) := HOUT.out 3 (by omega)
      have r3 : wr.cell? ⟨w.heap.size, 3, none⟩ = some (.pointer none) := HT.out.cell (HR.out 3 (by omega)) hne
      have k4 : wr.cell? ⟨w.heap.size + 1, 4, none⟩ = some (.pointer (some ⟨blk sb L (f 4), 0, none⟩)) := HOUT.out 4 (by omega)
      have r4 : wr.cell? ⟨w.heap.size, 4, none⟩ = some (.pointer none) := HT.out.cell (HR.out 4 (by omega)) hne
      have k5 : wr.cell? ⟨w.heap.size + 1, 5, none⟩ = some (.pointer (some ⟨blk sb L (f 5), 0, none⟩)) := HOUT.out 5 (by omega)
      have r5 : wr.cell? ⟨w.heap.size, 5, none⟩ = some (.pointer none) := HT.out.cell (HR.out 5 (by omega)) hne
      have k6 : wr.cell? ⟨w.heap.size + 1, 6, none⟩ = some (.pointer (some ⟨blk sb L (f 6), 0, none⟩)) := HOUT.out 6 (by omega)
      have r6 : wr.cell? ⟨w.heap.size, 6, none⟩ = some (.pointer none) := HT.out.cell (HR.out 6 (by omega)) hne
      have k7 : wr.cell? ⟨w.heap.size + 1, 7, none⟩ = some (.pointer (some ⟨blk sb L (f 7), 0, none⟩)) := HOUT.out 7 (by omega)
      have r7 : wr.cell? ⟨w.heap.size, 7, none⟩ = some (.pointer none) := HT.out.cell (HR.out 7 (by omega)) hne
      have k8 : wr.cell? ⟨w.heap.size + 1, 8, none⟩ = some (.pointer (some ⟨blk sb L (f 8), 0, none⟩)) := HOUT.out 8 (by omega)
      have r8 : wr.cell? ⟨w.heap.size, 8, none⟩ = some (.pointer none) := HT.out.cell (HR.out 8 (by omega)) hne
      have k9 : wr.cell? ⟨w.heap.size + 1, 9, none⟩ = some (.pointer (some ⟨blk sb L (f 9), 0, none⟩)) := HOUT.out 9 (by omega)
      have r9 : wr.cell? ⟨w.heap.size, 9, none⟩ = some (.pointer none) := HT.out.cell (HR.out 9 (by omega)) hne
      have k10 : wr.cell? ⟨w.heap.size + 1, 10, none⟩ = some (.pointer (some ⟨blk sb L (f 10), 0, none⟩)) := HOUT.out 10 (by omega)
      have r10 : wr.cell? ⟨w.heap.size, 10, none⟩ = some (.pointer none) := HT.out.cell (HR.out 10 (by omega)) hne
      have k11 : wr.cell? ⟨w.heap.size + 1, 11, none⟩ = some (.pointer (some ⟨blk sb L (f 11), 0, none⟩)) := HOUT.out 11 (by omega)
      have r11 : wr.cell? ⟨w.heap.size, 11, none⟩ = some (.pointer none) := HT.out.cell (HR.out 11 (by omega)) hne
      have hfr : ∀ j, wr.frozen? ⟨w.heap.size, j, none⟩ = false := fun j => (HT.out.frozen (p := ⟨w.heap.size, j, none⟩) hrl hne).trans (HZ.out j).2
      clear hpb
      go_wp2
      obtain ⟨W9, hW9⟩ : ∃ W9, chain wr w.heap.size (fun j => Value.pointer (some ⟨blk sb L (f j), 0, none⟩)) 12 = W9 := ⟨_, rfl⟩
      have hg : ∀ j, j < 12 → W9.cell? ⟨w.heap.size, j, none⟩ = some (.pointer (some ⟨blk sb L (f j), 0, none⟩)) := by
        intro j hj
        rw [← hW9, chain_get _ _ _ 12 (fun j hj => ⟨_, HT.out.cell (HR.out j hj) hne⟩) 12 (by omega) j hj, if_pos hj]
      have hb9 : Below w.heap.size w W9 := by
        rw [← hW9]
        exact ((HB.out.trans (HT.out.below HB.out.size (fun q e => by have e : q = w.heap.size + 1 := e; omega))).trans ((chain_tn _ _ _ 12).below (Nat.le_trans HB.out.size HT.out.size) (fun q e => by have e : q = w.heap.size := e; omega)))
      show bodyPost _ _ _ Exit.ret _ (chain wr w.heap.size (fun j => Value.pointer (some ⟨blk sb L (f j), 0, none⟩)) 12)
      rw [hW9]
      have z0 := hg 0 (by omega)
      have z1 := hg 1 (by omega)
      have z2 := hg 2 (by omega)
      have z3 := hg 3 (by omega)
      have z4 := hg 4 (by omega)
      have z5 := hg 5 (by omega)
      have z6 := hg 6 (by omega)
      have z7 := hg 7 (by omega)
      have z8 := hg 8 (by omega)
      have z9 := hg 9 (by omega)
      have z10 := hg 10 (by omega)
      have z11 := hg 11 (by omega)
      refine ⟨rfl, _, ?_, f, fun j hj => HF.out j (by omega) hj, rfl, hb9⟩
      simp [results, Tryz.results33, go_sem, z0, z1, z2, z3, z4, z5, z6, z7, z8, z9, z10, z11]
    | succ h =>
      have eh : ((h + 1 : Nat) : Int) - 1 = (h : Int) := by omega
      have hh : h < 12 := by omega
      go_wp2
      go_loop [6] (fun x => ∃ p, x = .pointer (some ⟨blk sb L p, 0, none⟩) ∧ inLane L h p ∧ p ≤ below L k) (fun x => L.length - pIdx sb L x)
      case atStart => exact ⟨p, rfl, HP.out.mono (by omega), hpb⟩
      case round =>
        clear hpb HP
        obtain ⟨p, rfl, hp, hpb⟩ := hrel
        have hpl : p ≤ L.length := by have := below_le L k; omega
        have hn := HS2.out.next hh hp
        have HP := Lib.hid hp
        clear hp
        cases hx : nxt (L.drop p) h with
        | none =>
          rw [hx] at hn
          have hn2 : wr.cell? ⟨blk sb L p, 3 + h, none⟩ = some (.pointer none) := hn
          have hpos : IsPos L k h p := pos_none HP.out hpb hx
          clear hn hx
          obtain ⟨f', hf'⟩ : ∃ f', f' = fun j => if j = h then p else f j := ⟨_, rfl⟩
          have hfp : ∀ j, h ≤ j → j < 12 → IsPos L k j (f' j) := by
            intro j h1 h2
            rw [hf']
            by_cases e : j = h
            · subst e; simpa using hpos
            · simpa [e] using HF.out j (by omega) h2
          have hcv : wr.cell? ⟨w.heap.size + 1, h, none⟩ = some (.pointer none) := by
            have := HOUT.out h (by omega)
            rwa [if_neg (by omega)] at this
          have hcell : ∃ v, wr.cell? ⟨w.heap.size + 1, h, none⟩ = some v := ⟨_, hcv⟩
          have hout' : Out (wr.setCell ⟨w.heap.size + 1, h, none⟩ (.pointer (some ⟨blk sb L p, 0, none⟩))) (w.heap.size + 1) sb L h f' := by
            intro j hj
            by_cases e : j = h
            · subst e
              obtain ⟨v, hv⟩ := hcell
              rw [World.cell?_setCell_same _ _ _ hv, hf']
              simp
            · rw [World.cell?_setCell_other _ _ _ _ (fun e2 => e (by injection e2 with _ e3; exact e3.symm)), HOUT.out j hj, hf']
              by_cases h2 : h + 1 ≤ j
              · rw [if_pos h2, if_pos (by omega)]; simp [e]
              · rw [if_neg h2, if_neg (by omega)]
          have HFP := Lib.hid hfp
          have HOUT2 := Lib.hid hout'
          have HPOS := Lib.hid hpos
          clear hfp hout' hpos hf'
          go_wp2
          go_roundw
          case rel => exact ⟨h, p, f', by omega, rfl, by first | rfl | go_num, HPOS.out.1, HPOS.out.2.1, HFP.out, HOUT2.out, fun j => by rw [World.frozen?_setCell]; exact hfw j, HT.out.trans (Tn.setCell _ _ _ rfl)⟩
          case measure => simp [intOf]; try omega
        | some b =>
          obtain ⟨q, n, hpq, hq, hnb, hnh, hno⟩ := nxt_some hpl hx
          have hql : q < L.length := (List.getElem?_eq_some_iff.1 hq).1
          have hkey := (HS2.out.node q hql).c0
          rw [(List.getElem?_eq_some_iff.1 hq).2, hnb] at hkey
          rw [hx] at hn
          have hn2 : wr.cell? ⟨blk sb L p, 3 + h, none⟩ = some (.pointer (some ⟨b, 0, none⟩)) := hn
          have HQ := Lib.hid hq
          have HNO := Lib.hid hno
          obtain ⟨kk, hkk⟩ : ∃ kk, kk = n.k := ⟨_, rfl⟩
          rw [← hkk] at hkey
          have HKK := Lib.hid hkk
          obtain ⟨cm, hcm⟩ : ∃ cm, kcmp kk k = cm := ⟨_, rfl⟩
          have HCM := Lib.hid hcm
          have hcall := fun (W : World) => compare_any kk k W
          rw [hcm] at hcall
          have HCALL := Lib.hid hcall
          clear hn hx hno hq hkk hcm hcall
          by_cases hneg : cm < 0
          · have t1 : decide (cm < 0) = true := by simpa using hneg
            have hqb : q < below L k := (below_iff HS2.out.sorted k HQ.out).1 (by rw [← HKK.out, HCM.out]; exact hneg)
            have hin : inLane L h (q + 1) := Or.inr ⟨n, by simpa using HQ.out, by omega, hnh⟩
            have hblk : blk sb L (q + 1) = b := by rw [blk_succ HQ.out, hnb]
            have HIN := Lib.hid (And.intro hin hblk)
            have hnod := HS2.out.nod
            have HND := Lib.hid hnod
            clear hin hblk hnod
            go_wp2_with (go_at_call 34; refine (HCALL.out _).mono ?_; rintro _ _ ⟨rfl, rfl⟩; simp only [])
            go_round
            case rel => exact ⟨q + 1, by rw [HIN.out.2], HIN.out.1, by omega⟩
            case measure => rw [← HIN.out.2, pIdx_blk HND.out (by omega), pIdx_blk HND.out hpl]; omega
          · have t1 : decide (cm < 0) = false := by simpa using hneg
            have hpos : IsPos L k h p := pos_some HS2.out.sorted HP.out hpb HQ.out HNO.out (by rw [← HKK.out, HCM.out]; exact hneg)
            obtain ⟨f', hf'⟩ : ∃ f', f' = fun j => if j = h then p else f j := ⟨_, rfl⟩
            have hfp : ∀ j, h ≤ j → j < 12 → IsPos L k j (f' j) := by
              intro j h1 h2
              rw [hf']
              by_cases e : j = h
              · subst e; simpa using hpos
              · simpa [e] using HF.out j (by omega) h2
            have hcv : wr.cell? ⟨w.heap.size + 1, h, none⟩ = some (.pointer none) := by
              have := HOUT.out h (by omega)
              rwa [if_neg (by omega)] at this
            have hcell : ∃ v, wr.cell? ⟨w.heap.size + 1, h, none⟩ = some v := ⟨_, hcv⟩
            have hout' : Out (wr.setCell ⟨w.heap.size + 1, h, none⟩ (.pointer (some ⟨blk sb L p, 0, none⟩))) (w.heap.size + 1) sb L h f' := by
              intro j hj
              by_cases e : j = h
              · subst e
                obtain ⟨v, hv⟩ := hcell
                rw [World.cell?_setCell_same _ _ _ hv, hf']
                simp
              · rw [World.cell?_setCell_other _ _ _ _ (fun e2 => e (by injection e2 with _ e3; exact e3.symm)), HOUT.out j hj, hf']
                by_cases h2 : h + 1 ≤ j
                · rw [if_pos h2, if_pos (by omega)]; simp [e]
                · rw [if_neg h2, if_neg (by omega)]
            have HFP := Lib.hid hfp
            have HOUT2 := Lib.hid hout'
            have HPOS := Lib.hid hpos
            clear hfp hout' hpos hf'
            go_wp2_with (go_at_call 34; refine (HCALL.out _).mono ?_; rintro _ _ ⟨rfl, rfl⟩; simp only [])
            go_roundw
            case rel => exact ⟨h, p, f', by omega, rfl, by first | rfl | go_num, HPOS.out.1, HPOS.out.2.1, HFP.out, HOUT2.out, fun j => by rw [World.frozen?_setCell]; exact hfw j, HT.out.trans (Tn.setCell _ _ _ rfl)⟩
            case measure => simp [intOf]; try omega
end Go.Proofs.YtmodgjjlgobjcaaGreat
