/-
  put: a pair is put into a skip list.
-/
import Derived.Test.YtmodgjjlgobjcaaGreatSkD
import Derived.Test.YtmodgjjlgobjcaaGreatHold
import Derived.Deep.DeepCutAuto
namespace Go.Proofs.YtmodgjjlgobjcaaGreat
open Go.RowKit

abbrev errPanic (code : Int) : Ending := .panicked [{ v := .iface 55 (.int .i64 code), recovered := false }]

theorem clone_any (w : World) (d : ByteArray) (hd : d.size ≤ 65536) : Calls Tryz.prog 97 #[.string d] w fun e w' => e = .returned (.string d) ∧ Below w.heap.size w w' := by
  go_enter Tryz.func97, Tryz.ntmps97
  go_wp2_with (go_at_call 128; refine (Tryz.stringslite_Clone d w (by omega)).mono ?_; rintro _ w' ⟨rfl, hb⟩; simp only [])
  go_ret
  exact ⟨rfl, hb⟩

theorem put_nil (k v : ByteArray) (h : Int) (w : World) : Calls Tryz.prog 29 #[.pointer none, .string k, .string v, .int .i64 h] w fun e w' => e = errPanic 1 ∧ w = w' := by
  go_enter Tryz.func29, Tryz.ntmps29
  go_wp2
  exact ⟨rfl, rfl, rfl⟩

theorem put_open {w : World} {sb : Nat} {L : List Nd} (s : SkAt w sb L true) (k v : ByteArray) (h : Int) : Calls Tryz.prog 29 #[.pointer (some ⟨sb, 0, none⟩), .string k, .string v, .int .i64 h] w fun e w' => e = errPanic 30 ∧ w = w' := by
  have hf := s.frz
  clear s
  go_enter Tryz.func29, Tryz.ntmps29
  go_wp2
  exact ⟨rfl, rfl, rfl⟩

theorem put_long {w : World} {sb : Nat} {L : List Nd} (s : SkAt w sb L false) (k v : ByteArray) (h : Int) (hl : 65536 < k.size ∨ 65536 < v.size) : Calls Tryz.prog 29 #[.pointer (some ⟨sb, 0, none⟩), .string k, .string v, .int .i64 h] w fun e w' => e = errPanic 2 ∧ w = w' := by
  have hf := s.frz
  clear s
  by_cases h1 : 65536 < k.size
  · have t1 : decide ((65536 : Int) < (k.size : Int)) = true := by simp; omega
    clear hl
    go_enter Tryz.func29, Tryz.ntmps29
    go_wp2
    exact ⟨rfl, rfl, rfl⟩
  · have h2 : 65536 < v.size := by omega
    have t1 : decide ((65536 : Int) < (k.size : Int)) = false := by simp; omega
    have t2 : decide ((65536 : Int) < (v.size : Int)) = true := by simp; omega
    clear hl
    go_enter Tryz.func29, Tryz.ntmps29
    go_wp2
    exact ⟨rfl, rfl, rfl⟩

theorem Mid.drew {w : World} {sb : Nat} {L : List Nd} {fr : Bool} {x : Nd} {f : Nat → Nat} {c : Nat} (m : Mid w sb L fr x f c) : Mid w.drew sb L fr x f c :=
  ⟨m.lane, m.off, m.mine, m.cnt, m.byt, m.frz, m.fz, fun i hi => ⟨(m.node i hi).c0, (m.node i hi).c1, (m.node i hi).c2, (m.node i hi).fz⟩, ⟨m.xn.c0, m.xn.c1, m.xn.c2, m.xn.fz⟩, m.pl⟩

theorem bytes_le {L : List Nd} (h : ∀ n ∈ L, n.k.size ≤ 65536 ∧ n.v.size ≤ 65536) : bytesOf L ≤ 131072 * L.length := by
  induction L with
  | nil => simp [bytesOf]
  | cons a l ih =>
    have h1 := h a (by simp)
    have h2 := ih (fun n hn => h n (List.mem_cons_of_mem _ hn))
    simp only [bytesOf, List.map_cons, List.sum_cons, List.length_cons] at h2 ⊢
    omega

/-- The pair at place m is the next one of lane 0. -/
theorem nxt0 {L : List Nd} (hts : ∀ n ∈ L, 1 ≤ n.h ∧ n.h ≤ 12) (m : Nat) : nxt (L.drop m) 0 = (L[m]?).map (·.b) := by
  unfold nxt
  cases e : L.drop m with
  | nil =>
    have : L.length ≤ m := by simpa using e
    simp [List.getElem?_eq_none this]
  | cons a l =>
    have hm : L[m]? = some a := by
      have := congrArg (fun l => l[0]?) e
      simpa using this
    have := hts a (List.mem_of_getElem? hm)
    rw [hm, List.find?_cons_of_pos (by simp; omega)]
theorem pos0 {L : List Nd} {k : ByteArray} (hts : ∀ n ∈ L, 1 ≤ n.h ∧ n.h ≤ 12) {p : Nat} (hp : IsPos L k 0 p) : p = below L k := by
  rcases Nat.lt_or_ge p (below L k) with h | h
  · exfalso
    have hm := below_le L k
    refine hp.2.2 (below L k) h (Nat.le_refl _) (Or.inr ⟨L[below L k - 1]'(by omega), List.getElem?_eq_getElem (by omega), by omega, ?_⟩)
    have := hts _ (List.getElem_mem (h := (by omega : below L k - 1 < L.length)))
    omega
  · have := hp.2.1
    omega

theorem before_lit {w : World} {sb : Nat} {L : List Nd} {fr : Bool} (s : SkAt w sb L fr) (k : ByteArray) :
    Calls Tryz.prog 33 #[.pointer (some ⟨sb, 0, none⟩), .string k] w fun e w' => ∃ f : Nat → Nat, (∀ j, j < 12 → IsPos L k j (f j)) ∧
      e = .returned (.agg #[.pointer (some ⟨blk sb L (f 0), 0, none⟩), .pointer (some ⟨blk sb L (f 1), 0, none⟩), .pointer (some ⟨blk sb L (f 2), 0, none⟩), .pointer (some ⟨blk sb L (f 3), 0, none⟩), .pointer (some ⟨blk sb L (f 4), 0, none⟩), .pointer (some ⟨blk sb L (f 5), 0, none⟩), .pointer (some ⟨blk sb L (f 6), 0, none⟩), .pointer (some ⟨blk sb L (f 7), 0, none⟩), .pointer (some ⟨blk sb L (f 8), 0, none⟩), .pointer (some ⟨blk sb L (f 9), 0, none⟩), .pointer (some ⟨blk sb L (f 10), 0, none⟩), .pointer (some ⟨blk sb L (f 11), 0, none⟩)]) ∧ Below w.heap.size w w' := before_any s k

set_option maxRecDepth 100000 in
set_option maxHeartbeats 300000 in
theorem put_ok {w : World} {sb : Nat} {L : List Nd} (s : SkAt w sb L false) (k v : ByteArray) (h : Int) (hk : k.size ≤ 65536) (hv : v.size ≤ 65536) (hno : ∀ n, L[below L k]? = some n → n.k ≠ k) (hlen : L.length < 100000) :
    Calls Tryz.prog 29 #[.pointer (some ⟨sb, 0, none⟩), .string k, .string v, .int .i64 h] w fun e w' => e = .returned (.tuple #[]) ∧ ∃ nb : Nat, w.heap.size ≤ nb ∧ SkAt w' sb (ins L (below L k) ⟨nb, k, v, (min (max h 1) 12).toNat⟩) false ∧ Tn (fun q => q = sb ∨ ∃ n ∈ L, n.b = q) w w' := by
  have hf := s.frz
  have t1 : decide ((65536 : Int) < (k.size : Int)) = false := by simp; omega
  have t2 : decide ((65536 : Int) < (v.size : Int)) = false := by simp; omega
  have t1n : ¬ 65536 < k.size := by omega
  have t2n : ¬ 65536 < v.size := by omega
  have HS := Lib.hid s
  have HK := Lib.hid (And.intro hk (And.intro hv hno))
  have HLEN := Lib.hid hlen
  clear s hk hv hno hlen
  go_enter Tryz.func29, Tryz.ntmps29
  go_wp2_with fail
  refine (before_lit HS.out k).mono ?_
  rintro _ W1 ⟨f, hfp, rfl, hb1⟩
  have HF := Lib.hid hfp
  have HB1 := Lib.hid hb1
  have HS1 := Lib.hid (HS.out.below hb1)
  obtain ⟨W2, hW2⟩ : ∃ W2, W1.alloc (.cells nils 31) = W2 := ⟨_, rfl⟩
  obtain ⟨ab, hab⟩ : ∃ ab, W1.heap.size = ab := ⟨_, rfl⟩
  have hc2 : ∀ j, j < 12 → W2.cell? ⟨ab, j, none⟩ = some (.pointer none) := by
    intro j hj
    rw [← hW2, ← hab, World.cell?_alloc_mark]
    exact nils_get j hj
  have hf2 : ∀ j, W2.frozen? ⟨ab, j, none⟩ = false := by intro j; rw [← hW2, ← hab]; simp [go_sem]
  have hb2 : Below ab W1 W2 := by rw [← hab, ← hW2]; exact (Below.refl _ _).alloc (Nat.le_refl _) _
  have c0 : W2.cell? ⟨ab, 0, none⟩ = some (.pointer none) := hc2 0 (by omega)
  have c1 : W2.cell? ⟨ab, 1, none⟩ = some (.pointer none) := hc2 1 (by omega)
  have c2 : W2.cell? ⟨ab, 2, none⟩ = some (.pointer none) := hc2 2 (by omega)
  have c3 : W2.cell? ⟨ab, 3, none⟩ = some (.pointer none) := hc2 3 (by omega)
  have c4 : W2.cell? ⟨ab, 4, none⟩ = some (.pointer none) := hc2 4 (by omega)
  have c5 : W2.cell? ⟨ab, 5, none⟩ = some (.pointer none) := hc2 5 (by omega)
  have c6 : W2.cell? ⟨ab, 6, none⟩ = some (.pointer none) := hc2 6 (by omega)
  have c7 : W2.cell? ⟨ab, 7, none⟩ = some (.pointer none) := hc2 7 (by omega)
  have c8 : W2.cell? ⟨ab, 8, none⟩ = some (.pointer none) := hc2 8 (by omega)
  have c9 : W2.cell? ⟨ab, 9, none⟩ = some (.pointer none) := hc2 9 (by omega)
  have c10 : W2.cell? ⟨ab, 10, none⟩ = some (.pointer none) := hc2 10 (by omega)
  have c11 : W2.cell? ⟨ab, 11, none⟩ = some (.pointer none) := hc2 11 (by omega)
  obtain ⟨W3, hW3⟩ : ∃ W3, chain W2 ab (fun j => Value.pointer (some ⟨blk sb L (f j), 0, none⟩)) 12 = W3 := ⟨_, rfl⟩
  have hb3 : Below ab W1 W3 := by
    rw [← hW3]
    exact hb2.trans ((chain_tn _ _ _ 12).below (by rw [← hab]; exact hb2.size) (fun q e => by have e : q = ab := e; omega))
  have hc3 : ∀ j, j < 12 → W3.cell? ⟨ab, j, none⟩ = some (.pointer (some ⟨blk sb L (f j), 0, none⟩)) := by
    intro j hj
    rw [← hW3, chain_get _ _ _ 12 (fun j hj => ⟨_, hc2 j hj⟩) 12 (by omega) j hj, if_pos hj]
  have HS3 := Lib.hid (HS1.out.below (hab ▸ hb3))
  have HB3 := Lib.hid hb3
  have HC3 := Lib.hid hc3
  have x0 := hc3 0 (by omega)
  have hp0 := Lib.hid (pos0 HS.out.hts (hfp 0 (by omega)))
  have x1 : W3.cell? ⟨blk sb L (f 0), 3, none⟩ = some (ptr (L[f 0]?.map (·.b))) := by
    have := HS3.out.next (h := 0) (by omega) (hfp 0 (by omega)).1
    rw [nxt0 HS.out.hts] at this
    exact this
  simp only [chain] at hW3
  obtain ⟨a0, ha0⟩ : ∃ a0, a0 = blk sb L (f 0) := ⟨_, rfl⟩
  unfold nils at hW2
  simp only [List.replicate] at hW2
  clear hc2 hfp hb1 hb2 hb3 hc3
  cases hx : L[f 0]? with
  | none =>
    rw [hx] at x1
    have x2 : W3.cell? ⟨blk sb L (f 0), 3, none⟩ = some (.pointer none) := x1
    have HX := Lib.hid hx
    clear x1 hx
    simp only []
    go_wp2_with fail
    refine (clone_any W3 k HK.out.1).mono ?_
    rintro _ W4 ⟨rfl, hb4⟩
    simp only []
    go_wp2_with fail
    refine (clone_any W4 v HK.out.2.1).mono ?_
    rintro _ W5 ⟨rfl, hb5⟩
    simp only []
    have hb45 : Below ab W1 W5 := (HB3.out.trans (hb4.mono (Nat.le_trans (Nat.le_of_eq hab.symm) HB3.out.size))).trans (hb5.mono (Nat.le_trans (Nat.le_trans (Nat.le_of_eq hab.symm) HB3.out.size) hb4.size))
    obtain ⟨hh, hhe⟩ : ∃ hh : Nat, min (max h 1) 12 = (hh : Int) := ⟨(min (max h 1) 12).toNat, by omega⟩
    have hh1 : 1 ≤ hh ∧ hh ≤ 12 := by omega
    have HTO : Hid ((min (max h 1) 12).toNat = hh) := by unfold Hid; omega
    obtain ⟨nbk, hnb⟩ : ∃ nbk, W5.heap.size = nbk := ⟨_, rfl⟩
    obtain ⟨W6, hW6⟩ : ∃ W6, W5.alloc (.cells #[.string k, .string v, .int .i64 (hh : Int), .pointer none, .pointer none, .pointer none, .pointer none, .pointer none, .pointer none, .pointer none, .pointer none, .pointer none, .pointer none, .pointer none, .pointer none] 33) = W6 := ⟨_, rfl⟩
    have hx6 : NdAt W6 ⟨nbk, k, v, hh⟩ := by
      rw [← hW6, ← hnb]
      refine ⟨?_, ?_, ?_, fun j => ?_⟩ <;> simp [go_sem]
    have hx6m : ∀ j, j < 12 → W6.cell? ⟨nbk, 3 + j, none⟩ = some (.pointer none) := by
      intro j hj
      rw [← hW6, ← hnb, World.cell?_alloc_mark]
      have : j = 0 ∨ j = 1 ∨ j = 2 ∨ j = 3 ∨ j = 4 ∨ j = 5 ∨ j = 6 ∨ j = 7 ∨ j = 8 ∨ j = 9 ∨ j = 10 ∨ j = 11 := by omega
      rcases this with rfl | rfl | rfl | rfl | rfl | rfl | rfl | rfl | rfl | rfl | rfl | rfl <;> rfl
    have hb6 : Below nbk W5 W6 := by rw [← hW6, ← hnb]; exact (Below.refl _ _).alloc (Nat.le_refl _) _
    have hs5 : SkAt W5 sb L false := HS1.out.below (hab ▸ hb45)
    have hs6 : SkAt W6 sb L false := hs5.below (hnb ▸ hb6)
    have hab5 : ab < W3.heap.size := World.block_lt_of_cell? _ _ (HC3.out 0 (by omega))
    have hc6 : ∀ j, j < 12 → W6.cell? ⟨ab, j, none⟩ = some (.pointer (some ⟨blk sb L (f j), 0, none⟩)) := fun j hj => by
      have h5 := ((hb4.trans (hb5.mono hb4.size)).cell (p := ⟨ab, j, none⟩) hab5).trans (HC3.out j hj)
      exact (hb6.cell (p := ⟨ab, j, none⟩) (by have := World.block_lt_of_cell? _ _ h5; rw [← hnb]; exact this)).trans h5
    have hx6c2 := hx6.c2
    have HMID := Lib.hid (hs6.mid ⟨nbk, k, v, hh⟩ hx6 hx6m (by rw [← hW6, ← hnb]; exact PlainB.alloc _ _ _) f)
    have HC6 := Lib.hid hc6
    have HXB : Hid (nbk ≠ sb ∧ (∀ n ∈ L, n.b ≠ nbk) ∧ nbk ≠ ab) := by
      refine ⟨fun e => ?_, fun n hn e => ?_, fun e => ?_⟩
      · have := hs5.lt; omega
      · have := hs5.node_lt hn; omega
      · have := hb4.size; have := hb5.size; omega
    have HAB : Hid (ab ≠ sb ∧ ∀ n ∈ L, n.b ≠ ab) := by
      refine ⟨fun e => ?_, fun n hn e => ?_⟩
      · have := HS1.out.lt; omega
      · have := HS1.out.node_lt hn; omega
    have HB6 : Hid (Below w.heap.size w W6 ∧ w.heap.size ≤ ab ∧ w.heap.size ≤ nbk) := by
      have z1 := HB1.out.size
      have z2 := hb45.size
      refine ⟨(HB1.out.trans (hb45.mono (by omega))).trans (hb6.mono (by omega)), by omega, by omega⟩
    have HHE := Lib.hid hh1
    clear hb45 hx6 hx6m hb6 hs5 hs6 hc6 hab5 hb4 hb5 hW2 hW3 x0 x2 c0 c1 c2 c3 c4 c5 c6 c7 c8 c9 c10 c11 hf2
    go_wp2_with fail
    clear hW6 hnb hhe hab
    go_loopw [65] (fun y wr => ∃ c : Nat, c ≤ hh ∧ y = .int .i64 (c : Int) ∧ Mid wr sb L false ⟨nbk, k, v, hh⟩ f c ∧ (∀ j, j < 12 → wr.cell? ⟨ab, j, none⟩ = some (.pointer (some ⟨blk sb L (f j), 0, none⟩))) ∧ (∀ j, wr.frozen? ⟨nbk, j, none⟩ = false) ∧ Tn (fun q => q = nbk ∨ q = sb ∨ ∃ n ∈ L, n.b = q) W6 wr) (fun y _ => hh - (intOf y).toNat)
    case atStart => exact ⟨0, by omega, rfl, HMID.out, HC6.out, HMID.out.xn.fz, Tn.refl _ _⟩
    case round =>
      obtain ⟨c, hc, rfl, hmid, hcs, hfx, htn⟩ := hrel
      have HM := Lib.hid hmid
      have HCS := Lib.hid hcs
      have HTN := Lib.hid htn
      have hfx2 := Lib.hid hfx
      clear hmid hcs htn hfx
      by_cases hlt : c < hh
      · have hc12 : c < 12 := by have := HHE.out.2; omega
        have hp := HF.out c hc12
        have hpl : f c ≤ L.length := Nat.le_trans hp.2.1 (below_le L k)
        have u0 : wr.drew.cell? ⟨ab, c, none⟩ = some (.pointer (some ⟨blk sb L (f c), 0, none⟩)) := HCS.out c hc12
        obtain ⟨ov, hov⟩ : ∃ ov : Option Addr, ptr (nxt (L.drop (f c)) c) = .pointer ov := ⟨_, rfl⟩
        have u1 : wr.drew.cell? ⟨blk sb L (f c), 3 + c, none⟩ = some (.pointer ov) := by
          have := HM.out.lane c (f c) hc12 hpl hp.1
          rw [if_neg (by omega), hov] at this
          exact this
        have u2 : wr.drew.cell? ⟨nbk, 3 + c, none⟩ = some (.pointer none) := by
          have := HM.out.mine c hc12
          rw [if_neg (by omega)] at this
          exact this
        have hne1 : blk sb L (f c) ≠ nbk ∧ blk sb L (f c) ≠ ab := by
          rcases blk_mem sb L hpl with e | ⟨n, hn, e⟩
          · exact ⟨by rw [e]; exact HXB.out.1.symm, by rw [e]; exact HAB.out.1.symm⟩
          · exact ⟨by rw [e]; exact HXB.out.2.1 n hn, by rw [e]; exact HAB.out.2 n hn⟩
        have hfb : wr.frozen? ⟨blk sb L (f c), 3 + c, none⟩ = false := by
          cases hfc : f c with
          | zero => exact HM.out.fz _
          | succ q => rw [blk_succ (List.getElem?_eq_getElem (by omega))]; exact (HM.out.node q (by omega)).fz _
        have hfn : wr.frozen? ⟨nbk, 3 + c, none⟩ = false := HM.out.xn.fz _
        have HSTEP := Lib.hid (Mid.step HM.out.drew HS.out.nod ⟨HXB.out.1, HXB.out.2.1⟩ hc12 hp.1 hpl)
        rw [hov] at HSTEP
        have HPP := Lib.hid hp
        have d1 : (⟨nbk, 3 + c, none⟩ : Addr) ≠ ⟨blk sb L (f c), 3 + c, none⟩ := fun e => hne1.1 (inj_off e).1.symm
        have d2 : (⟨nbk, 3 + c, none⟩ : Addr) ≠ ⟨ab, c, none⟩ := fun e => HXB.out.2.2 (inj_off e).1
        have q0 : (0 : Int) ≤ (c : Int) := by omega
        have q1 : (c : Int) < 12 := by omega
        have HNE := Lib.hid hne1
        clear hp hov hne1
        go_wp2_with fail
        refine wp_region_K (fun w' => w'.cell? ⟨ab, c, none⟩ = some (.pointer (some ⟨blk sb L (f c), 0, none⟩)) ∧ w'.cell? ⟨blk sb L (f c), 3 + c, none⟩ = some (.pointer ov)) 22 23 (by kernel_rfl) (by kernel_rfl) ⟨u0, u1⟩ (fun hH => ?_)
        refine wpAnyK_take (i := 0) [22] (v := ?v1) rfl (by kernel_rfl) (by kernel_rfl) (by kernel_rfl) (by kernel_rfl) (fun _ _ _ h => h) (Or.inl ⟨by rfl, ?hy1⟩) hH ?rest1
        case hy1 => (intro w hSw; (try dsimp only at hSw); go_simp; with_reducible rfl)
        try simp only [Act.put, List.setIfInBounds_toArray, List.set_cons_zero, List.set_cons_succ]
        refine wpAnyK_take (i := 1) [22] (v := ?v2) rfl (by kernel_rfl) (by kernel_rfl) (by kernel_rfl) (by kernel_rfl) (fun _ _ _ h => h) (Or.inl ⟨by rfl, ?hy2⟩) hH ?rest2
        case hy2 => (intro w hSw; (try dsimp only at hSw); go_simp; with_reducible rfl)
        try simp only [Act.put, List.setIfInBounds_toArray, List.set_cons_zero, List.set_cons_succ]
        refine wpAnyK_take (i := 2) [22] (v := ?v3) rfl (by kernel_rfl) (by kernel_rfl) (by kernel_rfl) (by kernel_rfl) (fun _ _ _ h => h) (Or.inl ⟨by rfl, ?hy3⟩) hH ?rest3
        case hy3 => (intro w hSw; (try dsimp only at hSw); go_simp; with_reducible rfl)
        try simp only [Act.put, List.setIfInBounds_toArray, List.set_cons_zero, List.set_cons_succ]
        refine wpAnyK_take (i := 3) [22] (v := ?v4) rfl (by kernel_rfl) (by kernel_rfl) (by kernel_rfl) (by kernel_rfl) (fun _ _ _ h => h) (Or.inl ⟨by rfl, ?hy4⟩) hH ?rest4
        case hy4 => (intro w hSw; (try dsimp only at hSw); go_simp; with_reducible rfl)
        try simp only [Act.put, List.setIfInBounds_toArray, List.set_cons_zero, List.set_cons_succ]
        refine wpAnyK_take (i := 4) [22] (v := ?v5) rfl (by kernel_rfl) (by kernel_rfl) (by kernel_rfl) (by kernel_rfl) (fun _ _ _ h => h) (Or.inl ⟨by rfl, ?hy5⟩) hH ?rest5
        case hy5 => (intro w hSw; (try dsimp only at hSw); go_simp; with_reducible rfl)
        try simp only [Act.put, List.setIfInBounds_toArray, List.set_cons_zero, List.set_cons_succ]
        refine wpAnyK_take (i := 5) [22] (v := ?v6) rfl (by kernel_rfl) (by kernel_rfl) (by kernel_rfl) (by kernel_rfl) (fun _ _ _ h => h) (Or.inl ⟨by rfl, ?hy6⟩) hH ?rest6
        case hy6 => (intro w hSw; (try dsimp only at hSw); go_simp; with_reducible rfl)
        try simp only [Act.put, List.setIfInBounds_toArray, List.set_cons_zero, List.set_cons_succ]
        refine wpAnyK_take (i := 6) [22] (v := ?v7) rfl (by kernel_rfl) (by kernel_rfl) (by kernel_rfl) (by kernel_rfl) (fun _ _ _ h => h) (Or.inl ⟨by rfl, ?hy7⟩) hH ?rest7
        case hy7 => (intro w hSw; (try dsimp only at hSw); go_simp; with_reducible rfl)
        try simp only [Act.put, List.setIfInBounds_toArray, List.set_cons_zero, List.set_cons_succ]
        refine wpAnyK_take (i := 7) [22] (v := ?v8) rfl (by kernel_rfl) (by kernel_rfl) (by kernel_rfl) (by kernel_rfl) (fun _ _ _ h => h) (Or.inl ⟨by rfl, ?hy8⟩) hH ?rest8
        case hy8 => (intro w hSw; (try dsimp only at hSw); go_simp; with_reducible rfl)
        try simp only [Act.put, List.setIfInBounds_toArray, List.set_cons_zero, List.set_cons_succ]
        refine wpAnyK_take (i := 8) [22] (v := ?v9) rfl (by kernel_rfl) (by kernel_rfl) (by kernel_rfl) (by kernel_rfl) (fun _ _ _ h => h) (Or.inl ⟨by rfl, ?hy9⟩) hH ?rest9
        case hy9 => (intro w hSw; (try dsimp only at hSw); go_simp; with_reducible rfl)
        try simp only [Act.put, List.setIfInBounds_toArray, List.set_cons_zero, List.set_cons_succ]
        refine wpAnyK_take (i := 9) [22] (v := ?v10) rfl (by kernel_rfl) (by kernel_rfl) (by kernel_rfl) (by kernel_rfl) (fun _ _ _ h => h) (Or.inl ⟨by rfl, ?hy10⟩) hH ?rest10
        case hy10 => (intro w hSw; (try dsimp only at hSw); go_simp; with_reducible rfl)
        try simp only [Act.put, List.setIfInBounds_toArray, List.set_cons_zero, List.set_cons_succ]
        refine wpAnyK_take (i := 10) [22] (v := ?v11) rfl (by kernel_rfl) (by kernel_rfl) (by kernel_rfl) (by kernel_rfl) (fun _ _ _ h => h) (Or.inl ⟨by rfl, ?hy11⟩) hH ?rest11
        case hy11 => (intro w hSw; (try dsimp only at hSw); go_simp; with_reducible rfl)
        try simp only [Act.put, List.setIfInBounds_toArray, List.set_cons_zero, List.set_cons_succ]
        refine wpAnyK_take (i := 11) [22] (v := ?v12) rfl (by kernel_rfl) (by kernel_rfl) (by kernel_rfl) (by kernel_rfl) (fun _ _ _ h => h) (Or.inl ⟨by rfl, ?hy12⟩) hH ?rest12
        case hy12 => (intro w hSw; (try dsimp only at hSw); go_simp; with_reducible rfl)
        try simp only [Act.put, List.setIfInBounds_toArray, List.set_cons_zero, List.set_cons_succ]
        refine wpAnyK_take (i := 12) [22] (v := ?v13) rfl (by kernel_rfl) (by kernel_rfl) (by kernel_rfl) (by kernel_rfl) (fun _ _ _ h => h) (Or.inl ⟨by rfl, ?hy13⟩) hH ?rest13
        case hy13 => (intro w hSw; (try dsimp only at hSw); go_simp; with_reducible rfl)
        try simp only [Act.put, List.setIfInBounds_toArray, List.set_cons_zero, List.set_cons_succ]
        refine wpAnyK_take (i := 13) [22] (v := ?v14) rfl (by kernel_rfl) (by kernel_rfl) (by kernel_rfl) (by kernel_rfl) (fun _ _ _ h => h) (Or.inl ⟨by rfl, ?hy14⟩) hH ?rest14
        case hy14 => (intro w hSw; (try dsimp only at hSw); go_simp; with_reducible rfl)
        try simp only [Act.put, List.setIfInBounds_toArray, List.set_cons_zero, List.set_cons_succ]
        refine wpAnyK_take (i := 14) [22] (v := ?v15) rfl (by kernel_rfl) (by kernel_rfl) (by kernel_rfl) (by kernel_rfl) (fun _ _ _ h => h) (Or.inl ⟨by rfl, ?hy15⟩) hH ?rest15
        case hy15 => (intro w hSw; (try dsimp only at hSw); go_simp; with_reducible rfl)
        try simp only [Act.put, List.setIfInBounds_toArray, List.set_cons_zero, List.set_cons_succ]
        refine wpAnyK_take (i := 15) [22] (v := ?v16) rfl (by kernel_rfl) (by kernel_rfl) (by kernel_rfl) (by kernel_rfl) (fun _ _ _ h => h) (Or.inl ⟨by rfl, ?hy16⟩) hH ?rest16
        case hy16 => (intro w hSw; (try dsimp only at hSw); go_simp; with_reducible rfl)
        try simp only [Act.put, List.setIfInBounds_toArray, List.set_cons_zero, List.set_cons_succ]
        refine wpAnyK_take (i := 16) [22] (v := ?v17) rfl (by kernel_rfl) (by kernel_rfl) (by kernel_rfl) (by kernel_rfl) (fun _ _ _ h => h) (Or.inl ⟨by rfl, ?hy17⟩) hH ?rest17
        case hy17 => (intro w hSw; (try dsimp only at hSw); go_simp; with_reducible rfl)
        try simp only [Act.put, List.setIfInBounds_toArray, List.set_cons_zero, List.set_cons_succ]
        refine wpAnyK_take (i := 17) [22] (v := ?v18) rfl (by kernel_rfl) (by kernel_rfl) (by kernel_rfl) (by kernel_rfl) (fun _ _ _ h => h) (Or.inl ⟨by rfl, ?hy18⟩) hH ?rest18
        case hy18 => (intro w hSw; (try dsimp only at hSw); go_simp; with_reducible rfl)
        try simp only [Act.put, List.setIfInBounds_toArray, List.set_cons_zero, List.set_cons_succ]
        refine wpAnyK_take (i := 19) [20, 21, 22] (v := ?v19) rfl (by kernel_rfl) (by kernel_rfl) (by kernel_rfl) (by kernel_rfl) (fun _ _ _ h => h) (Or.inl ⟨by rfl, ?hy19⟩) hH ?rest19
        case hy19 => (intro w hSw; (try dsimp only at hSw); go_simp; with_reducible rfl)
        try simp only [Act.put, List.setIfInBounds_toArray, List.set_cons_zero, List.set_cons_succ]
        refine wpAnyK_take (i := 20) [21, 22] (v := ?v20) rfl (by kernel_rfl) (by kernel_rfl) (by kernel_rfl) (by kernel_rfl) (fun _ _ _ h => h) (Or.inl ⟨by rfl, ?hy20⟩) hH ?rest20
        case hy20 => (intro w hSw; (try dsimp only at hSw); go_simp; with_reducible rfl)
        try simp only [Act.put, List.setIfInBounds_toArray, List.set_cons_zero, List.set_cons_succ]
        refine wpAnyK_one (i := 18) (by kernel_rfl) rfl (fun K hK => ?_) (by kernel_rfl)
        go_simp
        have v0 : (wr.drew.setCell ⟨nbk, 3 + c, none⟩ (.pointer ov)).cell? ⟨ab, c, none⟩ = some (.pointer (some ⟨blk sb L (f c), 0, none⟩)) := by rw [World.cell?_setCell_other _ _ _ _ d2]; exact u0
        have v1 : (wr.drew.setCell ⟨nbk, 3 + c, none⟩ (.pointer ov)).cell? ⟨blk sb L (f c), 3 + c, none⟩ = some (.pointer ov) := by rw [World.cell?_setCell_other _ _ _ _ d1]; exact u1
        refine hK.out _ _ ⟨v0, v1⟩ (fun hH => ?_)
        clear hK K
        try simp only [Act.put, List.setIfInBounds_toArray, List.set_cons_zero, List.set_cons_succ]
        refine wpAnyK_one (i := 21) (by kernel_rfl) rfl (fun K hK => ?_) (by kernel_rfl)
        go_simp
        refine hK.out _ _ hH (fun _ => ?_)
        clear hK K
        try simp only [Act.put, List.setIfInBounds_toArray, List.set_cons_zero, List.set_cons_succ]
        refine wpAnyK_last (by kernel_rfl) rfl (fun K hK => ?_) (by kernel_rfl)
        go_simp
        refine hK.out _ _ (wpAnyK_done (by kernel_rfl) ?_ _)
        clear hK K hH v0 v1 u0 u1 u2 d1 d2 hfb hfn
        go_wp2
        go_roundw
        case rel =>
          refine ⟨c + 1, by omega, by go_num, HSTEP.out, fun j hj => ?_, fun j => ?_, ?_⟩
          · show ((wr.setCell ⟨nbk, 3 + c, none⟩ (.pointer ov)).setCell ⟨blk sb L (f c), 3 + c, none⟩ (.pointer (some ⟨nbk, 0, none⟩))).cell? ⟨ab, j, none⟩ = _
            rw [World.cell?_setCell_other _ _ _ _ (fun e => HNE.out.2 (inj_off e).1), World.cell?_setCell_other _ _ _ _ (fun e => HXB.out.2.2 (inj_off e).1)]
            exact HCS.out j hj
          · show ((wr.setCell ⟨nbk, 3 + c, none⟩ (.pointer ov)).setCell ⟨blk sb L (f c), 3 + c, none⟩ (.pointer (some ⟨nbk, 0, none⟩))).frozen? ⟨nbk, j, none⟩ = false
            rw [World.frozen?_setCell, World.frozen?_setCell]; exact hfx2.out j
          · refine HTN.out.trans ((Tn.drew _).trans ((Tn.setCell _ _ _ (Or.inl rfl)).trans (Tn.setCell _ _ _ ?_)))
            rcases blk_mem sb L hpl with e | ⟨n, hn, e⟩
            · exact Or.inr (Or.inl e)
            · exact Or.inr (Or.inr ⟨n, hn, e.symm⟩)
        case measure => simp [intOf]; omega
      · obtain rfl : c = hh := by omega
        have hlen := HS.out.len
        have n15 := HM.out.cnt
        have n16 := HM.out.byt
        have hz := HM.out.fz
        have hbl := bytes_le HS.out.sizes
        have hkv := HK.out
        have hks : k.size ≤ 65536 := hkv.1
        have hvs : v.size ≤ 65536 := hkv.2.1
        have hfr16 := HM.out.fz 16
        have hfr15 := HM.out.fz 15
        have HD := Lib.hid (Mid.done (x := ⟨nbk, k, v, c⟩) HM.out HS.out.sorted HS.out.hts HS.out.sizes HS.out.nod HLEN.out HF.out HK.out.2.2 HHE.out ⟨hks, hvs⟩ ⟨HXB.out.1, HXB.out.2.1⟩)
        have HFIN : Hid (Tn (fun q => q = sb ∨ ∃ n ∈ L, n.b = q) w ((wr.setCell ⟨sb, 15, none⟩ (.int .i64 (L.length + 1 : Nat))).setCell ⟨sb, 16, none⟩ (.int .i64 (bytesOf (ins L (below L k) ⟨nbk, k, v, c⟩) : Nat)))) := by
          refine ((Tn.ofBelow HB6.out.1).andThen HTN.out (fun q hq => ?_)).trans ((Tn.setCell _ _ _ (Or.inl rfl)).trans (Tn.setCell _ _ _ (Or.inl rfl)))
          rcases hq with rfl | hq
          · exact Or.inr HB6.out.2.2
          · exact Or.inl hq
        have eby : bytesOf (ins L (below L k) ⟨nbk, k, v, c⟩) = bytesOf L + (k.size + v.size) := ins_bytes _ _ _
        have HNB := Lib.hid HB6.out.2.2
        rw [eby] at HD HFIN
        clear hkv eby hz
        go_wp2_with fail
        go_end0
        refine ⟨rfl, nbk, HNB.out, ?_, ?_⟩
        · rw [HTO.out]; simpa using HD.out
        · simpa using HFIN.out
  | some n =>
    rw [hx] at x1
    have x2 : W3.cell? ⟨blk sb L (f 0), 3, none⟩ = some (.pointer (some ⟨n.b, 0, none⟩)) := x1
    have hkn : n.k ≠ k := HK.out.2.2 n (by rw [← hp0.out]; exact hx)
    have te : (n.k.toList == k.toList) = false := by
      rw [beq_eq_false_iff_ne]
      intro e
      rw [ByteArray.toList_eq, ByteArray.toList_eq] at e
      refine hkn ?_
      cases hn : n.k
      cases hk : k
      rw [hn, hk] at e
      simp only at e
      congr
      exact Array.toList_inj.1 e
    have x3 : W3.cell? ⟨n.b, 0, none⟩ = some (.string n.k) := by
      obtain ⟨h1, h2⟩ := List.getElem?_eq_some_iff.1 hx
      have := (HS3.out.node (f 0) h1).c0
      rw [h2] at this
      exact this
    have HX := Lib.hid (And.intro hx hkn)
    obtain ⟨nk, hnk⟩ : ∃ nk, n.k = nk := ⟨_, rfl⟩
    rw [hnk] at te x3
    clear x1 hx hkn hnk
    simp only []
    go_wp2_with fail
    refine (clone_any W3 k HK.out.1).mono ?_
    rintro _ W4 ⟨rfl, hb4⟩
    simp only []
    go_wp2_with fail
    refine (clone_any W4 v HK.out.2.1).mono ?_
    rintro _ W5 ⟨rfl, hb5⟩
    simp only []
    have hb45 : Below ab W1 W5 := (HB3.out.trans (hb4.mono (Nat.le_trans (Nat.le_of_eq hab.symm) HB3.out.size))).trans (hb5.mono (Nat.le_trans (Nat.le_trans (Nat.le_of_eq hab.symm) HB3.out.size) hb4.size))
    obtain ⟨hh, hhe⟩ : ∃ hh : Nat, min (max h 1) 12 = (hh : Int) := ⟨(min (max h 1) 12).toNat, by omega⟩
    have hh1 : 1 ≤ hh ∧ hh ≤ 12 := by omega
    have HTO : Hid ((min (max h 1) 12).toNat = hh) := by unfold Hid; omega
    obtain ⟨nbk, hnb⟩ : ∃ nbk, W5.heap.size = nbk := ⟨_, rfl⟩
    obtain ⟨W6, hW6⟩ : ∃ W6, W5.alloc (.cells #[.string k, .string v, .int .i64 (hh : Int), .pointer none, .pointer none, .pointer none, .pointer none, .pointer none, .pointer none, .pointer none, .pointer none, .pointer none, .pointer none, .pointer none, .pointer none] 33) = W6 := ⟨_, rfl⟩
    have hx6 : NdAt W6 ⟨nbk, k, v, hh⟩ := by
      rw [← hW6, ← hnb]
      refine ⟨?_, ?_, ?_, fun j => ?_⟩ <;> simp [go_sem]
    have hx6m : ∀ j, j < 12 → W6.cell? ⟨nbk, 3 + j, none⟩ = some (.pointer none) := by
      intro j hj
      rw [← hW6, ← hnb, World.cell?_alloc_mark]
      have : j = 0 ∨ j = 1 ∨ j = 2 ∨ j = 3 ∨ j = 4 ∨ j = 5 ∨ j = 6 ∨ j = 7 ∨ j = 8 ∨ j = 9 ∨ j = 10 ∨ j = 11 := by omega
      rcases this with rfl | rfl | rfl | rfl | rfl | rfl | rfl | rfl | rfl | rfl | rfl | rfl <;> rfl
    have hb6 : Below nbk W5 W6 := by rw [← hW6, ← hnb]; exact (Below.refl _ _).alloc (Nat.le_refl _) _
    have hs5 : SkAt W5 sb L false := HS1.out.below (hab ▸ hb45)
    have hs6 : SkAt W6 sb L false := hs5.below (hnb ▸ hb6)
    have hab5 : ab < W3.heap.size := World.block_lt_of_cell? _ _ (HC3.out 0 (by omega))
    have hc6 : ∀ j, j < 12 → W6.cell? ⟨ab, j, none⟩ = some (.pointer (some ⟨blk sb L (f j), 0, none⟩)) := fun j hj => by
      have h5 := ((hb4.trans (hb5.mono hb4.size)).cell (p := ⟨ab, j, none⟩) hab5).trans (HC3.out j hj)
      exact (hb6.cell (p := ⟨ab, j, none⟩) (by have := World.block_lt_of_cell? _ _ h5; rw [← hnb]; exact this)).trans h5
    have hx6c2 := hx6.c2
    have HMID := Lib.hid (hs6.mid ⟨nbk, k, v, hh⟩ hx6 hx6m (by rw [← hW6, ← hnb]; exact PlainB.alloc _ _ _) f)
    have HC6 := Lib.hid hc6
    have HXB : Hid (nbk ≠ sb ∧ (∀ n ∈ L, n.b ≠ nbk) ∧ nbk ≠ ab) := by
      refine ⟨fun e => ?_, fun n hn e => ?_, fun e => ?_⟩
      · have := hs5.lt; omega
      · have := hs5.node_lt hn; omega
      · have := hb4.size; have := hb5.size; omega
    have HAB : Hid (ab ≠ sb ∧ ∀ n ∈ L, n.b ≠ ab) := by
      refine ⟨fun e => ?_, fun n hn e => ?_⟩
      · have := HS1.out.lt; omega
      · have := HS1.out.node_lt hn; omega
    have HB6 : Hid (Below w.heap.size w W6 ∧ w.heap.size ≤ ab ∧ w.heap.size ≤ nbk) := by
      have z1 := HB1.out.size
      have z2 := hb45.size
      refine ⟨(HB1.out.trans (hb45.mono (by omega))).trans (hb6.mono (by omega)), by omega, by omega⟩
    have HHE := Lib.hid hh1
    clear x3 te hb45 hx6 hx6m hb6 hs5 hs6 hc6 hab5 hb4 hb5 hW2 hW3 x0 x2 c0 c1 c2 c3 c4 c5 c6 c7 c8 c9 c10 c11 hf2
    go_wp2_with fail
    clear hW6 hnb hhe hab
    go_loopw [65] (fun y wr => ∃ c : Nat, c ≤ hh ∧ y = .int .i64 (c : Int) ∧ Mid wr sb L false ⟨nbk, k, v, hh⟩ f c ∧ (∀ j, j < 12 → wr.cell? ⟨ab, j, none⟩ = some (.pointer (some ⟨blk sb L (f j), 0, none⟩))) ∧ (∀ j, wr.frozen? ⟨nbk, j, none⟩ = false) ∧ Tn (fun q => q = nbk ∨ q = sb ∨ ∃ n ∈ L, n.b = q) W6 wr) (fun y _ => hh - (intOf y).toNat)
    case atStart => exact ⟨0, by omega, rfl, HMID.out, HC6.out, HMID.out.xn.fz, Tn.refl _ _⟩
    case round =>
      obtain ⟨c, hc, rfl, hmid, hcs, hfx, htn⟩ := hrel
      have HM := Lib.hid hmid
      have HCS := Lib.hid hcs
      have HTN := Lib.hid htn
      have hfx2 := Lib.hid hfx
      clear hmid hcs htn hfx
      by_cases hlt : c < hh
      · have hc12 : c < 12 := by have := HHE.out.2; omega
        have hp := HF.out c hc12
        have hpl : f c ≤ L.length := Nat.le_trans hp.2.1 (below_le L k)
        have u0 : wr.drew.cell? ⟨ab, c, none⟩ = some (.pointer (some ⟨blk sb L (f c), 0, none⟩)) := HCS.out c hc12
        obtain ⟨ov, hov⟩ : ∃ ov : Option Addr, ptr (nxt (L.drop (f c)) c) = .pointer ov := ⟨_, rfl⟩
        have u1 : wr.drew.cell? ⟨blk sb L (f c), 3 + c, none⟩ = some (.pointer ov) := by
          have := HM.out.lane c (f c) hc12 hpl hp.1
          rw [if_neg (by omega), hov] at this
          exact this
        have u2 : wr.drew.cell? ⟨nbk, 3 + c, none⟩ = some (.pointer none) := by
          have := HM.out.mine c hc12
          rw [if_neg (by omega)] at this
          exact this
        have hne1 : blk sb L (f c) ≠ nbk ∧ blk sb L (f c) ≠ ab := by
          rcases blk_mem sb L hpl with e | ⟨n, hn, e⟩
          · exact ⟨by rw [e]; exact HXB.out.1.symm, by rw [e]; exact HAB.out.1.symm⟩
          · exact ⟨by rw [e]; exact HXB.out.2.1 n hn, by rw [e]; exact HAB.out.2 n hn⟩
        have hfb : wr.frozen? ⟨blk sb L (f c), 3 + c, none⟩ = false := by
          cases hfc : f c with
          | zero => exact HM.out.fz _
          | succ q => rw [blk_succ (List.getElem?_eq_getElem (by omega))]; exact (HM.out.node q (by omega)).fz _
        have hfn : wr.frozen? ⟨nbk, 3 + c, none⟩ = false := HM.out.xn.fz _
        have HSTEP := Lib.hid (Mid.step HM.out.drew HS.out.nod ⟨HXB.out.1, HXB.out.2.1⟩ hc12 hp.1 hpl)
        rw [hov] at HSTEP
        have HPP := Lib.hid hp
        have d1 : (⟨nbk, 3 + c, none⟩ : Addr) ≠ ⟨blk sb L (f c), 3 + c, none⟩ := fun e => hne1.1 (inj_off e).1.symm
        have d2 : (⟨nbk, 3 + c, none⟩ : Addr) ≠ ⟨ab, c, none⟩ := fun e => HXB.out.2.2 (inj_off e).1
        have q0 : (0 : Int) ≤ (c : Int) := by omega
        have q1 : (c : Int) < 12 := by omega
        have HNE := Lib.hid hne1
        clear hp hov hne1
        go_wp2_with fail
        refine wp_region_K (fun w' => w'.cell? ⟨ab, c, none⟩ = some (.pointer (some ⟨blk sb L (f c), 0, none⟩)) ∧ w'.cell? ⟨blk sb L (f c), 3 + c, none⟩ = some (.pointer ov)) 22 23 (by kernel_rfl) (by kernel_rfl) ⟨u0, u1⟩ (fun hH => ?_)
        refine wpAnyK_take (i := 0) [22] (v := ?v21) rfl (by kernel_rfl) (by kernel_rfl) (by kernel_rfl) (by kernel_rfl) (fun _ _ _ h => h) (Or.inl ⟨by rfl, ?hy21⟩) hH ?rest21
        case hy21 => (intro w hSw; (try dsimp only at hSw); go_simp; with_reducible rfl)
        try simp only [Act.put, List.setIfInBounds_toArray, List.set_cons_zero, List.set_cons_succ]
        refine wpAnyK_take (i := 1) [22] (v := ?v22) rfl (by kernel_rfl) (by kernel_rfl) (by kernel_rfl) (by kernel_rfl) (fun _ _ _ h => h) (Or.inl ⟨by rfl, ?hy22⟩) hH ?rest22
        case hy22 => (intro w hSw; (try dsimp only at hSw); go_simp; with_reducible rfl)
        try simp only [Act.put, List.setIfInBounds_toArray, List.set_cons_zero, List.set_cons_succ]
        refine wpAnyK_take (i := 2) [22] (v := ?v23) rfl (by kernel_rfl) (by kernel_rfl) (by kernel_rfl) (by kernel_rfl) (fun _ _ _ h => h) (Or.inl ⟨by rfl, ?hy23⟩) hH ?rest23
        case hy23 => (intro w hSw; (try dsimp only at hSw); go_simp; with_reducible rfl)
        try simp only [Act.put, List.setIfInBounds_toArray, List.set_cons_zero, List.set_cons_succ]
        refine wpAnyK_take (i := 3) [22] (v := ?v24) rfl (by kernel_rfl) (by kernel_rfl) (by kernel_rfl) (by kernel_rfl) (fun _ _ _ h => h) (Or.inl ⟨by rfl, ?hy24⟩) hH ?rest24
        case hy24 => (intro w hSw; (try dsimp only at hSw); go_simp; with_reducible rfl)
        try simp only [Act.put, List.setIfInBounds_toArray, List.set_cons_zero, List.set_cons_succ]
        refine wpAnyK_take (i := 4) [22] (v := ?v25) rfl (by kernel_rfl) (by kernel_rfl) (by kernel_rfl) (by kernel_rfl) (fun _ _ _ h => h) (Or.inl ⟨by rfl, ?hy25⟩) hH ?rest25
        case hy25 => (intro w hSw; (try dsimp only at hSw); go_simp; with_reducible rfl)
        try simp only [Act.put, List.setIfInBounds_toArray, List.set_cons_zero, List.set_cons_succ]
        refine wpAnyK_take (i := 5) [22] (v := ?v26) rfl (by kernel_rfl) (by kernel_rfl) (by kernel_rfl) (by kernel_rfl) (fun _ _ _ h => h) (Or.inl ⟨by rfl, ?hy26⟩) hH ?rest26
        case hy26 => (intro w hSw; (try dsimp only at hSw); go_simp; with_reducible rfl)
        try simp only [Act.put, List.setIfInBounds_toArray, List.set_cons_zero, List.set_cons_succ]
        refine wpAnyK_take (i := 6) [22] (v := ?v27) rfl (by kernel_rfl) (by kernel_rfl) (by kernel_rfl) (by kernel_rfl) (fun _ _ _ h => h) (Or.inl ⟨by rfl, ?hy27⟩) hH ?rest27
        case hy27 => (intro w hSw; (try dsimp only at hSw); go_simp; with_reducible rfl)
        try simp only [Act.put, List.setIfInBounds_toArray, List.set_cons_zero, List.set_cons_succ]
        refine wpAnyK_take (i := 7) [22] (v := ?v28) rfl (by kernel_rfl) (by kernel_rfl) (by kernel_rfl) (by kernel_rfl) (fun _ _ _ h => h) (Or.inl ⟨by rfl, ?hy28⟩) hH ?rest28
        case hy28 => (intro w hSw; (try dsimp only at hSw); go_simp; with_reducible rfl)
        try simp only [Act.put, List.setIfInBounds_toArray, List.set_cons_zero, List.set_cons_succ]
        refine wpAnyK_take (i := 8) [22] (v := ?v29) rfl (by kernel_rfl) (by kernel_rfl) (by kernel_rfl) (by kernel_rfl) (fun _ _ _ h => h) (Or.inl ⟨by rfl, ?hy29⟩) hH ?rest29
        case hy29 => (intro w hSw; (try dsimp only at hSw); go_simp; with_reducible rfl)
        try simp only [Act.put, List.setIfInBounds_toArray, List.set_cons_zero, List.set_cons_succ]
        refine wpAnyK_take (i := 9) [22] (v := ?v30) rfl (by kernel_rfl) (by kernel_rfl) (by kernel_rfl) (by kernel_rfl) (fun _ _ _ h => h) (Or.inl ⟨by rfl, ?hy30⟩) hH ?rest30
        case hy30 => (intro w hSw; (try dsimp only at hSw); go_simp; with_reducible rfl)
        try simp only [Act.put, List.setIfInBounds_toArray, List.set_cons_zero, List.set_cons_succ]
        refine wpAnyK_take (i := 10) [22] (v := ?v31) rfl (by kernel_rfl) (by kernel_rfl) (by kernel_rfl) (by kernel_rfl) (fun _ _ _ h => h) (Or.inl ⟨by rfl, ?hy31⟩) hH ?rest31
        case hy31 => (intro w hSw; (try dsimp only at hSw); go_simp; with_reducible rfl)
        try simp only [Act.put, List.setIfInBounds_toArray, List.set_cons_zero, List.set_cons_succ]
        refine wpAnyK_take (i := 11) [22] (v := ?v32) rfl (by kernel_rfl) (by kernel_rfl) (by kernel_rfl) (by kernel_rfl) (fun _ _ _ h => h) (Or.inl ⟨by rfl, ?hy32⟩) hH ?rest32
        case hy32 => (intro w hSw; (try dsimp only at hSw); go_simp; with_reducible rfl)
        try simp only [Act.put, List.setIfInBounds_toArray, List.set_cons_zero, List.set_cons_succ]
        refine wpAnyK_take (i := 12) [22] (v := ?v33) rfl (by kernel_rfl) (by kernel_rfl) (by kernel_rfl) (by kernel_rfl) (fun _ _ _ h => h) (Or.inl ⟨by rfl, ?hy33⟩) hH ?rest33
        case hy33 => (intro w hSw; (try dsimp only at hSw); go_simp; with_reducible rfl)
        try simp only [Act.put, List.setIfInBounds_toArray, List.set_cons_zero, List.set_cons_succ]
        refine wpAnyK_take (i := 13) [22] (v := ?v34) rfl (by kernel_rfl) (by kernel_rfl) (by kernel_rfl) (by kernel_rfl) (fun _ _ _ h => h) (Or.inl ⟨by rfl, ?hy34⟩) hH ?rest34
        case hy34 => (intro w hSw; (try dsimp only at hSw); go_simp; with_reducible rfl)
        try simp only [Act.put, List.setIfInBounds_toArray, List.set_cons_zero, List.set_cons_succ]
        refine wpAnyK_take (i := 14) [22] (v := ?v35) rfl (by kernel_rfl) (by kernel_rfl) (by kernel_rfl) (by kernel_rfl) (fun _ _ _ h => h) (Or.inl ⟨by rfl, ?hy35⟩) hH ?rest35
        case hy35 => (intro w hSw; (try dsimp only at hSw); go_simp; with_reducible rfl)
        try simp only [Act.put, List.setIfInBounds_toArray, List.set_cons_zero, List.set_cons_succ]
        refine wpAnyK_take (i := 15) [22] (v := ?v36) rfl (by kernel_rfl) (by kernel_rfl) (by kernel_rfl) (by kernel_rfl) (fun _ _ _ h => h) (Or.inl ⟨by rfl, ?hy36⟩) hH ?rest36
        case hy36 => (intro w hSw; (try dsimp only at hSw); go_simp; with_reducible rfl)
        try simp only [Act.put, List.setIfInBounds_toArray, List.set_cons_zero, List.set_cons_succ]
        refine wpAnyK_take (i := 16) [22] (v := ?v37) rfl (by kernel_rfl) (by kernel_rfl) (by kernel_rfl) (by kernel_rfl) (fun _ _ _ h => h) (Or.inl ⟨by rfl, ?hy37⟩) hH ?rest37
        case hy37 => (intro w hSw; (try dsimp only at hSw); go_simp; with_reducible rfl)
        try simp only [Act.put, List.setIfInBounds_toArray, List.set_cons_zero, List.set_cons_succ]
        refine wpAnyK_take (i := 17) [22] (v := ?v38) rfl (by kernel_rfl) (by kernel_rfl) (by kernel_rfl) (by kernel_rfl) (fun _ _ _ h => h) (Or.inl ⟨by rfl, ?hy38⟩) hH ?rest38
        case hy38 => (intro w hSw; (try dsimp only at hSw); go_simp; with_reducible rfl)
        try simp only [Act.put, List.setIfInBounds_toArray, List.set_cons_zero, List.set_cons_succ]
        refine wpAnyK_take (i := 19) [20, 21, 22] (v := ?v39) rfl (by kernel_rfl) (by kernel_rfl) (by kernel_rfl) (by kernel_rfl) (fun _ _ _ h => h) (Or.inl ⟨by rfl, ?hy39⟩) hH ?rest39
        case hy39 => (intro w hSw; (try dsimp only at hSw); go_simp; with_reducible rfl)
        try simp only [Act.put, List.setIfInBounds_toArray, List.set_cons_zero, List.set_cons_succ]
        refine wpAnyK_take (i := 20) [21, 22] (v := ?v40) rfl (by kernel_rfl) (by kernel_rfl) (by kernel_rfl) (by kernel_rfl) (fun _ _ _ h => h) (Or.inl ⟨by rfl, ?hy40⟩) hH ?rest40
        case hy40 => (intro w hSw; (try dsimp only at hSw); go_simp; with_reducible rfl)
        try simp only [Act.put, List.setIfInBounds_toArray, List.set_cons_zero, List.set_cons_succ]
        refine wpAnyK_one (i := 18) (by kernel_rfl) rfl (fun K hK => ?_) (by kernel_rfl)
        go_simp
        have v0 : (wr.drew.setCell ⟨nbk, 3 + c, none⟩ (.pointer ov)).cell? ⟨ab, c, none⟩ = some (.pointer (some ⟨blk sb L (f c), 0, none⟩)) := by rw [World.cell?_setCell_other _ _ _ _ d2]; exact u0
        have v1 : (wr.drew.setCell ⟨nbk, 3 + c, none⟩ (.pointer ov)).cell? ⟨blk sb L (f c), 3 + c, none⟩ = some (.pointer ov) := by rw [World.cell?_setCell_other _ _ _ _ d1]; exact u1
        refine hK.out _ _ ⟨v0, v1⟩ (fun hH => ?_)
        clear hK K
        try simp only [Act.put, List.setIfInBounds_toArray, List.set_cons_zero, List.set_cons_succ]
        refine wpAnyK_one (i := 21) (by kernel_rfl) rfl (fun K hK => ?_) (by kernel_rfl)
        go_simp
        refine hK.out _ _ hH (fun _ => ?_)
        clear hK K
        try simp only [Act.put, List.setIfInBounds_toArray, List.set_cons_zero, List.set_cons_succ]
        refine wpAnyK_last (by kernel_rfl) rfl (fun K hK => ?_) (by kernel_rfl)
        go_simp
        refine hK.out _ _ (wpAnyK_done (by kernel_rfl) ?_ _)
        clear hK K hH v0 v1 u0 u1 u2 d1 d2 hfb hfn
        go_wp2
        go_roundw
        case rel =>
          refine ⟨c + 1, by omega, by go_num, HSTEP.out, fun j hj => ?_, fun j => ?_, ?_⟩
          · show ((wr.setCell ⟨nbk, 3 + c, none⟩ (.pointer ov)).setCell ⟨blk sb L (f c), 3 + c, none⟩ (.pointer (some ⟨nbk, 0, none⟩))).cell? ⟨ab, j, none⟩ = _
            rw [World.cell?_setCell_other _ _ _ _ (fun e => HNE.out.2 (inj_off e).1), World.cell?_setCell_other _ _ _ _ (fun e => HXB.out.2.2 (inj_off e).1)]
            exact HCS.out j hj
          · show ((wr.setCell ⟨nbk, 3 + c, none⟩ (.pointer ov)).setCell ⟨blk sb L (f c), 3 + c, none⟩ (.pointer (some ⟨nbk, 0, none⟩))).frozen? ⟨nbk, j, none⟩ = false
            rw [World.frozen?_setCell, World.frozen?_setCell]; exact hfx2.out j
          · refine HTN.out.trans ((Tn.drew _).trans ((Tn.setCell _ _ _ (Or.inl rfl)).trans (Tn.setCell _ _ _ ?_)))
            rcases blk_mem sb L hpl with e | ⟨n, hn, e⟩
            · exact Or.inr (Or.inl e)
            · exact Or.inr (Or.inr ⟨n, hn, e.symm⟩)
        case measure => simp [intOf]; omega
      · obtain rfl : c = hh := by omega
        have hlen := HS.out.len
        have n15 := HM.out.cnt
        have n16 := HM.out.byt
        have hz := HM.out.fz
        have hbl := bytes_le HS.out.sizes
        have hkv := HK.out
        have hks : k.size ≤ 65536 := hkv.1
        have hvs : v.size ≤ 65536 := hkv.2.1
        have hfr16 := HM.out.fz 16
        have hfr15 := HM.out.fz 15
        have HD := Lib.hid (Mid.done (x := ⟨nbk, k, v, c⟩) HM.out HS.out.sorted HS.out.hts HS.out.sizes HS.out.nod HLEN.out HF.out HK.out.2.2 HHE.out ⟨hks, hvs⟩ ⟨HXB.out.1, HXB.out.2.1⟩)
        have HFIN : Hid (Tn (fun q => q = sb ∨ ∃ n ∈ L, n.b = q) w ((wr.setCell ⟨sb, 15, none⟩ (.int .i64 (L.length + 1 : Nat))).setCell ⟨sb, 16, none⟩ (.int .i64 (bytesOf (ins L (below L k) ⟨nbk, k, v, c⟩) : Nat)))) := by
          refine ((Tn.ofBelow HB6.out.1).andThen HTN.out (fun q hq => ?_)).trans ((Tn.setCell _ _ _ (Or.inl rfl)).trans (Tn.setCell _ _ _ (Or.inl rfl)))
          rcases hq with rfl | hq
          · exact Or.inr HB6.out.2.2
          · exact Or.inl hq
        have eby : bytesOf (ins L (below L k) ⟨nbk, k, v, c⟩) = bytesOf L + (k.size + v.size) := ins_bytes _ _ _
        have HNB := Lib.hid HB6.out.2.2
        rw [eby] at HD HFIN
        clear hkv eby hz
        go_wp2_with fail
        go_end0
        refine ⟨rfl, nbk, HNB.out, ?_, ?_⟩
        · rw [HTO.out]; simpa using HD.out
        · simpa using HFIN.out
end Go.Proofs.YtmodgjjlgobjcaaGreat
