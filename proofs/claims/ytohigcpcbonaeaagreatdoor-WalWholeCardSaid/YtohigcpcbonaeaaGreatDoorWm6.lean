import Derived.Test.YtohigcpcbonaeaaGreatDoorWlW
import Derived.Test.YtohigcpcbonaeaaGreatDoorWm4
import Derived.Defers
import Derived.Recover
import Derived.Laws.Pointers
import Derived.Test.YtohigcpcbonaeaaGreatDoorWm5
import Derived.Sort.OwnSorted
import Derived.Lib.OwnBridge
/-
  Wal: the walks of framed, read.
-/
namespace Go.Proofs.YtohigcpcbonaeaaGreatDoor
open Go.RowKit

theorem framed_eq (r : ByteArray) : (⟨(Rw.beF 4 (r.size + 1)).toArray⟩ : ByteArray) ++ ⟨(Rw.beF 4 (Rw.sumF ((⟨(Rw.beF 4 (r.size + 1)).toArray⟩ : ByteArray) ++ r).data.toList)).toArray⟩ ++ r = framed r := by
  apply ba_ext
  rw [framed_list]
  have h : ((⟨(Rw.beF 4 (r.size + 1)).toArray⟩ : ByteArray) ++ r).data.toList = Rw.beF 4 (r.data.toList.length + 1) ++ r.data.toList := by
    rw [ba_app, ← ba_size]
  rw [h, ba_app, ba_app]
  unfold frameL sumL
  rw [← ba_size]
theorem beF4_size (v : Nat) : (⟨(Rw.beF 4 v).toArray⟩ : ByteArray).size = 4 := by simp [ByteArray.size, Rw.beF_len]
set_option maxRecDepth 100000 in
set_option maxHeartbeats 1000000 in
theorem w_framed (r : ByteArray) (hr : r.size ≤ 1000000) (w : World) : Calls Tryz.prog 22 #[.string r] w fun e w' => e = .returned (.string (framed r)) ∧ Below w.heap.size w w' := by
  rw [← framed_eq]
  obtain ⟨a, ha⟩ : ∃ a, (⟨(Rw.beF 4 (r.size + 1)).toArray⟩ : ByteArray) = a := ⟨_, rfl⟩
  have ha4 : a.size ≤ 4 := by rw [← ha, beF4_size]; omega
  obtain ⟨sm, hsm⟩ : ∃ sm, Rw.sumF (a ++ r).data.toList = sm := ⟨_, rfl⟩
  have hsl : sm < 4294967296 := by rw [← hsm]; exact Rw.sumF_lt _
  have h1 : ∀ W, Calls Tryz.prog 40 #[.int .i64 ((r.size : Int) + 1), .int .i64 4] W fun e w' => e = .returned (.tuple #[.string a, .int .i64 0]) ∧ Below W.heap.size W w' := fun W => by
    rw [← ha]; exact put_ok (r.size + 1) 4 W (by omega) (by omega) (by omega)
  have h2 : ∀ W, Calls Tryz.prog 41 #[.string (a ++ r)] W fun e w' => e = .returned (.int .i64 (sm : Int)) ∧ W = w' := fun W => by
    rw [← hsm]; exact sum_any _ W (by unfold maxLen; rw [ByteArray.size_append]; omega)
  have h3 : ∀ W, Calls Tryz.prog 40 #[.int .i64 (sm : Int), .int .i64 4] W fun e w' => e = .returned (.tuple #[.string ⟨(Rw.beF 4 sm).toArray⟩, .int .i64 0]) ∧ Below W.heap.size W w' := fun W => put_ok sm 4 W (by omega) (by omega) (by omega)
  obtain ⟨b, hb⟩ : ∃ b, (⟨(Rw.beF 4 sm).toArray⟩ : ByteArray) = b := ⟨_, rfl⟩
  have hb4 : b.size ≤ 4 := by rw [← hb, beF4_size]; omega
  rw [ha, hsm, hb]
  rw [hb] at h3
  clear ha hsm hb
  go_enter Tryz.func22, Tryz.ntmps22
  go_wp2_with (first
    | (go_at_call 41; go_loud (refine (h2 _).mono ?_); rintro e w2 ⟨rfl, rfl⟩)
    | (go_at_call 40; with_reducible refine (h3 _).mono ?_; rintro e w3 ⟨rfl, c2⟩; have B2 := Lib.hid (B1.out.trans (c2.mono B1.out.size)); clear c2)
    | (go_at_call 40; with_reducible refine (h1 _).mono ?_; rintro e w1 ⟨rfl, c1⟩; have B1 := Lib.hid c1; clear c1))
  go_ret
  exact ⟨rfl, B2.out⟩

/-- Where the walk of read stands: what has been read, and what is left. -/
structure RdS (w0 w : World) (b : ByteArray) (done : List (List UInt8)) (t : List UInt8) (a : Option Addr) (c : Nat) : Prop where
  eq : b.data.toList = frames done ++ t
  len : ∀ r ∈ done, r.length ≤ 131072
  c0 : w.cell? ⟨w0.heap.size + 1, 0, none⟩ = some (.slice a done.length c)
  c1 : w.cell? ⟨w0.heap.size + 1, 1, none⟩ = some (.int .i64 ((frames done).length : Int))
  r0 : ∃ v, w.cell? ⟨w0.heap.size, 0, none⟩ = some v
  r1 : ∃ v, w.cell? ⟨w0.heap.size, 1, none⟩ = some v
  f : ∀ j, w.frozen? ⟨w0.heap.size + 1, j, none⟩ = false ∧ w.frozen? ⟨w0.heap.size, j, none⟩ = false
  own : Own eStr w (w0.heap.size + 2) (.slice a done.length c) (done.map toB)
  bel : Below w0.heap.size w0 w
/-- What read answers: how far it came; a panic where the rest is no record. -/
def ReadE (b : ByteArray) (w : World) (e : Ending) (w' : World) : Prop :=
  ∃ a c, Own eStr w' w.heap.size (.slice a (recsOf b).length c) (recsOf b) ∧
    ((goodN b = b.size ∧ e = .returned (.agg #[.slice a (recsOf b).length c, .int .i64 (goodN b : Int)])) ∨
     (goodN b ≠ b.size ∧ e = .panicked [{ v := .iface 69 (.agg #[.slice a (recsOf b).length c, .int .i64 (goodN b : Int)]), recovered := false }]))
theorem RdS.stop {w0 w : World} {b : ByteArray} {done : List (List UInt8)} {t : List UInt8} {a : Option Addr} {c : Nat} (h : RdS w0 w b done t a c) (ht : recOf t = none) : recsOf b = done.map toB ∧ goodN b = (frames done).length ∧ b.size = (frames done).length + t.length := by
  unfold recsOf goodN
  rw [h.eq, scan_frames done t h.len, scan_none ht]
  refine ⟨by simp, by simp, by rw [ba_size, h.eq, List.length_append]⟩
theorem frames_ge (l : List (List UInt8)) : 8 * l.length ≤ (frames l).length := by
  induction l with
  | nil => simp
  | cons x l ih => rw [frames_cons, List.length_append, frame_len, List.length_cons]; omega
theorem extract_list (b : ByteArray) (i j : Nat) : (b.extract i j).data.toList = (b.data.toList.drop i).take (j - i) := by
  rw [ByteArray.data_extract, Array.toList_extract, List.extract_eq_take_drop]
theorem RdS.rest {w0 w : World} {b : ByteArray} {done : List (List UInt8)} {t : List UInt8} {a : Option Addr} {c : Nat} (h : RdS w0 w b done t a c) : (b.extract (frames done).length b.size).data.toList = t := by
  rw [extract_list, h.eq, List.drop_left]
  apply List.take_of_length_le
  rw [ba_size, h.eq, List.length_append]
  omega
theorem RdS.size {w0 w : World} {b : ByteArray} {done : List (List UInt8)} {t : List UInt8} {a : Option Addr} {c : Nat} (h : RdS w0 w b done t a c) : b.size = (frames done).length + t.length := by
  rw [ba_size, h.eq, List.length_append]
theorem RdS.below {w0 w w' : World} {b : ByteArray} {done : List (List UInt8)} {t : List UInt8} {a : Option Addr} {c : Nat} (h : RdS w0 w b done t a c) (hb : Below w.heap.size w w') : RdS w0 w' b done t a c := by
  have hl : w0.heap.size + 1 < w.heap.size := World.block_lt_of_cell? _ _ h.c0
  obtain ⟨v0, r0⟩ := h.r0
  obtain ⟨v1, r1⟩ := h.r1
  exact ⟨h.eq, h.len, (hb.cell (p := ⟨_, _, none⟩) hl).trans h.c0, (hb.cell (p := ⟨_, _, none⟩) hl).trans h.c1, ⟨v0, (hb.cell (p := ⟨w0.heap.size, 0, none⟩) (by show w0.heap.size < _; omega)).trans r0⟩, ⟨v1, (hb.cell (p := ⟨w0.heap.size, 1, none⟩) (by show w0.heap.size < _; omega)).trans r1⟩,
    fun j => ⟨(hb.frozen (p := ⟨_, j, none⟩) hl).trans (h.f j).1, (hb.frozen (p := ⟨w0.heap.size, j, none⟩) (by show w0.heap.size < _; omega)).trans (h.f j).2⟩, row_below h.own hb, h.bel.trans (hb.mono h.bel.size)⟩
/-- The panic's end. -/
theorem RdS.fell {w0 w : World} {b : ByteArray} {done : List (List UInt8)} {t : List UInt8} {a : Option Addr} {c : Nat} (h : RdS w0 w b done t a c) (ht : recOf t = none) (hne : t ≠ []) {e : Ending} {k : Nat} (hk : done.length = k) {n : Int} (hn : ((frames done).length : Int) = n)
    (he : e = .panicked [{ v := .iface 69 (.agg #[.slice a k c, .int .i64 n]), recovered := false }]) {w' : World} (hb : Below w.heap.size w w') : ReadE b w0 e w' ∧ Below w0.heap.size w0 w' := by
  obtain ⟨h1, h2, h3⟩ := h.stop ht
  subst hk hn
  have hl : 0 < t.length := List.length_pos_iff.2 hne
  refine ⟨⟨a, c, ?_, .inr ⟨by omega, ?_⟩⟩, h.bel.trans (hb.mono h.bel.size)⟩
  · rw [h1, show (done.map toB).length = done.length from List.length_map _]
    exact row_mono (row_below h.own hb) (by omega)
  · rw [he, h1, h2, show (done.map toB).length = done.length from List.length_map _]
set_option maxRecDepth 100000 in
set_option maxHeartbeats 4000000 in
theorem w_read (b : ByteArray) (hb : b.size ≤ 1048576) (w : World) : Calls Tryz.prog 67 #[.string b] w fun e w' => ReadE b w e w' ∧ Below w.heap.size w w' := by
  go_enter Tryz.func67, Tryz.ntmps67
  go_wp2
  go_loopw [4, 5, 6] (fun _ _ _ wr => ∃ done t a c, RdS w wr b done t a c) (fun _ _ _ wr => b.size - (match wr.cell? ⟨w.heap.size + 1, 1, none⟩ with | some (.int .i64 n) => n.toNat | _ => 0))
  case atStart =>
    refine ⟨[], b.data.toList, none, 0, ⟨rfl, by simp, ?_, ?_, ?_, ?_, ?_, World.ownsRow_nil _ _ _ _, ?_⟩⟩
    · simp [go_sem]
    · simp [go_sem, frames]
    · simp [go_sem]
    · simp [go_sem]
    · intro j; simp [go_sem]
    · exact ((Below.refl _ _).alloc (Nat.le_refl _) _).alloc (by simp) _
  case round =>
    obtain ⟨wo, rfl⟩ : ∃ wo, wo = wr := ⟨_, rfl⟩
    obtain ⟨done, t, a, c, hs⟩ := hrel
    have HS := Lib.hid hs
    have c0 := hs.c0
    have c1 := hs.c1
    obtain ⟨n, hn⟩ : ∃ n, (frames done).length = n := ⟨_, rfl⟩
    obtain ⟨k, hk⟩ : ∃ k, done.length = k := ⟨_, rfl⟩
    have hsz := hs.size
    have hrest := hs.rest
    rw [hn] at c1 hsz hrest
    rw [hk] at c0
    have HN := Lib.hid (And.intro hn hk)
    obtain ⟨tl, htl⟩ : ∃ tl, t.length = tl := ⟨_, rfl⟩
    rw [htl] at hsz
    have HTL := Lib.hid htl
    rw [hsz] at hrest
    obtain ⟨rest, hr⟩ : ∃ rest, b.extract n (n + tl) = rest := ⟨_, rfl⟩
    rw [hr] at hrest
    have hrs : rest.size = tl := by rw [ba_size, hrest, htl]
    have HBS := Lib.hid (And.intro hrest (And.intro hr hrs))
    obtain ⟨⟨r0v, r0⟩, ⟨r1v, r1⟩⟩ := And.intro hs.r0 hs.r1
    have fr0 := (hs.f 0).2
    have fr1 := (hs.f 1).2
    have ff0 := (hs.f 0).1
    have ff1 := (hs.f 1).1
    have hbl := hs.bel
    have hwz := hs.bel.size
    have hw2 : w.heap.size + 1 < wo.heap.size := World.block_lt_of_cell? _ _ c0
    have HB := Lib.hid hbl
    clear hs hn hk htl hrest hbl
    rcases Nat.eq_zero_or_pos tl with h0 | h0
    · subst h0
      have t0 : ¬ n < b.size := by omega
      have hno : recOf t = none := by unfold recOf; rw [if_pos (.inl (by rw [HTL.out]; omega))]
      have HNO := Lib.hid hno
      clear hr hrs hno
      obtain ⟨W1, hW1⟩ : ∃ W1, (wo.setCell ⟨w.heap.size, 0, none⟩ (.slice a k c)).setCell ⟨w.heap.size, 1, none⟩ (.int .i64 (n : Int)) = W1 := ⟨_, rfl⟩
      have s0 : W1.cell? ⟨w.heap.size, 0, none⟩ = some (.slice a k c) := by
        rw [← hW1, World.cell?_setCell_other _ _ _ _ (by intro e; injection e with _ e2; omega)]
        exact World.cell?_setCell_same _ _ _ r0
      have s1 : W1.cell? ⟨w.heap.size, 1, none⟩ = some (.int .i64 (n : Int)) := by
        rw [← hW1]
        have r1' : (wo.setCell ⟨w.heap.size, 0, none⟩ (.slice a k c)).cell? ⟨w.heap.size, 1, none⟩ = some r1v := by
          rw [World.cell?_setCell_other _ _ _ _ (by intro e; injection e with _ e2; omega)]
          exact r1
        exact World.cell?_setCell_same _ _ _ r1'
      have bW : Below w.heap.size wo W1 := by rw [← hW1]; exact ((Below.refl w.heap.size wo).setCell (p := ⟨w.heap.size, 0, none⟩) (Nat.le_refl _) _).setCell (p := ⟨w.heap.size, 1, none⟩) (Nat.le_refl _) _
      have oW : Own eStr W1 (w.heap.size + 2) (.slice a k c) (done.map toB) := by
        rw [← hW1]
        have h5 := HS.out.own
        rw [HN.out.2] at h5
        exact ((Tn.setCell (F := fun q => q = w.heap.size) wo ⟨w.heap.size, 0, none⟩ (.slice a k c) rfl).trans (Tn.setCell (F := fun q => q = w.heap.size) _ ⟨w.heap.size, 1, none⟩ _ rfl)).row h5 (fun q hq e => by have := (h5.lt q hq).1; omega)
      have HW := Lib.hid (And.intro bW oW)
      clear bW oW
      go_wp2
      refine bodyPost_ret (v := .agg #[.slice a k c, .int .i64 (n : Int)]) (by simp [results, Tryz.results67, go_sem, s0, s1]) rfl ⟨⟨a, c, ?_, .inl ⟨?_, ?_⟩⟩, HB.out.trans HW.out.1⟩
      · have h6 := HS.out.stop HNO.out
        rw [h6.1, show (done.map toB).length = k by rw [List.length_map, HN.out.2]]
        exact row_mono HW.out.2 (by omega)
      · have h6 := HS.out.stop HNO.out
        rw [h6.2.1, h6.2.2, HTL.out]
        rfl
      · have h6 := HS.out.stop HNO.out
        rw [h6.1, h6.2.1, show (done.map toB).length = k by rw [List.length_map, HN.out.2], HN.out.1]
    · have hne : t ≠ [] := fun e => by have := HTL.out; rw [e] at this; simp at this; omega
      have t0 : n < b.size := by omega
      rcases Nat.lt_or_ge tl 8 with h8 | h8
      · have t1 : (tl : Int) < 8 := by omega
        have hno : recOf t = none := by unfold recOf; rw [if_pos (.inl (by rw [HTL.out]; exact h8))]
        have HNO := Lib.hid (And.intro hno hne)
        clear hno hne
        go_wp2
        exact ⟨rfl, HS.out.fell HNO.out.1 HNO.out.2 HN.out.2 (congrArg Int.ofNat HN.out.1) rfl (Below.refl _ _)⟩
      · have t1 : ¬ (tl : Int) < 8 := by omega
        obtain ⟨nn, hnn⟩ : ∃ nn, Rw.beV (t.take 4) = nn := ⟨_, rfl⟩
        have h4l : (t.take 4).length = 4 := by rw [List.length_take, HTL.out]; omega
        have hn4 : nn < 4294967296 := by
          rw [← hnn]
          have := Rw.beV_lt (t.take 4)
          rw [h4l] at this
          exact this
        have hp4 : (rest.extract 0 4).data.toList = t.take 4 := by rw [extract_list, HBS.out.1, List.drop_zero, Nat.sub_zero]
        have hp4s : (rest.extract 0 4).size ≤ maxLen := by rw [ba_size, hp4, h4l]; decide
        have hget : ∀ W, Calls Tryz.prog 94 #[.string (rest.extract 0 4)] W fun e w' => e = .returned (.tuple #[.int .i64 (nn : Int), .int .i64 0]) ∧ W = w' := fun W => by
          refine (get_any (rest.extract 0 4) W hp4s).mono ?_
          rintro e w' ⟨he, hw⟩
          refine ⟨?_, hw⟩
          rw [he, hp4]
          unfold getAns getOk
          rw [if_pos (by rw [h4l]; decide), hnn]
        have HNN := Lib.hid (And.intro hnn h4l)
        clear hnn h4l hp4 hp4s
        by_cases c1' : nn < 1
        · have d1 : decide ((nn : Int) < 1) = true := by simp; omega
          have hno : recOf t = none := by unfold recOf; rw [if_pos (.inr (.inl (by rw [HNN.out.1]; exact c1')))]
          have HNO := Lib.hid (And.intro hno hne)
          clear hno hne c1'
          go_wp2_with (go_at_call 94; with_reducible refine (hget _).mono ?_; rintro e w2 ⟨rfl, rfl⟩)
          go_quiet (fail)
          go_wp2
          exact ⟨rfl, HS.out.fell HNO.out.1 HNO.out.2 HN.out.2 (congrArg Int.ofNat HN.out.1) rfl (below_drewN (Below.refl _ _) nq)⟩
        · have d1 : decide ((nn : Int) < 1) = false := by simp; omega
          have e1 : IntKind.i64.wrap ((nn : Int) - 1) = (nn : Int) - 1 := IntWalk.i64_in _ (by omega)
          by_cases c2' : 131072 < nn - 1
          · have d2 : decide (131072 < (nn : Int) - 1) = true := by simp; omega
            have hno : recOf t = none := by unfold recOf; rw [if_pos (.inr (.inr (.inl (by rw [HNN.out.1]; exact c2'))))]
            have HNO := Lib.hid (And.intro hno hne)
            clear hno hne c2' c1'
            go_wp2_with (go_at_call 94; with_reducible refine (hget _).mono ?_; rintro e w2 ⟨rfl, rfl⟩)
            go_quiet (fail)
            go_wp2
            exact ⟨rfl, HS.out.fell HNO.out.1 HNO.out.2 HN.out.2 (congrArg Int.ofNat HN.out.1) rfl (below_drewN (Below.refl _ _) nq)⟩
          · have d2 : decide (131072 < (nn : Int) - 1) = false := by simp; omega
            have e2 : IntKind.i64.wrap ((tl : Int) - 8) = (tl : Int) - 8 := IntWalk.i64_in _ (by omega)
            by_cases c3' : tl - 8 < nn - 1
            · have d3 : decide ((tl : Int) - 8 < (nn : Int) - 1) = true := by simp; omega
              have hno : recOf t = none := by unfold recOf; rw [if_pos (.inr (.inr (.inr (.inl (by rw [HNN.out.1, HTL.out]; exact c3')))))]
              have HNO := Lib.hid (And.intro hno hne)
              clear hno hne c2' c1' c3'
              go_wp2_with (go_at_call 94; with_reducible refine (hget _).mono ?_; rintro e w2 ⟨rfl, rfl⟩)
              go_quiet (fail)
              go_wp2
              exact ⟨rfl, HS.out.fell HNO.out.1 HNO.out.2 HN.out.2 (congrArg Int.ofNat HN.out.1) rfl (below_drewN (Below.refl _ _) nq)⟩
            · have d3 : decide ((tl : Int) - 8 < (nn : Int) - 1) = false := by simp; omega
              have e3 : IntKind.i64.wrap (8 + (nn : Int)) = 8 + (nn : Int) := IntWalk.i64_in _ (by omega)
              have e4 : IntKind.i64.wrap (8 + (nn : Int) - 1) = 8 + (nn : Int) - 1 := IntWalk.i64_in _ (by omega)
              have f1 : 1 ≤ 8 + (nn : Int) := by omega
              have f2 : 8 + (nn : Int) - 1 ≤ (tl : Int) := by omega
              have f3 : 8 ≤ 8 + (nn : Int) - 1 := by omega
              have e5 : (8 + (nn : Int)).toNat = 8 + nn := by omega
              go_wp2_with (go_at_call 94; with_reducible refine (hget _).mono ?_; rintro e w2 ⟨rfl, rfl⟩)
              refine wp_region_K (fun _ => True) 28 29 (by kernel_rfl) (by kernel_rfl) trivial (fun hH => ?_)
              refine wpAnyK_take (i := 0) [1, 2, 7, 15, 28] (v := ?v1) rfl (by kernel_rfl) (by kernel_rfl) (by kernel_rfl) (by kernel_rfl) (fun _ _ _ h => h) (Or.inl ⟨by rfl, ?hy1⟩) hH ?rest1
              case hy1 => (intro w hSw; (try dsimp only at hSw); go_simp; with_reducible rfl)
              try simp only [Act.put, List.setIfInBounds_toArray, List.set_cons_zero, List.set_cons_succ]
              refine wpAnyK_take (i := 1) [2, 7, 15, 28] (v := ?v2) rfl (by kernel_rfl) (by kernel_rfl) (by kernel_rfl) (by kernel_rfl) (fun _ _ _ h => h) (Or.inl ⟨by rfl, ?hy2⟩) hH ?rest2
              case hy2 => (intro w hSw; (try dsimp only at hSw); go_simp; with_reducible rfl)
              try simp only [Act.put, List.setIfInBounds_toArray, List.set_cons_zero, List.set_cons_succ]
              refine wpAnyK_take (i := 2) [7, 15, 28] (v := ?v3) rfl (by kernel_rfl) (by kernel_rfl) (by kernel_rfl) (by kernel_rfl) (fun _ _ _ h => h) (Or.inl ⟨by rfl, ?hy3⟩) hH ?rest3
              case hy3 => (intro w hSw; (try dsimp only at hSw); go_simp; with_reducible rfl)
              try simp only [Act.put, List.setIfInBounds_toArray, List.set_cons_zero, List.set_cons_succ]
              refine wpAnyK_take (i := 3) [4, 5, 6, 7, 15, 28] (v := ?v4) rfl (by kernel_rfl) (by kernel_rfl) (by kernel_rfl) (by kernel_rfl) (fun _ _ _ h => h) (Or.inl ⟨by rfl, ?hy4⟩) hH ?rest4
              case hy4 => (intro w hSw; (try dsimp only at hSw); go_simp; with_reducible rfl)
              try simp only [Act.put, List.setIfInBounds_toArray, List.set_cons_zero, List.set_cons_succ]
              refine wpAnyK_take (i := 4) [5, 6, 7, 15, 28] (v := ?v5) rfl (by kernel_rfl) (by kernel_rfl) (by kernel_rfl) (by kernel_rfl) (fun _ _ _ h => h) (Or.inl ⟨by rfl, ?hy5⟩) hH ?rest5
              case hy5 => (intro w hSw; (try dsimp only at hSw); go_simp; with_reducible rfl)
              try simp only [Act.put, List.setIfInBounds_toArray, List.set_cons_zero, List.set_cons_succ]
              refine wpAnyK_take (i := 5) [6, 7, 15, 28] (v := ?v6) rfl (by kernel_rfl) (by kernel_rfl) (by kernel_rfl) (by kernel_rfl) (fun _ _ _ h => h) (Or.inl ⟨by rfl, ?hy6⟩) hH ?rest6
              case hy6 => (intro w hSw; (try dsimp only at hSw); go_simp; with_reducible rfl)
              try simp only [Act.put, List.setIfInBounds_toArray, List.set_cons_zero, List.set_cons_succ]
              refine wpAnyK_take (i := 6) [7, 15, 28] (v := ?v7) rfl (by kernel_rfl) (by kernel_rfl) (by kernel_rfl) (by kernel_rfl) (fun _ _ _ h => h) (Or.inl ⟨by rfl, ?hy7⟩) hH ?rest7
              case hy7 => (intro w hSw; (try dsimp only at hSw); go_simp; with_reducible rfl)
              try simp only [Act.put, List.setIfInBounds_toArray, List.set_cons_zero, List.set_cons_succ]
              refine wpAnyK_take (i := 7) [15, 28] (v := ?v8) rfl (by kernel_rfl) (by kernel_rfl) (by kernel_rfl) (by kernel_rfl) (fun _ _ _ h => h) (Or.inl ⟨by rfl, ?hy8⟩) hH ?rest8
              case hy8 => (intro w hSw; (try dsimp only at hSw); go_simp; with_reducible rfl)
              try simp only [Act.put, List.setIfInBounds_toArray, List.set_cons_zero, List.set_cons_succ]
              refine wpAnyK_take (i := 8) [9, 13, 14, 15, 28] (v := ?v9) rfl (by kernel_rfl) (by kernel_rfl) (by kernel_rfl) (by kernel_rfl) (fun _ _ _ h => h) (Or.inl ⟨by rfl, ?hy9⟩) hH ?rest9
              case hy9 => (intro w hSw; (try dsimp only at hSw); go_simp; with_reducible rfl)
              try simp only [Act.put, List.setIfInBounds_toArray, List.set_cons_zero, List.set_cons_succ]
              refine wpAnyK_take (i := 9) [13, 14, 15, 28] (v := ?v10) rfl (by kernel_rfl) (by kernel_rfl) (by kernel_rfl) (by kernel_rfl) (fun _ _ _ h => h) (Or.inl ⟨by rfl, ?hy10⟩) hH ?rest10
              case hy10 => (intro w hSw; (try dsimp only at hSw); go_simp; with_reducible rfl)
              try simp only [Act.put, List.setIfInBounds_toArray, List.set_cons_zero, List.set_cons_succ]
              refine wpAnyK_take (i := 10) [11, 12, 13, 14, 15, 28] (v := ?v11) rfl (by kernel_rfl) (by kernel_rfl) (by kernel_rfl) (by kernel_rfl) (fun _ _ _ h => h) (Or.inl ⟨by rfl, ?hy11⟩) hH ?rest11
              case hy11 => (intro w hSw; (try dsimp only at hSw); go_simp; with_reducible rfl)
              try simp only [Act.put, List.setIfInBounds_toArray, List.set_cons_zero, List.set_cons_succ]
              refine wpAnyK_take (i := 11) [12, 13, 14, 15, 28] (v := ?v12) rfl (by kernel_rfl) (by kernel_rfl) (by kernel_rfl) (by kernel_rfl) (fun _ _ _ h => h) (Or.inl ⟨by rfl, ?hy12⟩) hH ?rest12
              case hy12 => (intro w hSw; (try dsimp only at hSw); go_simp; with_reducible rfl)
              try simp only [Act.put, List.setIfInBounds_toArray, List.set_cons_zero, List.set_cons_succ]
              refine wpAnyK_take (i := 12) [13, 14, 15, 28] (v := ?v13) rfl (by kernel_rfl) (by kernel_rfl) (by kernel_rfl) (by kernel_rfl) (fun _ _ _ h => h) (Or.inl ⟨by rfl, ?hy13⟩) hH ?rest13
              case hy13 => (intro w hSw; (try dsimp only at hSw); go_simp; with_reducible rfl)
              try simp only [Act.put, List.setIfInBounds_toArray, List.set_cons_zero, List.set_cons_succ]
              refine wpAnyK_take (i := 13) [14, 15, 28] (v := ?v14) rfl (by kernel_rfl) (by kernel_rfl) (by kernel_rfl) (by kernel_rfl) (fun _ _ _ h => h) (Or.inl ⟨by rfl, ?hy14⟩) hH ?rest14
              case hy14 => (intro w hSw; (try dsimp only at hSw); go_simp; with_reducible rfl)
              try simp only [Act.put, List.setIfInBounds_toArray, List.set_cons_zero, List.set_cons_succ]
              refine wpAnyK_take (i := 14) [15, 28] (v := ?v15) rfl (by kernel_rfl) (by kernel_rfl) (by kernel_rfl) (by kernel_rfl) (fun _ _ _ h => h) (Or.inl ⟨by rfl, ?hy15⟩) hH ?rest15
              case hy15 => (intro w hSw; (try dsimp only at hSw); go_simp; with_reducible rfl)
              try simp only [Act.put, List.setIfInBounds_toArray, List.set_cons_zero, List.set_cons_succ]
              refine wpAnyK_take (i := 15) [28] (v := ?v16) rfl (by kernel_rfl) (by kernel_rfl) (by kernel_rfl) (by kernel_rfl) (fun _ _ _ h => h) (Or.inl ⟨by rfl, ?hy16⟩) hH ?rest16
              case hy16 => (intro w hSw; (try dsimp only at hSw); go_simp; with_reducible rfl)
              try simp only [Act.put, List.setIfInBounds_toArray, List.set_cons_zero, List.set_cons_succ]
              refine wpAnyK_take (i := 16) [20, 21, 27, 28] (v := ?v17) rfl (by kernel_rfl) (by kernel_rfl) (by kernel_rfl) (by kernel_rfl) (fun _ _ _ h => h) (Or.inl ⟨by rfl, ?hy17⟩) hH ?rest17
              case hy17 => (intro w hSw; (try dsimp only at hSw); go_simp; with_reducible rfl)
              try simp only [Act.put, List.setIfInBounds_toArray, List.set_cons_zero, List.set_cons_succ]
              refine wpAnyK_take (i := 17) [18, 19, 20, 21, 27, 28] (v := ?v18) rfl (by kernel_rfl) (by kernel_rfl) (by kernel_rfl) (by kernel_rfl) (fun _ _ _ h => h) (Or.inl ⟨by rfl, ?hy18⟩) hH ?rest18
              case hy18 => (intro w hSw; (try dsimp only at hSw); go_simp; with_reducible rfl)
              try simp only [Act.put, List.setIfInBounds_toArray, List.set_cons_zero, List.set_cons_succ]
              refine wpAnyK_take (i := 18) [19, 20, 21, 27, 28] (v := ?v19) rfl (by kernel_rfl) (by kernel_rfl) (by kernel_rfl) (by kernel_rfl) (fun _ _ _ h => h) (Or.inl ⟨by rfl, ?hy19⟩) hH ?rest19
              case hy19 => (intro w hSw; (try dsimp only at hSw); go_simp; with_reducible rfl)
              try simp only [Act.put, List.setIfInBounds_toArray, List.set_cons_zero, List.set_cons_succ]
              refine wpAnyK_take (i := 19) [20, 21, 27, 28] (v := ?v20) rfl (by kernel_rfl) (by kernel_rfl) (by kernel_rfl) (by kernel_rfl) (fun _ _ _ h => h) (Or.inl ⟨by rfl, ?hy20⟩) hH ?rest20
              case hy20 => (intro w hSw; (try dsimp only at hSw); go_simp; with_reducible rfl)
              try simp only [Act.put, List.setIfInBounds_toArray, List.set_cons_zero, List.set_cons_succ]
              refine wpAnyK_take (i := 20) [21, 27, 28] (v := ?v21) rfl (by kernel_rfl) (by kernel_rfl) (by kernel_rfl) (by kernel_rfl) (fun _ _ _ h => h) (Or.inl ⟨by rfl, ?hy21⟩) hH ?rest21
              case hy21 => (intro w hSw; (try dsimp only at hSw); go_simp; with_reducible rfl)
              try simp only [Act.put, List.setIfInBounds_toArray, List.set_cons_zero, List.set_cons_succ]
              refine wpAnyK_take (i := 22) [26, 27, 28] (v := ?v22) rfl (by kernel_rfl) (by kernel_rfl) (by kernel_rfl) (by kernel_rfl) (fun _ _ _ h => h) (Or.inl ⟨by rfl, ?hy22⟩) hH ?rest22
              case hy22 => (intro w hSw; (try dsimp only at hSw); go_simp; with_reducible rfl)
              try simp only [Act.put, List.setIfInBounds_toArray, List.set_cons_zero, List.set_cons_succ]
              refine wpAnyK_take (i := 23) [24, 25, 26, 27, 28] (v := ?v23) rfl (by kernel_rfl) (by kernel_rfl) (by kernel_rfl) (by kernel_rfl) (fun _ _ _ h => h) (Or.inl ⟨by rfl, ?hy23⟩) hH ?rest23
              case hy23 => (intro w hSw; (try dsimp only at hSw); go_simp; with_reducible rfl)
              try simp only [Act.put, List.setIfInBounds_toArray, List.set_cons_zero, List.set_cons_succ]
              refine wpAnyK_take (i := 24) [25, 26, 27, 28] (v := ?v24) rfl (by kernel_rfl) (by kernel_rfl) (by kernel_rfl) (by kernel_rfl) (fun _ _ _ h => h) (Or.inl ⟨by rfl, ?hy24⟩) hH ?rest24
              case hy24 => (intro w hSw; (try dsimp only at hSw); go_simp; with_reducible rfl)
              try simp only [Act.put, List.setIfInBounds_toArray, List.set_cons_zero, List.set_cons_succ]
              refine wpAnyK_take (i := 25) [26, 27, 28] (v := ?v25) rfl (by kernel_rfl) (by kernel_rfl) (by kernel_rfl) (by kernel_rfl) (fun _ _ _ h => h) (Or.inl ⟨by rfl, ?hy25⟩) hH ?rest25
              case hy25 => (intro w hSw; (try dsimp only at hSw); go_simp; with_reducible rfl)
              try simp only [Act.put, List.setIfInBounds_toArray, List.set_cons_zero, List.set_cons_succ]
              refine wpAnyK_take (i := 26) [27, 28] (v := ?v26) rfl (by kernel_rfl) (by kernel_rfl) (by kernel_rfl) (by kernel_rfl) (fun _ _ _ h => h) (Or.inl ⟨by rfl, ?hy26⟩) hH ?rest26
              case hy26 => (intro w hSw; (try dsimp only at hSw); go_simp; with_reducible rfl)
              try simp only [Act.put, List.setIfInBounds_toArray, List.set_cons_zero, List.set_cons_succ]
              refine wpAnyK_one (i := 21) (by kernel_rfl) rfl (fun K hK => ?_) (by kernel_rfl)
              go_simp
              obtain ⟨r, hrr⟩ : ∃ r, rest.extract 8 (7 + nn) = r := ⟨_, rfl⟩
              have hrl : r.data.toList = (t.drop 8).take (nn - 1) := by rw [← hrr, extract_list, HBS.out.1, show 7 + nn - 8 = nn - 1 by omega]
              have hrsz : r.size = nn - 1 := by rw [ba_size, hrl, List.length_take, List.length_drop, HTL.out]; omega
              obtain ⟨p, hpp⟩ : ∃ p, rest.extract 0 (7 + nn) = p := ⟨_, rfl⟩
              have hpl : p.data.toList = t.take (7 + nn) := by rw [← hpp, extract_list, HBS.out.1, List.drop_zero, Nat.sub_zero]
              rw [hrr]
              go_at_call 22
              with_reducible refine (w_framed r (by omega) _).mono ?_
              rintro e w3 ⟨rfl, hb3⟩
              have hs3 := HS.out.below ((Below.refl _ _).drew.trans hb3)
              have HS3 := Lib.hid hs3
              have c03 := hs3.c0
              have c13 := hs3.c1
              rw [HN.out.1] at c13
              rw [HN.out.2] at c03
              have ff03 := (hs3.f 0).1
              have ff13 := (hs3.f 1).1
              obtain ⟨fr, hfr⟩ : ∃ fr, framed r = fr := ⟨_, rfl⟩
              have HR := Lib.hid (And.intro hrl (And.intro hrsz (And.intro hpl (And.intro hfr (And.intro hrr hpp)))))
              rw [hfr]
              clear hb3 hs3 hrl hpl hfr c0 c1 r0 r1 fr0 fr1 ff0 ff1 hrr
              refine hK.out _ _ trivial (fun hH => ?_)
              clear hK K
              try simp only [Act.put, List.setIfInBounds_toArray, List.set_cons_zero, List.set_cons_succ]
              rw [hpp]
              clear hpp
              by_cases hq : fr = p
              · subst hq
                refine wpAnyK_take (i := 27) [28] (v := ?v27) rfl (by kernel_rfl) (by kernel_rfl) (by kernel_rfl) (by kernel_rfl) (fun _ _ _ h => h) (Or.inl ⟨by rfl, ?hy27⟩) hH ?rest27
                case hy27 => (intro w hSw; (try dsimp only at hSw); go_simp; with_reducible rfl)
                try simp only [Act.put, List.setIfInBounds_toArray, List.set_cons_zero, List.set_cons_succ]
                refine wpAnyK_last (by kernel_rfl) rfl (fun K hK => ?_) (by kernel_rfl)
                go_simp
                refine hK.out _ _ (wpAnyK_done (by kernel_rfl) ?_ _)
                clear hK K hH
                go_wp2_with fail
                have cd3 : w3.drew.cell? ⟨w.heap.size + 1, 0, none⟩ = some (.slice a k c) := c03
                refine wp_region_K (fun w' => w'.cell? ⟨w.heap.size + 1, 0, none⟩ = some (.slice a k c)) 11 12 (by kernel_rfl) (by kernel_rfl) cd3 (fun hH => ?_)
                refine wpAnyK_take (i := 0) [11] (v := ?v28) rfl (by kernel_rfl) (by kernel_rfl) (by kernel_rfl) (by kernel_rfl) (fun _ _ _ h => h) (Or.inl ⟨by rfl, ?hy28⟩) hH ?rest28
                case hy28 => (intro w hSw; (try dsimp only at hSw); go_simp; with_reducible rfl)
                try simp only [Act.put, List.setIfInBounds_toArray, List.set_cons_zero, List.set_cons_succ]
                refine wpAnyK_take (i := 1) [11] (v := ?v29) rfl (by kernel_rfl) (by kernel_rfl) (by kernel_rfl) (by kernel_rfl) (fun _ _ _ h => h) (Or.inl ⟨by rfl, ?hy29⟩) hH ?rest29
                case hy29 => (intro w hSw; (try dsimp only at hSw); go_simp; with_reducible rfl)
                try simp only [Act.put, List.setIfInBounds_toArray, List.set_cons_zero, List.set_cons_succ]
                refine wpAnyK_take (i := 2) [11] (v := ?v30) rfl (by kernel_rfl) (by kernel_rfl) (by kernel_rfl) (by kernel_rfl) (fun _ _ _ h => h) (Or.inl ⟨by rfl, ?hy30⟩) hH ?rest30
                case hy30 => (intro w hSw; (try dsimp only at hSw); go_simp; with_reducible rfl)
                try simp only [Act.put, List.setIfInBounds_toArray, List.set_cons_zero, List.set_cons_succ]
                refine wpAnyK_take (i := 3) [11] (v := ?v31) rfl (by kernel_rfl) (by kernel_rfl) (by kernel_rfl) (by kernel_rfl) (fun _ _ _ h => h) (Or.inl ⟨by rfl, ?hy31⟩) hH ?rest31
                case hy31 => (intro w hSw; (try dsimp only at hSw); go_simp; with_reducible rfl)
                try simp only [Act.put, List.setIfInBounds_toArray, List.set_cons_zero, List.set_cons_succ]
                refine wpAnyK_take (i := 4) [11] (v := ?v32) rfl (by kernel_rfl) (by kernel_rfl) (by kernel_rfl) (by kernel_rfl) (fun _ _ _ h => h) (Or.inl ⟨by rfl, ?hy32⟩) hH ?rest32
                case hy32 => (intro w hSw; (try dsimp only at hSw); go_simp; with_reducible rfl)
                try simp only [Act.put, List.setIfInBounds_toArray, List.set_cons_zero, List.set_cons_succ]
                refine wpAnyK_take (i := 5) [11] (v := ?v33) rfl (by kernel_rfl) (by kernel_rfl) (by kernel_rfl) (by kernel_rfl) (fun _ _ _ h => h) (Or.inl ⟨by rfl, ?hy33⟩) hH ?rest33
                case hy33 => (intro w hSw; (try dsimp only at hSw); go_simp; with_reducible rfl)
                try simp only [Act.put, List.setIfInBounds_toArray, List.set_cons_zero, List.set_cons_succ]
                refine wpAnyK_take (i := 6) [11] (v := ?v34) rfl (by kernel_rfl) (by kernel_rfl) (by kernel_rfl) (by kernel_rfl) (fun _ _ _ h => h) (Or.inl ⟨by rfl, ?hy34⟩) hH ?rest34
                case hy34 => (intro w hSw; (try dsimp only at hSw); go_simp; with_reducible rfl)
                try simp only [Act.put, List.setIfInBounds_toArray, List.set_cons_zero, List.set_cons_succ]
                refine wpAnyK_one (i := 7) (by kernel_rfl) rfl (fun K hK => ?_) (by kernel_rfl)
                go_simp
                rw [HR.out.2.2.2.2.1]
                go_at_call 17
                with_reducible refine (clone_any _ r (by omega)).mono ?_
                rintro e w4 ⟨rfl, hb4⟩
                have hb34 : Below w3.heap.size w3 w4 := (Below.refl _ _).drew.trans hb4
                have cd4 := (hb34.cell (p := ⟨w.heap.size + 1, 0, none⟩) (World.block_lt_of_cell? _ _ c03)).trans c03
                have H4 := Lib.hid hb34
                clear hb4 hb34
                refine hK.out _ _ cd4 (fun hH => ?_)
                clear hK K
                try simp only [Act.put, List.setIfInBounds_toArray, List.set_cons_zero, List.set_cons_succ]
                refine wpAnyK_one (i := 8) (by kernel_rfl) rfl (fun K hK => ?_) (by kernel_rfl)
                go_simp
                obtain ⟨w5, hw5⟩ : ∃ w5, w5 = w4.alloc (.cells #[.string r] 9) := ⟨_, rfl⟩
                have hb35 : Below w3.heap.size w3 w5 := by rw [hw5]; exact H4.out.alloc H4.out.size _
                have hsrc : Src eStr w5 (.slice (some ⟨w4.heap.size, 0, none⟩) 1 1) [r] := by rw [hw5]; exact src_one w4 r _ _ rfl 1
                have hs5 := HS3.out.below hb35
                have cd5 := hs5.c0
                rw [HN.out.2] at cd5
                have ho5 := hs5.own
                rw [HN.out.2] at ho5
                have hml : (done.map toB).length = k := by rw [List.length_map, HN.out.2]
                have hk5 : k ≤ 1048576 := by
                  have h1 := HN.out.2
                  have h2 : 8 * done.length ≤ (frames done).length := by
                    exact frames_ge done
                  have h3 := HN.out.1
                  omega
                have hB5 := hs5.bel.size
                have hwz5 : w.heap.size + 1 < w5.heap.size := World.block_lt_of_cell? _ _ cd5
                have H5 := Lib.hid (And.intro hs5 (And.intro hsrc (And.intro ho5 hml)))
                rw [← hw5]
                clear hb35 hsrc hs5 ho5 hml hw5
                refine hK.out _ _ cd5 (fun hH => ?_)
                clear hK K
                try simp only [Act.put, List.setIfInBounds_toArray, List.set_cons_zero, List.set_cons_succ]
                refine wpAnyK_one (i := 9) (by kernel_rfl) rfl (fun K hK => ?_) (by kernel_rfl)
                refine step_app eStr rfl _ _ rfl rfl rfl H5.out.2.2.1 H5.out.2.1 (by rw [H5.out.2.2.2]; simp; omega) (by omega) ?_
                rw [H5.out.2.2.2]
                intro a6 cap6 w6 ho6 hb6 hg6 hv6
                have cd6 := (hb6.cell (p := ⟨w.heap.size + 1, 0, none⟩) (by show w.heap.size + 1 < w.heap.size + 2; omega)).trans cd5
                have ff06 : w6.frozen? ⟨w.heap.size + 1, 0, none⟩ = false := (hb6.frozen (p := ⟨w.heap.size + 1, 0, none⟩) (by show w.heap.size + 1 < w.heap.size + 2; omega)).trans (H5.out.1.f 0).1
                have H6 := Lib.hid (And.intro ho6 hb6)
                clear ho6 hb6 hg6 hv6
                refine hK.out _ _ cd6 (fun hH => ?_)
                clear hK K
                try simp only [Act.put, List.setIfInBounds_toArray, List.set_cons_zero, List.set_cons_succ]
                refine wpAnyK_take (i := 10) [11] (v := ?v35) rfl (by kernel_rfl) (by kernel_rfl) (by kernel_rfl) (by kernel_rfl) (fun _ _ _ h => h) (Or.inl ⟨by rfl, ?hy35⟩) hH ?rest35
                case hy35 => (intro w hSw; (try dsimp only at hSw); go_simp; with_reducible rfl)
                try simp only [Act.put, List.setIfInBounds_toArray, List.set_cons_zero, List.set_cons_succ]
                refine wpAnyK_last (by kernel_rfl) rfl (fun K hK => ?_) (by kernel_rfl)
                go_simp
                refine hK.out _ _ (wpAnyK_done (by kernel_rfl) ?_ _)
                clear hK K hH
                obtain ⟨W7, hW7⟩ : ∃ W7, w6.setCell ⟨w.heap.size + 1, 0, none⟩ (.slice a6 (k + 1) cap6) = W7 := ⟨_, rfl⟩
                have hs6 := H5.out.1.below (Below.refl _ _)
                have x0 : W7.cell? ⟨w.heap.size + 1, 0, none⟩ = some (.slice a6 (k + 1) cap6) := by rw [← hW7]; exact World.cell?_setCell_same _ _ _ cd6
                have c16 : w6.cell? ⟨w.heap.size + 1, 1, none⟩ = some (.int .i64 (n : Int)) := by
                  have h1 := H5.out.1.c1
                  rw [HN.out.1] at h1
                  exact (H6.out.2.cell (p := ⟨w.heap.size + 1, 1, none⟩) (by show w.heap.size + 1 < w.heap.size + 2; omega)).trans h1
                have x1 : W7.cell? ⟨w.heap.size + 1, 1, none⟩ = some (.int .i64 (n : Int)) := by
                  rw [← hW7, World.cell?_setCell_other _ _ _ _ (by intro e; injection e with _ e2; omega)]
                  exact c16
                have xf : W7.frozen? ⟨w.heap.size + 1, 1, none⟩ = false := by
                  rw [← hW7, World.frozen?_setCell]
                  exact (H6.out.2.frozen (p := ⟨w.heap.size + 1, 1, none⟩) (by show w.heap.size + 1 < w.heap.size + 2; omega)).trans (H5.out.1.f 1).1
                have HW7 := Lib.hid hW7
                rw [hW7]
                clear hW7 cd6 cd5 cd4 cd3 c03 c13 ff06 ff03 ff13 c16 hs6
                go_wp2
                go_roundw
                case rel =>
                  have hfl : frameL r.data.toList = t.take (7 + nn) := by rw [← framed_list, HR.out.2.2.2.1, HR.out.2.2.1]
                  have hll : (done ++ [r.data.toList]).length = k + 1 := by rw [List.length_append, HN.out.2]; rfl
                  have hff : ((frames (done ++ [r.data.toList])).length : Int) = (n : Int) + (8 + (nn : Int) - 1) := by
                    rw [frames_app, frames_one, List.length_append, HN.out.1, frame_len, ← ba_size, HR.out.2.1]
                    omega
                  have hs5 := H5.out.1
                  have hb67 : Below (w.heap.size) w5 ((w6.setCell ⟨w.heap.size + 1, 0, none⟩ (.slice a6 (k + 1) cap6)).setCell ⟨w.heap.size + 1, 1, none⟩ (.int .i64 ((n : Int) + (8 + (nn : Int) - 1)))) :=
                    ((H6.out.2.mono (by omega)).setCell (p := ⟨w.heap.size + 1, 0, none⟩) (by show w.heap.size ≤ w.heap.size + 1; omega) _).setCell (p := ⟨w.heap.size + 1, 1, none⟩) (by show w.heap.size ≤ w.heap.size + 1; omega) _
                  have ht67 : Tn (fun q => q = w.heap.size + 1) w6 ((w6.setCell ⟨w.heap.size + 1, 0, none⟩ (.slice a6 (k + 1) cap6)).setCell ⟨w.heap.size + 1, 1, none⟩ (.int .i64 ((n : Int) + (8 + (nn : Int) - 1)))) :=
                    (Tn.setCell (F := fun q => q = w.heap.size + 1) w6 ⟨w.heap.size + 1, 0, none⟩ _ rfl).trans (Tn.setCell (F := fun q => q = w.heap.size + 1) _ ⟨w.heap.size + 1, 1, none⟩ _ rfl)
                  rw [HW7.out] at hb67 ht67
                  obtain ⟨v0, r0⟩ := hs5.r0
                  obtain ⟨v1, r1⟩ := hs5.r1
                  have h6r : ∀ j, w6.cell? ⟨w.heap.size, j, none⟩ = w5.cell? ⟨w.heap.size, j, none⟩ := fun j => H6.out.2.cell (p := ⟨w.heap.size, j, none⟩) (by show w.heap.size < w.heap.size + 2; omega)
                  refine ⟨done ++ [r.data.toList], t.drop (7 + nn), a6, cap6, ⟨?_, ?_, ?_, ?_, ⟨v0, ?_⟩, ⟨v1, ?_⟩, ?_, ?_, ?_⟩⟩
                  · rw [hs5.eq, frames_app, frames_one, hfl, List.append_assoc, List.take_append_drop]
                  · intro x hx
                    rcases List.mem_append.1 hx with hx | hx
                    · exact hs5.len x hx
                    · rw [List.mem_singleton] at hx
                      subst hx
                      rw [← ba_size, HR.out.2.1]
                      omega
                  · rw [hll, World.cell?_setCell_other _ _ _ _ (by intro e; injection e with _ e2; omega)]
                    exact x0
                  · rw [hff]
                    exact World.cell?_setCell_same _ _ _ x1
                  · exact ht67.cell ((h6r 0).trans r0) (by show ¬ w.heap.size = w.heap.size + 1; omega)
                  · exact ht67.cell ((h6r 1).trans r1) (by show ¬ w.heap.size = w.heap.size + 1; omega)
                  · intro j
                    have h1 := hs5.f j
                    have h2 : ∀ q, q < w.heap.size + 2 → w6.frozen? ⟨q, j, none⟩ = w5.frozen? ⟨q, j, none⟩ := fun q hq => H6.out.2.frozen (p := ⟨q, j, none⟩) hq
                    rw [World.frozen?_setCell, World.frozen?_setCell, ← HW7.out, World.frozen?_setCell, World.frozen?_setCell, h2 _ (by omega), h2 _ (by omega)]
                    exact h1
                  · rw [hll, List.map_append]
                    have h1 := H6.out.1
                    have h2 : [r.data.toList].map toB = [r] := by show [toB r.data.toList] = [r]; rw [show toB r.data.toList = r from ba_eta r]
                    rw [h2]
                    exact ht67.row h1 (fun q hq e => by have := (h1.lt q hq).1; omega)
                  · exact hs5.bel.trans hb67
                case measure =>
                  rw [World.cell?_setCell_same _ _ _ x1]
                  have h1 := HS.out.c1
                  rw [HN.out.1] at h1
                  rw [h1]
                  simp only
                  omega
              · have q1 : (fr.toList == p.toList) = false := by
                  rw [beq_eq_false_iff_ne, ByteArray.toList_eq, ByteArray.toList_eq]
                  exact fun e => hq (ba_ext e)
                refine wpAnyK_take (i := 27) [28] (v := ?v36) rfl (by kernel_rfl) (by kernel_rfl) (by kernel_rfl) (by kernel_rfl) (fun _ _ _ h => h) (Or.inl ⟨by rfl, ?hy36⟩) hH ?rest36
                case hy36 => (intro w hSw; (try dsimp only at hSw); go_simp; with_reducible rfl)
                try simp only [Act.put, List.setIfInBounds_toArray, List.set_cons_zero, List.set_cons_succ]
                refine wpAnyK_last (by kernel_rfl) rfl (fun K hK => ?_) (by kernel_rfl)
                go_simp
                refine hK.out _ _ (wpAnyK_done (by kernel_rfl) ?_ _)
                clear hK K hH
                have hno : recOf t = none := by
                  have h9 : frameL ((t.drop 8).take (nn - 1)) ≠ t.take (7 + nn) := by
                    rw [← HR.out.1, ← framed_list, HR.out.2.2.2.1, ← HR.out.2.2.1]
                    exact fun e => hq (ba_ext e)
                  unfold recOf
                  rw [HNN.out.1, if_pos (.inr (.inr (.inr (.inr h9))))]
                have HNO := Lib.hid hno
                clear hno
                go_wp2_with fail
                exact ⟨rfl, HS3.out.fell HNO.out hne HN.out.2 (congrArg Int.ofNat HN.out.1) rfl (Below.refl _ _)⟩
end Go.Proofs.YtohigcpcbonaeaaGreatDoor
/-
  Wal: the walk of good: a panic of read's is met.
-/
namespace Go.Proofs.YtohigcpcbonaeaaGreatDoor
open Go.RowKit

theorem assert_far (x : Value) (w : World) : (Instr.typeAssert (.iface 69 x) 20 69 true).run Tryz.prog w = .ok (.tuple #[x, .bool true]) w := by kernel_rfl
theorem cell_ob {w : World} {a b i j : Nat} {u v : Value} (h : w.cell? ⟨b, j, none⟩ = some u) (hab : a ≠ b) : (w.setCell ⟨a, i, none⟩ v).cell? ⟨b, j, none⟩ = some u := by
  rw [World.cell?_setCell_other _ _ _ _ (by intro e; injection e with e1 e2; exact hab e1)]
  exact h
theorem cell_set' {w : World} {b i j : Nat} {v u : Value} (h : w.cell? ⟨b, j, none⟩ = some u) (hij : i ≠ j) : (w.setCell ⟨b, i, none⟩ v).cell? ⟨b, j, none⟩ = some u := by
  rw [World.cell?_setCell_other _ _ _ _ (by intro e; injection e with _ e2; exact hij e2)]
  exact h
/-- How far it came lies in the results' cells. -/
def Caught (a b : Nat) (s : Value) (n : Int) (w w' : World) : Prop :=
  w'.cell? ⟨a, 0, none⟩ = some s ∧ w'.cell? ⟨a, 1, none⟩ = some (.int .i64 n) ∧ w'.cell? ⟨b, 0, none⟩ = some (.bool false) ∧ Tn (fun q => q = a ∨ q = b) w w'
set_option maxHeartbeats 1000000 in
theorem good_catch (a b : Nat) (sa : Option Addr) (sl sc : Nat) (n : Int) (w : World) (fa : ∀ j, w.frozen? ⟨a, j, none⟩ = false) (fb : w.frozen? ⟨b, 0, none⟩ = false)
    (ca : ∃ v, w.cell? ⟨a, 0, none⟩ = some v) (ca1 : ∃ v, w.cell? ⟨a, 1, none⟩ = some v) (cb : ∃ v, w.cell? ⟨b, 0, none⟩ = some v) (hab : a ≠ b) :
    CallsD Tryz.prog 66 #[.pointer (some ⟨a, 0, none⟩), .pointer (some ⟨b, 0, none⟩)] (.panicking [{ v := .iface 69 (.agg #[.slice sa sl sc, .int .i64 n]), recovered := false }]) w fun e u' w' =>
      e = .returned (.tuple #[]) ∧ u' = .panicking [{ v := .iface 69 (.agg #[.slice sa sl sc, .int .i64 n]), recovered := true }] ∧ Caught a b (.slice sa sl sc) n w w' := by
  obtain ⟨va, ca⟩ := ca
  obtain ⟨va1, ca1⟩ := ca1
  obtain ⟨vb, cb⟩ := cb
  have fa0 := fa 0
  have fa1 := fa 1
  have la := World.block_lt_of_cell? _ _ ca
  have lb := World.block_lt_of_cell? _ _ cb
  refine callsD_of_wpS Tryz.func66 rfl fun c₀ cs hu => ?_
  apply wpS_seq
  apply wpS_region
  simp [wpOpsS, go_sem, recoverD, hu, Tryz.ntmps66, Exit.thenS]
  refine wpS_of_wp ?_
  simp only [List.replicate, Array.replicate, List.append_toArray, List.setIfInBounds_toArray, List.set_cons_zero, List.set_cons_succ, List.cons_append, List.nil_append]
  have hta := assert_far
  have hnot : ∀ (x : Bool) (w : World), (Op.unary .not (.bool x)).run Tryz.prog w = .ok (.bool (!x)) w := fun _ _ => rfl
  go_wp2
  refine ⟨rfl, _, rfl, _, results_none rfl _ _ _, rfl, rfl, ?_⟩
  have h1 : (((w.setCell ⟨a, 0, none⟩ (.slice sa sl sc)).setCell ⟨a, 1, none⟩ (.int .i64 n)).setCell ⟨b, 0, none⟩ (.bool false)).cell? ⟨a, 0, none⟩ = some (.slice sa sl sc) := by
    rw [cell_ob (cell_set' (World.cell?_setCell_same _ _ _ ca) (by omega)) (Ne.symm hab)]
  have h2 : (((w.setCell ⟨a, 0, none⟩ (.slice sa sl sc)).setCell ⟨a, 1, none⟩ (.int .i64 n)).setCell ⟨b, 0, none⟩ (.bool false)).cell? ⟨a, 1, none⟩ = some (.int .i64 n) := by
    rw [cell_ob (World.cell?_setCell_same _ _ _ (cell_set' ca1 (by omega))) (Ne.symm hab)]
  have h3 : (((w.setCell ⟨a, 0, none⟩ (.slice sa sl sc)).setCell ⟨a, 1, none⟩ (.int .i64 n)).setCell ⟨b, 0, none⟩ (.bool false)).cell? ⟨b, 0, none⟩ = some (.bool false) := World.cell?_setCell_same _ _ _ (cell_ob (cell_ob cb hab) hab)
  have ht : Tn (fun q => q = a ∨ q = b) w (((w.setCell ⟨a, 0, none⟩ (.slice sa sl sc)).setCell ⟨a, 1, none⟩ (.int .i64 n)).setCell ⟨b, 0, none⟩ (.bool false)) :=
    ((Tn.setCell (F := fun q => q = a ∨ q = b) w ⟨a, 0, none⟩ _ (.inl rfl)).trans (Tn.setCell (F := fun q => q = a ∨ q = b) _ ⟨a, 1, none⟩ _ (.inl rfl))).trans (Tn.setCell (F := fun q => q = a ∨ q = b) _ ⟨b, 0, none⟩ _ (.inr rfl))
  have hb := (Below.refl (((w.setCell ⟨a, 0, none⟩ (.slice sa sl sc)).setCell ⟨a, 1, none⟩ (.int .i64 n)).setCell ⟨b, 0, none⟩ (.bool false)).heap.size (((w.setCell ⟨a, 0, none⟩ (.slice sa sl sc)).setCell ⟨a, 1, none⟩ (.int .i64 n)).setCell ⟨b, 0, none⟩ (.bool false))).alloc (Nat.le_refl _) (.cells #[.slice sa sl sc, .int .i64 n] 69)
  exact ⟨(hb.cell (p := ⟨a, 0, none⟩) (World.block_lt_of_cell? _ _ h1)).trans h1, (hb.cell (p := ⟨a, 1, none⟩) (World.block_lt_of_cell? _ _ h2)).trans h2, (hb.cell (p := ⟨b, 0, none⟩) (World.block_lt_of_cell? _ _ h3)).trans h3, ht.trans (Tn.ofBelow hb)⟩
theorem good_idle (a b : Nat) (w : World) :
    CallsD Tryz.prog 66 #[.pointer (some ⟨a, 0, none⟩), .pointer (some ⟨b, 0, none⟩)] .returning w fun e u' w' => e = .returned (.tuple #[]) ∧ u' = .returning ∧ w' = w := by
  refine callsD_of_wpS Tryz.func66 rfl fun c₀ cs hu => ?_
  apply wpS_seq
  apply wpS_region
  simp [wpOpsS, go_sem, recoverD, hu, Tryz.ntmps66, Exit.thenS]
  refine wpS_of_wp ?_
  simp only [List.replicate, Array.replicate, List.append_toArray, List.setIfInBounds_toArray, List.set_cons_zero, List.set_cons_succ, List.cons_append, List.nil_append]
  go_wp2
  refine ⟨rfl, .returning, ?_, _, results_none rfl _ _ _, rfl, rfl, rfl⟩
  cases c₀
  simp_all
/-- What good answers. -/
def GoodE (b : ByteArray) (w : World) (e : Ending) (w' : World) : Prop :=
  ∃ a c, e = .returned (.tuple #[.agg #[.slice a (recsOf b).length c, .int .i64 (goodN b : Int)], .bool (decide (goodN b = b.size))]) ∧ Own eStr w' w.heap.size (.slice a (recsOf b).length c) (recsOf b)
theorem good_end {b : ByteArray} {w w2 w3 : World} {a : Option Addr} {k c n : Nat} {g : Bool} (hk : (recsOf b).length = k) (hn : goodN b = n) (hg : g = decide (n = b.size)) (ho : Own eStr w2 (w.heap.size + 2) (.slice a k c) (recsOf b)) (hb : Below w.heap.size w w2) (ht : Tn (fun q => q = w.heap.size ∨ q = w.heap.size + 1) w2 w3) :
    GoodE b w (.returned (.tuple #[.agg #[.slice a k c, .int .i64 (n : Int)], .bool g])) w3 ∧ Below w.heap.size w w3 := by
  subst hk hn hg
  refine ⟨⟨a, c, rfl, row_mono (ht.row ho (fun q hq e => ?_)) (by omega)⟩, hb.trans (ht.below hb.size (fun q hq => by rcases hq with rfl | rfl <;> omega))⟩
  have := (ho.lt q hq).1
  rcases e with rfl | rfl <;> omega
set_option maxRecDepth 100000 in
set_option maxHeartbeats 4000000 in
theorem w_good (b : ByteArray) (hb : b.size ≤ 1048576) (w : World) : Calls Tryz.prog 36 #[.string b] w fun e w' => GoodE b w e w' ∧ Below w.heap.size w w' := by
  have hmf : ∀ (fn : Fn) (first cap : Array Value) (w : World), (Instr.makeFunc fn first cap).run Tryz.prog w = .ok (.func fn first cap) w := fun _ _ _ _ => rfl
  obtain ⟨W1, hW1⟩ : ∃ W1, (w.alloc (.cells #[.slice none 0 0, .int .i64 0] 69)).alloc (.cells #[.bool false] 4) = W1 := ⟨_, rfl⟩
  have q0 : W1.cell? ⟨w.heap.size, 0, none⟩ = some (.slice none 0 0) := by rw [← hW1]; simp [go_sem]
  have q1 : W1.cell? ⟨w.heap.size, 1, none⟩ = some (.int .i64 0) := by rw [← hW1]; simp [go_sem]
  have q2 : W1.cell? ⟨w.heap.size + 1, 0, none⟩ = some (.bool false) := by rw [← hW1]; simp [go_sem]
  have f0 : ∀ j, W1.frozen? ⟨w.heap.size, j, none⟩ = false := fun j => by rw [← hW1]; simp [go_sem]
  have f1 : W1.frozen? ⟨w.heap.size + 1, 0, none⟩ = false := by rw [← hW1]; simp [go_sem]
  have b1 : Below w.heap.size w W1 := by rw [← hW1]; exact ((Below.refl _ _).alloc (Nat.le_refl _) _).alloc (by simp) _
  have hz : W1.heap.size = w.heap.size + 2 := by rw [← hW1]; simp
  have hR := w_read b hb W1
  have H1 := Lib.hid (And.intro b1 hz)
  have HF := Lib.hid f0
  clear b1 hz f0
  go_enter_defers Tryz.func36, Tryz.ntmps36
  go_wp2_with fail
  refine hR.mono ?_
  rintro e w2 ⟨hre, hb2⟩
  have p0 := (hb2.cell (p := ⟨w.heap.size, 0, none⟩) (World.block_lt_of_cell? _ _ q0)).trans q0
  have p1 := (hb2.cell (p := ⟨w.heap.size, 1, none⟩) (World.block_lt_of_cell? _ _ q1)).trans q1
  have p2 := (hb2.cell (p := ⟨w.heap.size + 1, 0, none⟩) (World.block_lt_of_cell? _ _ q2)).trans q2
  have g0 : ∀ j, w2.frozen? ⟨w.heap.size, j, none⟩ = false := fun j => (hb2.frozen (p := ⟨w.heap.size, j, none⟩) (by have := H1.out.2; show w.heap.size < _; omega)).trans (HF.out j)
  have g2 := (hb2.frozen (p := ⟨w.heap.size + 1, 0, none⟩) (World.block_lt_of_cell? _ _ q2)).trans f1
  have hbw : Below w.heap.size w w2 := H1.out.1.trans (hb2.mono H1.out.1.size)
  have H2 := Lib.hid (And.intro hb2 hbw)
  clear hb2 hbw q0 q1 q2 f1 hR
  obtain ⟨a, c, hown, hre⟩ := hre
  have HO := Lib.hid hown
  have hzz := H1.out.2
  rw [hzz] at hown
  obtain ⟨k, hk⟩ : ∃ k, (recsOf b).length = k := ⟨_, rfl⟩
  obtain ⟨n, hn⟩ : ∃ n, goodN b = n := ⟨_, rfl⟩
  rw [hk, hn] at hre
  have HK := Lib.hid (And.intro hk hn)
  have g00 := g0 0
  have g01 := g0 1
  have HG := Lib.hid g0
  rw [hk] at hown
  have HOW := Lib.hid hown
  clear hk hn g0 hown
  rcases hre with ⟨hgn, rfl⟩ | ⟨hgn, rfl⟩
  · have HGN := Lib.hid hgn
    clear hgn
    obtain ⟨W4, hW4⟩ : ∃ W4, ((w2.setCell ⟨w.heap.size, 0, none⟩ (.slice a k c)).setCell ⟨w.heap.size, 1, none⟩ (.int .i64 (n : Int))).setCell ⟨w.heap.size + 1, 0, none⟩ (.bool true) = W4 := ⟨_, rfl⟩
    have k0 : W4.cell? ⟨w.heap.size, 0, none⟩ = some (.slice a k c) := by rw [← hW4]; exact cell_ob (cell_set' (World.cell?_setCell_same _ _ _ p0) (by omega)) (by omega)
    have k1 : W4.cell? ⟨w.heap.size, 1, none⟩ = some (.int .i64 (n : Int)) := by rw [← hW4]; exact cell_ob (World.cell?_setCell_same _ _ _ (cell_set' p1 (by omega))) (by omega)
    have k2 : W4.cell? ⟨w.heap.size + 1, 0, none⟩ = some (.bool true) := by rw [← hW4]; exact World.cell?_setCell_same _ _ _ (cell_ob (cell_ob p2 (by omega)) (by omega))
    have T4 : Tn (fun q => q = w.heap.size ∨ q = w.heap.size + 1) w2 W4 := by rw [← hW4]; exact ((Tn.setCell (F := fun q => q = w.heap.size ∨ q = w.heap.size + 1) w2 ⟨w.heap.size, 0, none⟩ _ (.inl rfl)).trans (Tn.setCell (F := fun q => q = w.heap.size ∨ q = w.heap.size + 1) _ ⟨w.heap.size, 1, none⟩ _ (.inl rfl))).trans (Tn.setCell (F := fun q => q = w.heap.size ∨ q = w.heap.size + 1) _ ⟨w.heap.size + 1, 0, none⟩ _ (.inr rfl))
    have H4 := Lib.hid T4
    clear T4
    go_wp2
    refine leaves_cons (f := 66) (args := #[.pointer (some ⟨w.heap.size, 0, none⟩), .pointer (some ⟨w.heap.size + 1, 0, none⟩)]) (by simp) (by simp [go_sem]) ?_
    refine (good_idle _ _ _).mono ?_
    rintro e u' w'' ⟨rfl, rfl, rfl⟩
    simp [Leaves, settle, results, Tryz.results36, go_sem, k0, k1, k2]
    exact good_end HK.out.1 HK.out.2 (decide_eq_true HGN.out).symm HOW.out H2.out.2 H4.out
  · have HGN := Lib.hid hgn
    clear hgn
    go_wp2
    refine leaves_cons (f := 66) (args := #[.pointer (some ⟨w.heap.size, 0, none⟩), .pointer (some ⟨w.heap.size + 1, 0, none⟩)]) (by simp) (by simp [go_sem]) ?_
    refine (good_catch _ _ _ _ _ _ _ HG.out g2 ⟨_, p0⟩ ⟨_, p1⟩ ⟨_, p2⟩ (by omega)).mono ?_
    rintro e u' w'' ⟨rfl, rfl, k0, k1, k2, T4⟩
    have H4 := Lib.hid T4
    clear T4
    simp [Leaves, settle, results, Tryz.results36, go_sem, k0, k1, k2]
    exact good_end HK.out.1 HK.out.2 (decide_eq_false HGN.out).symm HOW.out H2.out.2 H4.out
end Go.Proofs.YtohigcpcbonaeaaGreatDoor
/-
  Wal: segments in a map: their numbers, sorted.
-/
namespace Go.Proofs.YtohigcpcbonaeaaGreatDoor
open Go.RowKit Go.Maps Go.Sort Go.Shelf

def ckZ (k : Int) : Value := .int .i64 k
theorem keyZ : KeyT Tryz.prog 3 ckZ (.int .i64) := key_int Tryz.underlying3
variable {w w' : World} {mb lb : Nat} {ob : Option Nat} {V : Type} {cv : V → Value} {m : List (Int × V)}
def dRz : Value → Option (DataW Unit × List MemPlace) := fun _ => some (.agg [], [])
def dLz (m : List (Int × V)) : List (Lit × DataW Unit) := m.map (fun p => (Lit.int .i64 p.1, DataW.agg []))
theorem zmap_owns (h : MapL ckZ cv w mb m) (hn : ∀ p ∈ m, 1 ≤ p.1 ∧ p.1 ≤ 72057594037927936) (hl : m.length ≤ maxLen) : w.ownsMap Tryz.prog 3 dRz mb m.length (.map ((dLz m).foldr DataW.insert [])) := by
  obtain ⟨es, clock, hb, hs, he⟩ := h
  have hsz : es.size = m.length := by
    have := congrArg List.length he
    simpa [Ents] using this
  have hrd : ∀ x ∈ es.toList, ∃ s : Int, x.key = .int .i64 s ∧ 1 ≤ s ∧ s ≤ 72057594037927936 := fun x hx => by
    have hm : (x.key, x.val) ∈ es.toList.map (fun x => (x.key, x.val)) := List.mem_map.2 ⟨x, hx, rfl⟩
    rw [he] at hm
    obtain ⟨p, hp, e⟩ := List.mem_map.1 hm
    simp only [Prod.mk.injEq] at e
    exact ⟨p.1, e.1.symm, hn p hp⟩
  have hkey : ∀ s : Int, 1 ≤ s ∧ s ≤ 72057594037927936 → keyOf Tryz.prog 3 (.int .i64 s) = some (.int .i64 s) := fun s hs => by
    have hw : (Lit.int .i64 s).wf = true := by
      simp only [Lit.wf, Bool.and_eq_true, decide_eq_true_eq]
      exact ⟨by show (-9223372036854775808 : Int) ≤ s; omega, by show s ≤ (9223372036854775807 : Int); omega⟩
    simp [keyOf, mapKey, Tryz.underlying3, hw]
  have hrd2 : ∀ (x : MapEntry) (s : Int), x.key = .int .i64 s → 1 ≤ s ∧ s ≤ 72057594037927936 → WideElems.rd Tryz.prog 3 dRz x = some (.int .i64 s, .agg []) := fun x s hx hs => by
    have := WideElems.rd_mk (P := Tryz.prog) (k := 3) (R := dRz) (key := x.key) (val := x.val) (born := x.born) (by rw [hx]; exact hkey s hs) (yv := (DataW.agg [], [])) rfl
    exact this
  refine ⟨es, clock, hb, ⟨by rw [hsz]; exact hl, hs, fun x hx => ?_⟩, by rw [hsz]; exact Nat.le_refl _, ?_⟩
  · obtain ⟨s, h1, h2⟩ := hrd x hx
    exact ⟨_, hrd2 x s h1 h2⟩
  · congr 2
    unfold dLz
    have h5 : es.toList.map (WideElems.rg Tryz.prog 3 dRz) = (es.toList.map (fun x => (x.key, x.val))).map (fun p => (match p.1 with | .int _ s => (Lit.int .i64 s, DataW.agg []) | _ => (Lit.bool false, DataW.nil))) := by
      rw [List.map_map]
      refine List.map_congr_left (fun x hx => ?_)
      obtain ⟨s, h1, h2⟩ := hrd x hx
      rw [WideElems.rg_of (hrd2 x s h1 h2)]
      simp [h1]
    rw [h5, he, List.map_map]
    rfl
theorem intKeys_dLz (m : List (Int × V)) : (intKeys (.map ((dLz m).foldr DataW.insert []) : DataW Unit)).Perm (m.map (·.1)) := by
  have h := (WideShapes.sorted_perm (dLz m)).map (fun p => Go.intOf p.1)
  refine h.trans ?_
  unfold dLz
  rw [List.map_map]
  exact .refl _
theorem sortsZ (m : Nat) : AnyZI.SortsIn Tryz.prog Tryz.gl_sorted_ren Fence.wide m :=
  ⟨fun blk off cap ss W hH hblk hsz => callsIn_wide.2 (AnyM.slices_Sort_int Tryz.gl_sortI blk off cap ss W hH hblk hsz),
   fun p cap W => callsIn_wide.2 (AnyM.slices_Sort_int_none Tryz.gl_sortI p cap W)⟩
/-- Ids in order. -/
def sortZ (l : List Int) : List Int := l.mergeSort (fun x y => decide (x ≤ y))
theorem zkeys_at (mb : Option Nat) (w : World) : Calls Tryz.prog 35 #[.map mb] w fun e w' =>
    e = .returned (.func (.func 65) #[] #[.pointer (some ⟨w.heap.size, 0, none⟩)]) ∧ w' = w.alloc (.cells #[.map mb] 60) :=
  (callsIn_wide (n := 5)).1 (AnyZI.keys_in Tryz.gl_keysS Fence.wide 5 trivial rfl mb w)
theorem zsorted_at {Bm : Nat} (h : MapV ckZ cv w ob m) (hn : ∀ p ∈ m, 1 ≤ p.1 ∧ p.1 ≤ 72057594037927936) (hl : m.length ≤ 20000) (hB : w.cell? ⟨Bm, 0, none⟩ = some (.map ob)) :
    Calls Tryz.prog 34 #[.func (.func 65) #[] #[.pointer (some ⟨Bm, 0, none⟩)]] w fun e w' =>
      ∃ (v : Value), e = .returned v ∧ w'.ownsRow w.heap.size 3 1 v m.length ((sortZ (m.map (·.1))).map encZ) ∧ Below w.heap.size w w' := by
  cases ob with
  | none =>
    have hm : m = [] := h
    subst hm
    have hseq : SeqGives Fence.wide 2 Tryz.prog 65 #[.pointer (some ⟨Bm, 0, none⟩)] encZ (fun ss : List Int => ss = []) 0 w :=
      AnyZI.keys_gives_nil (ρ := Tryz.gl_keysS_ren) { Tryz.gl_keysS with } Fence.wide _ trivial rfl Bm _ (World.block_lt_of_cell? _ _ hB) hB
    have cS := AnyZI.sorted_in Tryz.gl_sorted Fence.wide 5 trivial trivial trivial trivial rfl (by omega) (sortsZ _) (enters_of Tryz.func64 (by kernel_rfl) rfl) 65 #[.pointer (some ⟨Bm, 0, none⟩)] trivial (enters_of Tryz.func65 (by kernel_rfl) rfl) _ 0 (Nat.zero_le _) (by omega) _ hseq
    refine ((callsIn_wide (n := 5)).1 cS).mono ?_
    rintro e w' ⟨v, ss, rfl, rfl, hrow, hnil, hb⟩
    exact ⟨v, rfl, hrow, hb⟩
  | some mb =>
    have hown := zmap_owns h hn (by unfold maxLen; omega)
    have hsz : Maps.size (DataW.map ((dLz m).foldr DataW.insert []) : DataW Unit) = m.length := by
      show ((dLz m).foldr DataW.insert []).length = m.length
      rw [length_sorted]; unfold dLz; rw [List.length_map]
    have hseq : SeqGives Fence.wide 2 Tryz.prog 65 #[.pointer (some ⟨Bm, 0, none⟩)] encZ (fun ss => ss.Perm (intKeys (.map ((dLz m).foldr DataW.insert []) : DataW Unit))) (Maps.size (DataW.map ((dLz m).foldr DataW.insert []) : DataW Unit)) w :=
      AnyZI.keys_gives (ρ := Tryz.gl_keysS_ren) { Tryz.gl_keysS with } Fence.wide _ trivial rfl (by omega) Bm mb _ _ _ (World.block_lt_of_cell? _ _ hB) hB hown
    have cS := AnyZI.sorted_in Tryz.gl_sorted Fence.wide 5 trivial trivial trivial trivial rfl (by omega) (sortsZ _) (enters_of Tryz.func64 (by kernel_rfl) rfl) 65 #[.pointer (some ⟨Bm, 0, none⟩)] trivial (enters_of Tryz.func65 (by kernel_rfl) rfl) _ _ (by rw [hsz]; unfold maxLen; omega) (by rw [hsz]; omega) _ hseq
    refine ((callsIn_wide (n := 5)).1 cS).mono ?_
    rintro e w' ⟨v, ss, rfl, hp, hrow, hnil, hb⟩
    have hp2 := hp.trans (intKeys_dLz m)
    have hlen : ss.length = m.length := by rw [hp2.length_eq, List.length_map]
    rw [hlen, show (ss.mergeSort (fun x y => decide (x ≤ y))) = sortZ (m.map (·.1)) from mergeSort_of_perm_i hp2] at hrow
    exact ⟨v, rfl, hrow, hb⟩
theorem zkeys_sg (mb : Option Nat) (w : World) : Calls Tryz.prog 39 #[.map mb] w fun e w' =>
    e = .returned (.func (.func 76) #[] #[.pointer (some ⟨w.heap.size, 0, none⟩)]) ∧ w' = w.alloc (.cells #[.map mb] 46) :=
  (callsIn_wide (n := 5)).1 (AnyZI.keys_in Tryz.gl_keysL Fence.wide 5 trivial rfl mb w)
theorem zsorted_sg {Bm : Nat} (h : MapV ckZ cv w ob m) (hn : ∀ p ∈ m, 1 ≤ p.1 ∧ p.1 ≤ 72057594037927936) (hl : m.length ≤ 20000) (hB : w.cell? ⟨Bm, 0, none⟩ = some (.map ob)) :
    Calls Tryz.prog 34 #[.func (.func 76) #[] #[.pointer (some ⟨Bm, 0, none⟩)]] w fun e w' =>
      ∃ (v : Value), e = .returned v ∧ w'.ownsRow w.heap.size 3 1 v m.length ((sortZ (m.map (·.1))).map encZ) ∧ Below w.heap.size w w' := by
  cases ob with
  | none =>
    have hm : m = [] := h
    subst hm
    have hseq : SeqGives Fence.wide 2 Tryz.prog 76 #[.pointer (some ⟨Bm, 0, none⟩)] encZ (fun ss : List Int => ss = []) 0 w :=
      AnyZI.keys_gives_nil (ρ := Tryz.gl_keysL_ren) { Tryz.gl_keysL with } Fence.wide _ trivial rfl Bm _ (World.block_lt_of_cell? _ _ hB) hB
    have cS := AnyZI.sorted_in Tryz.gl_sorted Fence.wide 5 trivial trivial trivial trivial rfl (by omega) (sortsZ _) (enters_of Tryz.func64 (by kernel_rfl) rfl) 76 #[.pointer (some ⟨Bm, 0, none⟩)] trivial (enters_of Tryz.func76 (by kernel_rfl) rfl) _ 0 (Nat.zero_le _) (by omega) _ hseq
    refine ((callsIn_wide (n := 5)).1 cS).mono ?_
    rintro e w' ⟨v, ss, rfl, rfl, hrow, hnil, hb⟩
    exact ⟨v, rfl, hrow, hb⟩
  | some mb =>
    have hown := zmap_owns h hn (by unfold maxLen; omega)
    have hsz : Maps.size (DataW.map ((dLz m).foldr DataW.insert []) : DataW Unit) = m.length := by
      show ((dLz m).foldr DataW.insert []).length = m.length
      rw [length_sorted]; unfold dLz; rw [List.length_map]
    have hseq : SeqGives Fence.wide 2 Tryz.prog 76 #[.pointer (some ⟨Bm, 0, none⟩)] encZ (fun ss => ss.Perm (intKeys (.map ((dLz m).foldr DataW.insert []) : DataW Unit))) (Maps.size (DataW.map ((dLz m).foldr DataW.insert []) : DataW Unit)) w :=
      AnyZI.keys_gives (ρ := Tryz.gl_keysL_ren) { Tryz.gl_keysL with } Fence.wide _ trivial rfl (by omega) Bm mb _ _ _ (World.block_lt_of_cell? _ _ hB) hB hown
    have cS := AnyZI.sorted_in Tryz.gl_sorted Fence.wide 5 trivial trivial trivial trivial rfl (by omega) (sortsZ _) (enters_of Tryz.func64 (by kernel_rfl) rfl) 76 #[.pointer (some ⟨Bm, 0, none⟩)] trivial (enters_of Tryz.func76 (by kernel_rfl) rfl) _ _ (by rw [hsz]; unfold maxLen; omega) (by rw [hsz]; omega) _ hseq
    refine ((callsIn_wide (n := 5)).1 cS).mono ?_
    rintro e w' ⟨v, ss, rfl, hp, hrow, hnil, hb⟩
    have hp2 := hp.trans (intKeys_dLz m)
    have hlen : ss.length = m.length := by rw [hp2.length_eq, List.length_map]
    rw [hlen, show (ss.mergeSort (fun x y => decide (x ≤ y))) = sortZ (m.map (·.1)) from mergeSort_of_perm_i hp2] at hrow
    exact ⟨v, rfl, hrow, hb⟩
end Go.Proofs.YtohigcpcbonaeaaGreatDoor
/-
  Wal: how a log lies; what is told of it.
-/
namespace Go.Proofs.YtohigcpcbonaeaaGreatDoor
open Go.RowKit Go.Maps Go.Sort Go.Shelf

/-- A segment's records, with the slice that they lie in. -/
structure Sg where
  a : Option Addr
  c : Nat
  rs : List ByteArray
abbrev Sg.val (x : Sg) : Value := .slice x.a x.rs.length x.c
def cvS (x : Sg) : Value := x.val
abbrev tSeg : TypeId := 46
theorem und_seg : Tryz.prog.underlying tSeg = some (.map 3 26) := Tryz.underlying46
/-- What a log can be. -/
structure Lg.Ok (L : Lg) : Prop where
  dir : L.dir.size ≤ 40
  key : ∀ p ∈ L.m, 1 ≤ p.1 ∧ p.1 ≤ 4294967295
  rise : (L.m.map (·.1)).Pairwise (fun a b => a < b)
  few : L.m.length ≤ 20000
  recs : ∀ p ∈ L.m, p.2.length ≤ 1000000
  op : 0 ≤ L.op ∧ L.op ≤ 4294967295
  long : 0 ≤ L.long ∧ L.long ≤ 1048576
  left : L.left.size ≤ 1048576
  size : 0 ≤ L.size ∧ L.size ≤ 1048576
/-- A log lies in the block lb, its segments in the map mp, their records in slices of their own; G: its blocks. -/
structure LoM (G : Nat → Prop) (w : World) (lb mp db : Nat) (ms : List (Int × Sg)) (L : Lg) : Prop where
  c0 : w.cell? ⟨lb, 0, none⟩ = some (.pointer (some ⟨db, 0, none⟩))
  c1 : w.cell? ⟨lb, 1, none⟩ = some (.string L.dir)
  c2 : w.cell? ⟨lb, 2, none⟩ = some (.int .i64 L.size)
  c3 : w.cell? ⟨lb, 3, none⟩ = some (.map (some mp))
  c4 : w.cell? ⟨lb, 4, none⟩ = some (.int .i64 L.op)
  c5 : w.cell? ⟨lb, 5, none⟩ = some (.int .i64 L.long)
  c6 : w.cell? ⟨lb, 6, none⟩ = some (.bool L.torn)
  c7 : w.cell? ⟨lb, 7, none⟩ = some (.string L.left)
  fz : ∀ j, w.frozen? ⟨lb, j, none⟩ = false
  mpl : MapL ckZ cvS w mp ms
  eq : L.m = ms.map (fun p => (p.1, p.2.rs))
  rows : ∀ p ∈ ms, Own eStr w 0 p.2.val p.2.rs
  sep : ms.Pairwise (fun p p' => ∀ q, p.2.val.ownBlock = some q → p'.2.val.ownBlock ≠ some q)
  ne : lb ≠ mp
  off : ∀ p ∈ ms, ∀ q, p.2.val.ownBlock = some q → q ≠ lb ∧ q ≠ mp
  gl : G lb
  gm : G mp
  gr : ∀ p ∈ ms, ∀ q, p.2.val.ownBlock = some q → G q
  lt : ∀ q, G q → q < w.heap.size
  ok : L.Ok
/-- A log lies there. -/
def LoAt (G : Nat → Prop) (w : World) (lb mp db : Nat) (L : Lg) : Prop := ∃ ms, LoM G w lb mp db ms L
variable {G F : Nat → Prop} {w w' : World} {lb mp db mb : Nat} {ms : List (Int × Sg)} {L : Lg} {D : Dk}
theorem LoM.tn (h : LoM G w lb mp db ms L) {H : Nat → Prop} (ht : Tn H w w') (hH : ∀ q, G q → ¬ H q) : LoM G w' lb mp db ms L := by
  have hl := World.block_lt_of_cell? _ _ h.c0
  have hn := hH lb h.gl
  exact ⟨ht.cell h.c0 hn, ht.cell h.c1 hn, ht.cell h.c2 hn, ht.cell h.c3 hn, ht.cell h.c4 hn, ht.cell h.c5 hn, ht.cell h.c6 hn, ht.cell h.c7 hn, fun j => (ht.frozen (p := ⟨lb, j, none⟩) hl hn).trans (h.fz j), h.mpl.tn ht (hH mp h.gm), h.eq,
    fun p hp => ht.row (h.rows p hp) (fun q hq => hH q (h.gr p hp q hq)), h.sep, h.ne, h.off, h.gl, h.gm, h.gr, fun q hq => Nat.lt_of_lt_of_le (h.lt q hq) ht.size, h.ok⟩
theorem LoAt.tn (h : LoAt G w lb mp db L) {H : Nat → Prop} (ht : Tn H w w') (hH : ∀ q, G q → ¬ H q) : LoAt G w' lb mp db L := by
  obtain ⟨ms, h⟩ := h
  exact ⟨ms, h.tn ht hH⟩
theorem LoAt.below (h : LoAt G w lb mp db L) (hb : Below w.heap.size w w') : LoAt G w' lb mp db L := h.tn (Tn.ofBelow (F := fun _ => False) hb) (fun _ _ h => h)
theorem LoM.keys (h : LoM G w lb mp db ms L) : L.m.map (·.1) = ms.map (·.1) := by rw [h.eq, List.map_map]; rfl
theorem LoM.len (h : LoM G w lb mp db ms L) : ms.length = L.m.length := by rw [h.eq, List.length_map]
theorem LoM.get (h : LoM G w lb mp db ms L) (n : Int) : (getL ms n).map (·.rs) = getL L.m n := by
  rw [h.eq]
  clear h
  unfold getL
  induction ms with
  | nil => rfl
  | cons p l ih =>
    by_cases hp : p.1 = n
    · simp [hp]
    · simp only [List.map_cons, List.find?_cons, hp, decide_false]
      exact ih
theorem sortZ_rise {l : List Int} (h : l.Pairwise (fun a b => a < b)) : sortZ l = l := by
  unfold sortZ
  refine List.mergeSort_of_pairwise (h.imp (fun hab => ?_))
  simp
  omega
theorem w_none (h : LoAt G w lb mp db L) : Calls Tryz.prog 21 #[.pointer (some ⟨lb, 0, none⟩)] w fun e w' => e = .returned (.bool false) ∧ w = w' := by
  obtain ⟨ms, h⟩ := h
  have c0 := h.c0
  clear h
  go_enter Tryz.func21, Tryz.ntmps21
  go_wp2
  go_ret
  exact ⟨rfl, rfl⟩
theorem none_nil (w : World) : Calls Tryz.prog 21 #[.pointer none] w fun e w' => e = .returned (.bool true) ∧ w = w' := by
  go_enter Tryz.func21, Tryz.ntmps21
  go_wp2
  go_ret
  exact ⟨rfl, rfl⟩
theorem none_zero (h : w.cell? ⟨lb, 0, none⟩ = some (.pointer none)) : Calls Tryz.prog 21 #[.pointer (some ⟨lb, 0, none⟩)] w fun e w' => e = .returned (.bool true) ∧ w = w' := by
  go_enter Tryz.func21, Tryz.ntmps21
  go_wp2
  go_ret
  exact ⟨rfl, rfl⟩
abbrev iCellsZ (l : List Int) : List Value := l.map encZ
/-- A slice of numbers of one's own. -/
def OwnZ (w : World) (B : Nat) (v : Value) (l : List Int) : Prop := w.ownsRow B 3 1 v l.length (l.map encZ)
theorem OwnZ.at_ {B n c : Nat} {a : Option Addr} {l : List Int} (h : OwnZ w B (.slice a n c) l) {i : Nat} (hi : i < l.length) : ∃ g, a = some ⟨g, 0, none⟩ ∧ B ≤ g ∧ w.cell? ⟨g, i, none⟩ = some (.int .i64 l[i]) := by
  obtain ⟨a', c', hv, _, _⟩ := row_form h
  injection hv with v1 v2 v3
  subst v2
  have h0 := h
  rcases h.2 with ⟨e, e0⟩ | ⟨g, cap', cur, e, hg, hh, hn', hc, hcl, htk⟩
  · omega
  · injection e with e1 e2 e3
    subst e1
    refine ⟨g, rfl, hg, ?_⟩
    have h5 := World.ownsRow.cellAt (base := B) (e := 3) (size := 1) h0 i (by omega)
    rw [h5, List.getElem?_map, List.getElem?_eq_getElem hi]
    rfl
set_option maxHeartbeats 1000000 in
theorem numbers_any (h : LoAt G w lb mp db L) : Calls Tryz.prog 20 #[.pointer (some ⟨lb, 0, none⟩)] w fun e w' => ∃ a c, e = .returned (.slice a L.m.length c) ∧ OwnZ w' w.heap.size (.slice a L.m.length c) (L.m.map (·.1)) ∧ Below w.heap.size w w' := by
  have hnone := w_none h
  obtain ⟨ms, h⟩ := h
  have c3 := h.c3
  have hk := zsorted_sg (w := w.alloc (.cells #[.map (some mp)] 46)) (Bm := w.heap.size) (ob := some mp) (cv := cvS) (m := ms) (MapL.below h.mpl ((Below.refl _ _).alloc (Nat.le_refl _) _)) (fun p hp => by
      have := h.ok.key (p.1, p.2.rs) (by rw [h.eq]; exact List.mem_map.2 ⟨p, hp, rfl⟩)
      simp only at this
      omega) (by rw [h.len]; exact h.ok.few) (by simp [go_sem])
  have hs : sortZ (ms.map (·.1)) = L.m.map (·.1) := by rw [← h.keys]; exact sortZ_rise h.ok.rise
  have hln := h.len
  have HS := Lib.hid (And.intro hs hln)
  have HK := Lib.hid hk
  clear h hk hs hln
  go_enter Tryz.func20, Tryz.ntmps20
  go_wp2_with (first
    | (go_at_call 21; go_loud (refine hnone.mono ?_); rintro e w2 ⟨rfl, rfl⟩)
    | (go_at_call 39; go_loud (refine (zkeys_sg _ _).mono ?_); rintro e w' ⟨rfl, rfl⟩))
  refine HK.out.mono ?_
  rintro e w1 ⟨v, rfl, hrow, hb1⟩
  rw [HS.out.1, HS.out.2] at hrow
  have hz0 : (w.alloc (.cells #[.map (some mp)] 46)).heap.size = w.heap.size + 1 := by simp
  have hb01 : Below w.heap.size w w1 := ((Below.refl _ _).alloc (Nat.le_refl _) _).trans (hb1.mono (by simp))
  have hlm : (L.m.map (·.1)).length = L.m.length := List.length_map _
  have hrow2 : OwnZ w1 w.heap.size v (L.m.map (·.1)) := by
    unfold OwnZ
    rw [hlm]
    exact row_mono hrow (by rw [hz0]; omega)
  have HR := Lib.hid (And.intro hrow2 hb01)
  obtain ⟨a, c, hv, _, _⟩ := row_form hrow
  clear hrow hb1 hrow2 hb01
  subst hv
  go_wp2
  go_ret
  exact ⟨a, c, rfl, HR.out.1, HR.out.2⟩

set_option maxHeartbeats 1000000 in
theorem last_any (h : LoAt G w lb mp db L) : Calls Tryz.prog 14 #[.pointer (some ⟨lb, 0, none⟩)] w fun e w' => e = .returned (.int .i64 L.last) ∧ Below w.heap.size w w' := by
  have hn := numbers_any h
  have hfew : L.m.length ≤ 20000 := by obtain ⟨ms, h⟩ := h; exact h.ok.few
  obtain ⟨ks, hks⟩ : ∃ ks, L.m.map (·.1) = ks := ⟨_, rfl⟩
  have hf : L.last = ks.getLastD 0 := by unfold Lg.last; rw [hks]
  have hl : L.m.length = ks.length := by rw [← hks, List.length_map]
  rw [hks, hl] at hn
  rw [hl] at hfew
  rw [hf]
  obtain ⟨n, hnn⟩ : ∃ n, ks.length = n := ⟨_, rfl⟩
  rw [hnn] at hn hfew
  have HN := Lib.hid hn
  have HNN := Lib.hid hnn
  clear hn hks hf hl hnn h
  go_enter Tryz.func14, Tryz.ntmps14
  go_wp2_with fail
  refine HN.out.mono ?_
  rintro e w1 ⟨a, c, rfl, hown, hb⟩
  have HB := Lib.hid hb
  clear hb
  rcases Nat.eq_zero_or_pos n with h0 | h0
  · have t0 : ¬ (0 : Int) < (n : Int) := by omega
    have hk : ks = [] := List.eq_nil_of_length_eq_zero (by rw [HNN.out]; exact h0)
    have HK : Hid (ks.getLastD 0 = 0) := by unfold Hid; rw [hk]; rfl
    clear hown hk
    go_wp2
    go_ret
    exact ⟨by rw [HK.out]; rfl, HB.out⟩
  · have t0 : (0 : Int) < (n : Int) := by omega
    obtain ⟨g, rfl, _, hc⟩ := hown.at_ (i := n - 1) (by rw [HNN.out]; omega)
    have hk : ks.getLastD 0 = ks[n - 1]'(by rw [HNN.out]; omega) := by
      have h9 := HNN.out
      rcases List.eq_nil_or_concat ks with rfl | ⟨l, x, rfl⟩
      · simp at h9; omega
      · subst h9
        simp
    rw [← hk] at hc
    obtain ⟨v, hv⟩ : ∃ v, ks.getLastD 0 = v := ⟨_, rfl⟩
    rw [hv] at hc
    have HV := Lib.hid hv
    obtain ⟨k, rfl⟩ : ∃ k, n = k + 1 := ⟨n - 1, by omega⟩
    rw [Nat.add_sub_cancel] at hc
    have e1 : ((k + 1 : Nat) : Int) - 1 = (k : Int) := by omega
    clear hk hv hown
    go_wp2
    go_ret
    exact ⟨by rw [HV.out]; rfl, HB.out⟩
end Go.Proofs.YtohigcpcbonaeaaGreatDoor
/-
  Wal: the walk of Records.
-/
namespace Go.Proofs.YtohigcpcbonaeaaGreatDoor
open Go.RowKit Go.Maps Go.Sort Go.Shelf
variable {G F : Nat → Prop} {w w' : World} {lb mp db mb : Nat} {ms : List (Int × Sg)} {L : Lg} {D : Dk}

/-- The records of the first segments, from a number on. -/
def recsTo (m : List (Int × List ByteArray)) (from_ : Int) (i : Nat) : List ByteArray := ((m.take i).filter (fun p => decide (from_ ≤ p.1))).flatMap (·.2)
theorem recsTo_succ (m : List (Int × List ByteArray)) (from_ : Int) (i : Nat) (hi : i < m.length) : recsTo m from_ (i + 1) = recsTo m from_ i ++ (if from_ ≤ m[i].1 then m[i].2 else []) := by
  unfold recsTo
  rw [List.take_succ_eq_append_getElem hi, List.filter_append, List.flatMap_append]
  by_cases h : from_ ≤ m[i].1 <;> simp [h]
theorem flatMap_sub {α β : Type} {f : α → List β} {a b : List α} (h : a.Sublist b) : (a.flatMap f).length ≤ (b.flatMap f).length := by
  induction h with
  | slnil => simp
  | cons a _ ih => rw [List.flatMap_cons, List.length_append]; omega
  | cons_cons a _ ih => rw [List.flatMap_cons, List.flatMap_cons, List.length_append, List.length_append]; omega
theorem recsTo_le (m : List (Int × List ByteArray)) (from_ : Int) (i : Nat) : (recsTo m from_ i).length ≤ (m.flatMap (·.2)).length :=
  flatMap_sub (List.filter_sublist.trans (List.take_sublist i m))
theorem zero_strs (w : World) : (zeroValue 26).run Tryz.prog w = .ok (.slice none 0 0) w := by kernel_rfl
theorem LoM.nth (h : LoM G w lb mp db ms L) {i : Nat} (hi : i < L.m.length) : ∃ x : Sg, getL ms (L.m[i]).1 = some x ∧ x.rs = (L.m[i]).2 ∧ ((L.m[i]).1, x) ∈ ms := by
  have hi2 : i < ms.length := by rw [h.len]; exact hi
  have he : L.m[i] = (ms[i].1, ms[i].2.rs) := by
    have h1 := h.eq
    have h2 : L.m[i]? = (ms.map (fun p => (p.1, p.2.rs)))[i]? := by rw [h1]
    rw [List.getElem?_eq_getElem hi, List.getElem?_map, List.getElem?_eq_getElem hi2] at h2
    exact Option.some.inj h2
  rw [he]
  have hn : (ms.map (·.1)).Nodup := by
    rw [← h.keys, List.nodup_iff_pairwise_ne]
    exact h.ok.rise.imp (fun hab e => by omega)
  have hm : ms[i] ∈ ms := List.getElem_mem hi2
  obtain ⟨⟨kx, x⟩, hx⟩ : ∃ p, ms[i] = p := ⟨_, rfl⟩
  rw [hx] at hm ⊢
  refine ⟨x, ?_, rfl, hm⟩
  clear he hx h hi hi2
  obtain ⟨A, B, rfl⟩ := List.append_of_mem hm
  rw [List.map_append, List.map_cons, List.nodup_append] at hn
  rw [getL_app_right (fun p hp e => hn.2.2 p.1 (List.mem_map_of_mem hp) kx (by simp) e), getL_one]

set_option maxRecDepth 100000 in
set_option maxHeartbeats 2000000 in
theorem records_any (h : LoAt G w lb mp db L) (htot : (L.m.flatMap (·.2)).length ≤ 1000000) (from_ : Int) : Calls Tryz.prog 8 #[.pointer (some ⟨lb, 0, none⟩), .int .i64 from_] w fun e w' =>
    ∃ a c n, e = .returned (.slice a n c) ∧ n = (L.records from_).length ∧ Own eStr w' w.heap.size (.slice a n c) (L.records from_) ∧ Below w.heap.size w w' := by
  have hn := numbers_any h
  have hend : recsTo L.m from_ L.m.length = L.records from_ := by unfold recsTo Lg.records; rw [List.take_length]
  have hfew : L.m.length ≤ 20000 := by obtain ⟨ms, h⟩ := h; exact h.ok.few
  obtain ⟨n, hnn⟩ : ∃ n, L.m.length = n := ⟨_, rfl⟩
  rw [hnn] at hn hend hfew
  have HN := Lib.hid hn
  have HE := Lib.hid (And.intro hend (And.intro hnn (And.intro h htot)))
  clear hn hend hnn h htot
  go_enter Tryz.func8, Tryz.ntmps8
  go_wp2_with fail
  refine HN.out.mono ?_
  rintro e w1 ⟨ka, kc, rfl, hown, hb1⟩
  have H1 := Lib.hid (And.intro hown hb1)
  clear hown hb1
  go_wp2
  go_loopw [5, 7, 11] (fun v _ iv wr => ∃ i : Nat, i ≤ n ∧ iv = .int .i64 (i : Int) ∧ ∃ a c k, v = .slice a k c ∧ k = (recsTo L.m from_ i).length ∧ Own eStr wr w1.heap.size (.slice a k c) (recsTo L.m from_ i) ∧ Below w1.heap.size w1 wr) (fun _ _ iv _ => n - (intOf iv).toNat)
  case atStart => exact ⟨0, by omega, rfl, none, 0, 0, rfl, rfl, World.ownsRow_nil _ _ _ _, Below.refl _ _⟩
  case round =>
    obtain ⟨i, hi, rfl, oa, oc, k, rfl, hk, hO, hb⟩ := hrel
    have hbz := hb.size
    have h01 := H1.out.2.size
    have HB := Lib.hid (And.intro hk (And.intro hO hb))
    clear hO hk
    by_cases hlt : i < n
    · have hi1 : i < L.m.length := by rw [HE.out.2.1]; exact hlt
      have hik : i < (L.m.map (·.1)).length := by rw [List.length_map]; exact hi1
      obtain ⟨g, rfl, hgb, d0⟩ := H1.out.1.at_ hik
      rw [List.getElem_map] at d0
      obtain ⟨ms, hm⟩ := HE.out.2.2.1
      obtain ⟨x, hx, hxr, hxm⟩ := hm.nth hi1
      have hm2 := hm.tn (Tn.ofBelow (F := fun _ => False) (H1.out.2.trans (hb.mono h01))) (fun _ _ h => h)
      have hlk : (Instr.lookup tSeg (.map (some mp)) (.int .i64 (L.m[i]).1) false).run Tryz.prog wr = .ok x.val wr := by
        have h5 := MapL.look hm2.mpl keyZ und_seg (zero_strs _) false (L.m[i]).1
        rw [hx] at h5
        exact h5
      have hsx : Src eStr wr x.val x.rs := Own.src (hm2.rows _ hxm)
      have hst := recsTo_succ L.m from_ i hi1
      have hle := recsTo_le L.m from_ (i + 1)
      obtain ⟨xa, xc, xr⟩ := x
      simp only at hxr hsx
      obtain ⟨nk, hnk⟩ : ∃ nk, (L.m[i]).1 = nk := ⟨_, rfl⟩
      rw [hnk] at d0 hlk hst
      rw [← hxr] at hst
      have d1 : wr.cell? ⟨g, i, none⟩ = some (.int .i64 nk) := (hb.cell (p := ⟨g, i, none⟩) (World.block_lt_of_cell? _ _ d0)).trans d0
      have c3 := hm2.c3
      have r1 : (i : Int) < (n : Int) := by omega
      obtain ⟨xl, hxl⟩ : ∃ xl, xr.length = xl := ⟨_, rfl⟩
      have hsx2 : Src eStr wr (.slice xa xr.length xc) xr := hsx
      have hlk2 : (Instr.lookup tSeg (.map (some mp)) (.int .i64 nk) false).run Tryz.prog wr = .ok (.slice xa xr.length xc) wr := hlk
      rw [hxl] at hsx2 hlk2
      have HX := Lib.hid (And.intro hsx2 (And.intro hst (And.intro hle hxl)))
      clear hsx hsx2 hlk hst hle hm hm2 hx hxm hnk hb hxr hxl
      by_cases hf : from_ ≤ nk
      · have HF : Hid (recsTo L.m from_ (i + 1) = recsTo L.m from_ i ++ xr) := by unfold Hid; rw [HX.out.2.1, if_pos hf]
        have hk1 := HB.out.1
        have hlen : (recsTo L.m from_ i).length + xr.length ≤ 100000000 := by
          have h1 := HX.out.2.2.1
          rw [HF.out, List.length_append] at h1
          have := HE.out.2.2.2
          omega
        have HL := Lib.hid (And.intro hlen hk1)
        clear hlen hk1 d0
        go_wp2_with (at_builtin; go_loud (refine wpl_app eStr rfl _ _ rfl rfl rfl (v := .slice oa k oc) (l := recsTo L.m from_ i) (l2 := xr) HB.out.2.1 HX.out.1 HL.out.1 hbz ?_); intro a5 cap5 w5 ho5 hb5 hg5 hv5; have H5 := Lib.hid (And.intro ho5 hb5); clear ho5 hb5 hg5 hv5)
        go_roundw
        case rel => exact ⟨i + 1, by omega, by go_num, a5, cap5, _, rfl, by rw [HF.out, List.length_append], by rw [HF.out]; exact H5.out.1, HB.out.2.2.trans H5.out.2⟩
        case measure => simp [intOf]; omega
      · have HF : Hid (recsTo L.m from_ (i + 1) = recsTo L.m from_ i) := by unfold Hid; rw [HX.out.2.1, if_neg hf, List.append_nil]
        clear d0
        go_wp2
        go_roundw
        case rel => exact ⟨i + 1, by omega, by go_num, oa, oc, k, rfl, by rw [HF.out]; exact HB.out.1, by rw [HF.out]; exact HB.out.2.1, HB.out.2.2⟩
        case measure => simp [intOf]; omega
    · obtain rfl : i = n := by omega
      clear hb
      go_wp2
      go_ret
      exact ⟨oa, oc, k, rfl, by rw [HB.out.1, HE.out.1], by rw [← HE.out.1]; exact row_mono HB.out.2.1 h01, H1.out.2.trans (HB.out.2.2.mono h01)⟩
end Go.Proofs.YtohigcpcbonaeaaGreatDoor
/-
  Wal: the walks of write's closures, of firstOf, of write.
-/
namespace Go.Proofs.YtohigcpcbonaeaaGreatDoor
open Go.RowKit
variable {G F : Nat → Prop} {w w' : World} {lb mp db mb bx nm : Nat} {L : Lg} {D : Dk} {s : ByteArray}

theorem act_on (D : Dk) (hon : D.on = true) (f : Fm → Fm) : (D.act f).1 = 20 ∨ ((D.act f).1 = 0 ∧ (D.act f).2.on = true ∧ (D.act f).2.acts = D.acts + 1) := by
  unfold Dk.act
  split
  · exact .inr ⟨rfl, hon, rfl⟩
  · exact .inl rfl
  · exact .inr ⟨rfl, hon, rfl⟩
/-- It goes on: there is power. -/
def Goes (D : Dk) (r : Int × Dk) : Prop := r.1 = 20 ∨ (r.2.on = true ∧ r.2.acts ≤ D.acts + 1)
theorem goes_same (D : Dk) (hon : D.on = true) (k : Int) : Goes D (k, D) := .inr ⟨hon, Nat.le_succ _⟩
theorem goes_act (D : Dk) (hon : D.on = true) (f : Fm → Fm) : Goes D (D.act f) := by
  rcases act_on D hon f with h | ⟨_, h2, h3⟩
  · exact .inl h
  · exact .inr ⟨h2, by omega⟩
theorem create_on (D : Dk) (hon : D.on = true) (s : ByteArray) : Goes D (D.create s) := by
  unfold Dk.create
  repeat' split
  all_goals first | exact goes_same D hon _ | exact goes_act D hon _
theorem app_on (D : Dk) (hon : D.on = true) (s t : ByteArray) : Goes D (D.app s t) := by
  unfold Dk.app
  repeat' split
  all_goals first | exact goes_same D hon _ | exact goes_act D hon _
theorem sync_on (D : Dk) (hon : D.on = true) (s : ByteArray) : Goes D (D.sync s) := by
  unfold Dk.sync
  repeat' split
  all_goals first | exact goes_same D hon _ | exact goes_act D hon _
theorem rename_on (D : Dk) (hon : D.on = true) (s t : ByteArray) : Goes D (D.rename s t) := by
  unfold Dk.rename
  repeat' split
  all_goals first | exact goes_same D hon _ | exact goes_act D hon _
theorem remove_on (D : Dk) (hon : D.on = true) (s : ByteArray) : Goes D (D.remove s) := by
  unfold Dk.remove
  repeat' split
  all_goals first | exact goes_same D hon _ | exact goes_act D hon _
theorem Goes.go {D : Dk} {r : Int × Dk} (h : Goes D r) (hr : r.1 ≠ 20) : r.2.on = true ∧ r.2.acts ≤ D.acts + 1 := h.resolve_left hr

/-- That there is none is no error. -/
def noneOk (k : Int) : Int := if k = 22 then 0 else k
/-- What write's closures read. -/
structure Wr (w : World) (bx nm lb db mb : Nat) (s left : ByteArray) : Prop where
  b : w.cell? ⟨bx, 0, none⟩ = some (.pointer (some ⟨lb, 0, none⟩))
  l : w.cell? ⟨lb, 0, none⟩ = some (.pointer (some ⟨db, 0, none⟩))
  l7 : w.cell? ⟨lb, 7, none⟩ = some (.string left)
  n : w.cell? ⟨nm, 0, none⟩ = some (.string s)
  nb : ¬ two db mb bx
  nl : ¬ two db mb lb
  nn : ¬ two db mb nm
theorem Wr.tn {left : ByteArray} (h : Wr w bx nm lb db mb s left) (t : Tn (two db mb) w w') : Wr w' bx nm lb db mb s left :=
  ⟨t.cell h.b h.nb, t.cell h.l h.nl, t.cell h.l7 h.nl, t.cell h.n h.nn, h.nb, h.nl, h.nn⟩
theorem Wr.below {left : ByteArray} (h : Wr w bx nm lb db mb s left) (t : Below w.heap.size w w') : Wr w' bx nm lb db mb s left := h.tn (Tn.ofBelow t)

set_option maxHeartbeats 1000000 in
theorem w_wr1 {left : ByteArray} (hw : Wr w bx nm lb db mb s left) (h : DkAt F w db mb D) (hon : D.on = true) (ha : D.acts < 1000000) (hs : s.size ≤ 140737488351232) :
    Calls Tryz.prog 69 #[.pointer (some ⟨bx, 0, none⟩), .pointer (some ⟨nm, 0, none⟩)] w fun e w' => e = .returned (.int .i64 (noneOk (D.remove s).1)) ∧ DkAt F w' db mb (D.remove s).2 ∧ Tn (two db mb) w w' := by
  have HW := Lib.hid (And.intro hw h)
  have kd : w.drew.cell? ⟨bx, 0, none⟩ = some (.pointer (some ⟨lb, 0, none⟩)) ∧ w.drew.cell? ⟨lb, 0, none⟩ = some (.pointer (some ⟨db, 0, none⟩)) ∧ w.drew.cell? ⟨lb, 7, none⟩ = some (.string left) ∧ w.drew.cell? ⟨nm, 0, none⟩ = some (.string s) := ⟨hw.b, hw.l, hw.l7, hw.n⟩
  have hd := h.below (Below.refl _ _).drew
  have HD := Lib.hid hd
  clear hw h hd
  go_enter Tryz.func69, Tryz.ntmps69
  go_wp2_with fail
  refine wp_region_K (fun w' => w'.cell? ⟨bx, 0, none⟩ = some (.pointer (some ⟨lb, 0, none⟩)) ∧ w'.cell? ⟨lb, 0, none⟩ = some (.pointer (some ⟨db, 0, none⟩)) ∧ w'.cell? ⟨lb, 7, none⟩ = some (.string left) ∧ w'.cell? ⟨nm, 0, none⟩ = some (.string s)) 6 7 (by kernel_rfl) (by kernel_rfl) kd (fun hH => ?_)
  refine wpAnyK_take (i := 0) [6] (v := ?v37) rfl (by kernel_rfl) (by kernel_rfl) (by kernel_rfl) (by kernel_rfl) (fun _ _ _ h => h) (Or.inl ⟨by rfl, ?hy37⟩) hH ?rest37
  case hy37 => (intro w hSw; (try dsimp only at hSw); go_simp; with_reducible rfl)
  try simp only [Act.put, List.setIfInBounds_toArray, List.set_cons_zero, List.set_cons_succ]
  refine wpAnyK_take (i := 1) [6] (v := ?v38) rfl (by kernel_rfl) (by kernel_rfl) (by kernel_rfl) (by kernel_rfl) (fun _ _ _ h => h) (Or.inl ⟨by rfl, ?hy38⟩) hH ?rest38
  case hy38 => (intro w hSw; (try dsimp only at hSw); go_simp; with_reducible rfl)
  try simp only [Act.put, List.setIfInBounds_toArray, List.set_cons_zero, List.set_cons_succ]
  refine wpAnyK_take (i := 2) [6] (v := ?v39) rfl (by kernel_rfl) (by kernel_rfl) (by kernel_rfl) (by kernel_rfl) (fun _ _ _ h => h) (Or.inl ⟨by rfl, ?hy39⟩) hH ?rest39
  case hy39 => (intro w hSw; (try dsimp only at hSw); go_simp; with_reducible rfl)
  try simp only [Act.put, List.setIfInBounds_toArray, List.set_cons_zero, List.set_cons_succ]
  refine wpAnyK_take (i := 3) [6] (v := ?v40) rfl (by kernel_rfl) (by kernel_rfl) (by kernel_rfl) (by kernel_rfl) (fun _ _ _ h => h) (Or.inl ⟨by rfl, ?hy40⟩) hH ?rest40
  case hy40 => (intro w hSw; (try dsimp only at hSw); go_simp; with_reducible rfl)
  try simp only [Act.put, List.setIfInBounds_toArray, List.set_cons_zero, List.set_cons_succ]
  refine wpAnyK_take (i := 4) [6] (v := ?v41) rfl (by kernel_rfl) (by kernel_rfl) (by kernel_rfl) (by kernel_rfl) (fun _ _ _ h => h) (Or.inl ⟨by rfl, ?hy41⟩) hH ?rest41
  case hy41 => (intro w hSw; (try dsimp only at hSw); go_simp; with_reducible rfl)
  try simp only [Act.put, List.setIfInBounds_toArray, List.set_cons_zero, List.set_cons_succ]
  refine wpAnyK_one (i := 5) (by kernel_rfl) rfl (fun K hK => ?_) (by kernel_rfl)
  go_simp
  go_at_call 38
  with_reducible refine (remove_any HD.out hon ha s hs).mono ?_
  rintro e w3 ⟨rfl, hd3, ht3⟩
  have kd3 : w3.cell? ⟨bx, 0, none⟩ = some (.pointer (some ⟨lb, 0, none⟩)) ∧ w3.cell? ⟨lb, 0, none⟩ = some (.pointer (some ⟨db, 0, none⟩)) ∧ w3.cell? ⟨lb, 7, none⟩ = some (.string left) ∧ w3.cell? ⟨nm, 0, none⟩ = some (.string s) := ⟨ht3.cell kd.1 HW.out.1.nb, ht3.cell kd.2.1 HW.out.1.nl, ht3.cell kd.2.2.1 HW.out.1.nl, ht3.cell kd.2.2.2 HW.out.1.nn⟩
  have H3 := Lib.hid (And.intro hd3 ht3)
  clear hd3 ht3
  refine hK.out _ _ kd3 (fun hH => ?_)
  clear hK K
  try simp only [Act.put, List.setIfInBounds_toArray, List.set_cons_zero, List.set_cons_succ]
  refine wpAnyK_last (by kernel_rfl) rfl (fun K hK => ?_) (by kernel_rfl)
  go_simp
  refine hK.out _ _ (wpAnyK_done (by kernel_rfl) ?_ _)
  clear hK K hH
  clear kd kd3
  obtain ⟨k, hk⟩ : ∃ k, (D.remove s).1 = k := ⟨_, rfl⟩
  rw [hk]
  have HK := Lib.hid hk
  clear hk
  by_cases h22 : k = 22
  · subst h22
    go_wp2
    go_ret
    exact ⟨by rw [HK.out]; rfl, H3.out.1, (Tn.drew _).trans H3.out.2⟩
  · have t1 : (k != 22) = true := by simpa using h22
    have H22 := Lib.hid h22
    clear h22
    go_wp2
    go_ret
    exact ⟨by rw [HK.out, show noneOk k = k from if_neg H22.out]; rfl, H3.out.1, (Tn.drew _).trans H3.out.2⟩

set_option maxHeartbeats 1000000 in
theorem w_wr2 {left : ByteArray} (hw : Wr w bx nm lb db mb s left) (h : DkAt F w db mb D) (hon : D.on = true) (ha : D.acts < 1000000) (hs : s.size ≤ 140737488351232) :
    Calls Tryz.prog 70 #[.pointer (some ⟨bx, 0, none⟩), .pointer (some ⟨nm, 0, none⟩)] w fun e w' => e = .returned (.int .i64 ((D.create s).1)) ∧ DkAt F w' db mb (D.create s).2 ∧ Tn (two db mb) w w' := by
  have HW := Lib.hid (And.intro hw h)
  have kd : w.drew.cell? ⟨bx, 0, none⟩ = some (.pointer (some ⟨lb, 0, none⟩)) ∧ w.drew.cell? ⟨lb, 0, none⟩ = some (.pointer (some ⟨db, 0, none⟩)) ∧ w.drew.cell? ⟨lb, 7, none⟩ = some (.string left) ∧ w.drew.cell? ⟨nm, 0, none⟩ = some (.string s) := ⟨hw.b, hw.l, hw.l7, hw.n⟩
  have hd := h.below (Below.refl _ _).drew
  have HD := Lib.hid hd
  clear hw h hd
  go_enter Tryz.func70, Tryz.ntmps70
  go_wp2_with fail
  refine wp_region_K (fun w' => w'.cell? ⟨bx, 0, none⟩ = some (.pointer (some ⟨lb, 0, none⟩)) ∧ w'.cell? ⟨lb, 0, none⟩ = some (.pointer (some ⟨db, 0, none⟩)) ∧ w'.cell? ⟨lb, 7, none⟩ = some (.string left) ∧ w'.cell? ⟨nm, 0, none⟩ = some (.string s)) 6 7 (by kernel_rfl) (by kernel_rfl) kd (fun hH => ?_)
  refine wpAnyK_take (i := 0) [6] (v := ?v42) rfl (by kernel_rfl) (by kernel_rfl) (by kernel_rfl) (by kernel_rfl) (fun _ _ _ h => h) (Or.inl ⟨by rfl, ?hy42⟩) hH ?rest42
  case hy42 => (intro w hSw; (try dsimp only at hSw); go_simp; with_reducible rfl)
  try simp only [Act.put, List.setIfInBounds_toArray, List.set_cons_zero, List.set_cons_succ]
  refine wpAnyK_take (i := 1) [6] (v := ?v43) rfl (by kernel_rfl) (by kernel_rfl) (by kernel_rfl) (by kernel_rfl) (fun _ _ _ h => h) (Or.inl ⟨by rfl, ?hy43⟩) hH ?rest43
  case hy43 => (intro w hSw; (try dsimp only at hSw); go_simp; with_reducible rfl)
  try simp only [Act.put, List.setIfInBounds_toArray, List.set_cons_zero, List.set_cons_succ]
  refine wpAnyK_take (i := 2) [6] (v := ?v44) rfl (by kernel_rfl) (by kernel_rfl) (by kernel_rfl) (by kernel_rfl) (fun _ _ _ h => h) (Or.inl ⟨by rfl, ?hy44⟩) hH ?rest44
  case hy44 => (intro w hSw; (try dsimp only at hSw); go_simp; with_reducible rfl)
  try simp only [Act.put, List.setIfInBounds_toArray, List.set_cons_zero, List.set_cons_succ]
  refine wpAnyK_take (i := 3) [6] (v := ?v45) rfl (by kernel_rfl) (by kernel_rfl) (by kernel_rfl) (by kernel_rfl) (fun _ _ _ h => h) (Or.inl ⟨by rfl, ?hy45⟩) hH ?rest45
  case hy45 => (intro w hSw; (try dsimp only at hSw); go_simp; with_reducible rfl)
  try simp only [Act.put, List.setIfInBounds_toArray, List.set_cons_zero, List.set_cons_succ]
  refine wpAnyK_take (i := 4) [6] (v := ?v46) rfl (by kernel_rfl) (by kernel_rfl) (by kernel_rfl) (by kernel_rfl) (fun _ _ _ h => h) (Or.inl ⟨by rfl, ?hy46⟩) hH ?rest46
  case hy46 => (intro w hSw; (try dsimp only at hSw); go_simp; with_reducible rfl)
  try simp only [Act.put, List.setIfInBounds_toArray, List.set_cons_zero, List.set_cons_succ]
  refine wpAnyK_one (i := 5) (by kernel_rfl) rfl (fun K hK => ?_) (by kernel_rfl)
  go_simp
  go_at_call 42
  with_reducible refine (create_any HD.out hon ha s hs).mono ?_
  rintro e w3 ⟨rfl, hd3, ht3⟩
  have kd3 : w3.cell? ⟨bx, 0, none⟩ = some (.pointer (some ⟨lb, 0, none⟩)) ∧ w3.cell? ⟨lb, 0, none⟩ = some (.pointer (some ⟨db, 0, none⟩)) ∧ w3.cell? ⟨lb, 7, none⟩ = some (.string left) ∧ w3.cell? ⟨nm, 0, none⟩ = some (.string s) := ⟨ht3.cell kd.1 HW.out.1.nb, ht3.cell kd.2.1 HW.out.1.nl, ht3.cell kd.2.2.1 HW.out.1.nl, ht3.cell kd.2.2.2 HW.out.1.nn⟩
  have H3 := Lib.hid (And.intro hd3 ht3)
  clear hd3 ht3
  refine hK.out _ _ kd3 (fun hH => ?_)
  clear hK K
  try simp only [Act.put, List.setIfInBounds_toArray, List.set_cons_zero, List.set_cons_succ]
  refine wpAnyK_last (by kernel_rfl) rfl (fun K hK => ?_) (by kernel_rfl)
  go_simp
  refine hK.out _ _ (wpAnyK_done (by kernel_rfl) ?_ _)
  clear hK K hH
  clear kd kd3
  go_wp2_with fail
  go_ret
  exact ⟨rfl, H3.out.1, (Tn.drew _).trans H3.out.2⟩

set_option maxHeartbeats 1000000 in
theorem w_wr3 {left : ByteArray} (hw : Wr w bx nm lb db mb s left) (h : DkAt F w db mb D) (hon : D.on = true) (ha : D.acts < 1000000) (hs : s.size ≤ 140737488351232) (hleft : left.size ≤ 140737488351232) :
    Calls Tryz.prog 71 #[.pointer (some ⟨bx, 0, none⟩), .pointer (some ⟨nm, 0, none⟩)] w fun e w' => e = .returned (.int .i64 ((D.app s left).1)) ∧ DkAt F w' db mb (D.app s left).2 ∧ Tn (two db mb) w w' := by
  have HW := Lib.hid (And.intro hw h)
  have kd : w.drew.cell? ⟨bx, 0, none⟩ = some (.pointer (some ⟨lb, 0, none⟩)) ∧ w.drew.cell? ⟨lb, 0, none⟩ = some (.pointer (some ⟨db, 0, none⟩)) ∧ w.drew.cell? ⟨lb, 7, none⟩ = some (.string left) ∧ w.drew.cell? ⟨nm, 0, none⟩ = some (.string s) := ⟨hw.b, hw.l, hw.l7, hw.n⟩
  have hd := h.below (Below.refl _ _).drew
  have HD := Lib.hid hd
  clear hw h hd
  go_enter Tryz.func71, Tryz.ntmps71
  go_wp2_with fail
  refine wp_region_K (fun w' => w'.cell? ⟨bx, 0, none⟩ = some (.pointer (some ⟨lb, 0, none⟩)) ∧ w'.cell? ⟨lb, 0, none⟩ = some (.pointer (some ⟨db, 0, none⟩)) ∧ w'.cell? ⟨lb, 7, none⟩ = some (.string left) ∧ w'.cell? ⟨nm, 0, none⟩ = some (.string s)) 10 11 (by kernel_rfl) (by kernel_rfl) kd (fun hH => ?_)
  refine wpAnyK_take (i := 0) [10] (v := ?v47) rfl (by kernel_rfl) (by kernel_rfl) (by kernel_rfl) (by kernel_rfl) (fun _ _ _ h => h) (Or.inl ⟨by rfl, ?hy47⟩) hH ?rest47
  case hy47 => (intro w hSw; (try dsimp only at hSw); go_simp; with_reducible rfl)
  try simp only [Act.put, List.setIfInBounds_toArray, List.set_cons_zero, List.set_cons_succ]
  refine wpAnyK_take (i := 1) [10] (v := ?v48) rfl (by kernel_rfl) (by kernel_rfl) (by kernel_rfl) (by kernel_rfl) (fun _ _ _ h => h) (Or.inl ⟨by rfl, ?hy48⟩) hH ?rest48
  case hy48 => (intro w hSw; (try dsimp only at hSw); go_simp; with_reducible rfl)
  try simp only [Act.put, List.setIfInBounds_toArray, List.set_cons_zero, List.set_cons_succ]
  refine wpAnyK_take (i := 2) [10] (v := ?v49) rfl (by kernel_rfl) (by kernel_rfl) (by kernel_rfl) (by kernel_rfl) (fun _ _ _ h => h) (Or.inl ⟨by rfl, ?hy49⟩) hH ?rest49
  case hy49 => (intro w hSw; (try dsimp only at hSw); go_simp; with_reducible rfl)
  try simp only [Act.put, List.setIfInBounds_toArray, List.set_cons_zero, List.set_cons_succ]
  refine wpAnyK_take (i := 3) [10] (v := ?v50) rfl (by kernel_rfl) (by kernel_rfl) (by kernel_rfl) (by kernel_rfl) (fun _ _ _ h => h) (Or.inl ⟨by rfl, ?hy50⟩) hH ?rest50
  case hy50 => (intro w hSw; (try dsimp only at hSw); go_simp; with_reducible rfl)
  try simp only [Act.put, List.setIfInBounds_toArray, List.set_cons_zero, List.set_cons_succ]
  refine wpAnyK_take (i := 4) [10] (v := ?v51) rfl (by kernel_rfl) (by kernel_rfl) (by kernel_rfl) (by kernel_rfl) (fun _ _ _ h => h) (Or.inl ⟨by rfl, ?hy51⟩) hH ?rest51
  case hy51 => (intro w hSw; (try dsimp only at hSw); go_simp; with_reducible rfl)
  try simp only [Act.put, List.setIfInBounds_toArray, List.set_cons_zero, List.set_cons_succ]
  refine wpAnyK_take (i := 5) [10] (v := ?v52) rfl (by kernel_rfl) (by kernel_rfl) (by kernel_rfl) (by kernel_rfl) (fun _ _ _ h => h) (Or.inl ⟨by rfl, ?hy52⟩) hH ?rest52
  case hy52 => (intro w hSw; (try dsimp only at hSw); go_simp; with_reducible rfl)
  try simp only [Act.put, List.setIfInBounds_toArray, List.set_cons_zero, List.set_cons_succ]
  refine wpAnyK_take (i := 6) [10] (v := ?v53) rfl (by kernel_rfl) (by kernel_rfl) (by kernel_rfl) (by kernel_rfl) (fun _ _ _ h => h) (Or.inl ⟨by rfl, ?hy53⟩) hH ?rest53
  case hy53 => (intro w hSw; (try dsimp only at hSw); go_simp; with_reducible rfl)
  try simp only [Act.put, List.setIfInBounds_toArray, List.set_cons_zero, List.set_cons_succ]
  refine wpAnyK_take (i := 7) [10] (v := ?v54) rfl (by kernel_rfl) (by kernel_rfl) (by kernel_rfl) (by kernel_rfl) (fun _ _ _ h => h) (Or.inl ⟨by rfl, ?hy54⟩) hH ?rest54
  case hy54 => (intro w hSw; (try dsimp only at hSw); go_simp; with_reducible rfl)
  try simp only [Act.put, List.setIfInBounds_toArray, List.set_cons_zero, List.set_cons_succ]
  refine wpAnyK_take (i := 8) [10] (v := ?v55) rfl (by kernel_rfl) (by kernel_rfl) (by kernel_rfl) (by kernel_rfl) (fun _ _ _ h => h) (Or.inl ⟨by rfl, ?hy55⟩) hH ?rest55
  case hy55 => (intro w hSw; (try dsimp only at hSw); go_simp; with_reducible rfl)
  try simp only [Act.put, List.setIfInBounds_toArray, List.set_cons_zero, List.set_cons_succ]
  refine wpAnyK_one (i := 9) (by kernel_rfl) rfl (fun K hK => ?_) (by kernel_rfl)
  go_simp
  go_at_call 25
  with_reducible refine (append_any HD.out hon ha s left hs hleft).mono ?_
  rintro e w3 ⟨rfl, hd3, ht3⟩
  have kd3 : w3.cell? ⟨bx, 0, none⟩ = some (.pointer (some ⟨lb, 0, none⟩)) ∧ w3.cell? ⟨lb, 0, none⟩ = some (.pointer (some ⟨db, 0, none⟩)) ∧ w3.cell? ⟨lb, 7, none⟩ = some (.string left) ∧ w3.cell? ⟨nm, 0, none⟩ = some (.string s) := ⟨ht3.cell kd.1 HW.out.1.nb, ht3.cell kd.2.1 HW.out.1.nl, ht3.cell kd.2.2.1 HW.out.1.nl, ht3.cell kd.2.2.2 HW.out.1.nn⟩
  have H3 := Lib.hid (And.intro hd3 ht3)
  clear hd3 ht3
  refine hK.out _ _ kd3 (fun hH => ?_)
  clear hK K
  try simp only [Act.put, List.setIfInBounds_toArray, List.set_cons_zero, List.set_cons_succ]
  refine wpAnyK_last (by kernel_rfl) rfl (fun K hK => ?_) (by kernel_rfl)
  go_simp
  refine hK.out _ _ (wpAnyK_done (by kernel_rfl) ?_ _)
  clear hK K hH
  clear kd kd3
  go_wp2_with fail
  go_ret
  exact ⟨rfl, H3.out.1, (Tn.drew _).trans H3.out.2⟩

set_option maxHeartbeats 1000000 in
theorem w_wr4 {left : ByteArray} (hw : Wr w bx nm lb db mb s left) (h : DkAt F w db mb D) (hon : D.on = true) (ha : D.acts < 1000000) (hs : s.size ≤ 140737488351232) :
    Calls Tryz.prog 72 #[.pointer (some ⟨bx, 0, none⟩), .pointer (some ⟨nm, 0, none⟩)] w fun e w' => e = .returned (.int .i64 ((D.sync s).1)) ∧ DkAt F w' db mb (D.sync s).2 ∧ Tn (two db mb) w w' := by
  have HW := Lib.hid (And.intro hw h)
  have kd : w.drew.cell? ⟨bx, 0, none⟩ = some (.pointer (some ⟨lb, 0, none⟩)) ∧ w.drew.cell? ⟨lb, 0, none⟩ = some (.pointer (some ⟨db, 0, none⟩)) ∧ w.drew.cell? ⟨lb, 7, none⟩ = some (.string left) ∧ w.drew.cell? ⟨nm, 0, none⟩ = some (.string s) := ⟨hw.b, hw.l, hw.l7, hw.n⟩
  have hd := h.below (Below.refl _ _).drew
  have HD := Lib.hid hd
  clear hw h hd
  go_enter Tryz.func72, Tryz.ntmps72
  go_wp2_with fail
  refine wp_region_K (fun w' => w'.cell? ⟨bx, 0, none⟩ = some (.pointer (some ⟨lb, 0, none⟩)) ∧ w'.cell? ⟨lb, 0, none⟩ = some (.pointer (some ⟨db, 0, none⟩)) ∧ w'.cell? ⟨lb, 7, none⟩ = some (.string left) ∧ w'.cell? ⟨nm, 0, none⟩ = some (.string s)) 6 7 (by kernel_rfl) (by kernel_rfl) kd (fun hH => ?_)
  refine wpAnyK_take (i := 0) [6] (v := ?v56) rfl (by kernel_rfl) (by kernel_rfl) (by kernel_rfl) (by kernel_rfl) (fun _ _ _ h => h) (Or.inl ⟨by rfl, ?hy56⟩) hH ?rest56
  case hy56 => (intro w hSw; (try dsimp only at hSw); go_simp; with_reducible rfl)
  try simp only [Act.put, List.setIfInBounds_toArray, List.set_cons_zero, List.set_cons_succ]
  refine wpAnyK_take (i := 1) [6] (v := ?v57) rfl (by kernel_rfl) (by kernel_rfl) (by kernel_rfl) (by kernel_rfl) (fun _ _ _ h => h) (Or.inl ⟨by rfl, ?hy57⟩) hH ?rest57
  case hy57 => (intro w hSw; (try dsimp only at hSw); go_simp; with_reducible rfl)
  try simp only [Act.put, List.setIfInBounds_toArray, List.set_cons_zero, List.set_cons_succ]
  refine wpAnyK_take (i := 2) [6] (v := ?v58) rfl (by kernel_rfl) (by kernel_rfl) (by kernel_rfl) (by kernel_rfl) (fun _ _ _ h => h) (Or.inl ⟨by rfl, ?hy58⟩) hH ?rest58
  case hy58 => (intro w hSw; (try dsimp only at hSw); go_simp; with_reducible rfl)
  try simp only [Act.put, List.setIfInBounds_toArray, List.set_cons_zero, List.set_cons_succ]
  refine wpAnyK_take (i := 3) [6] (v := ?v59) rfl (by kernel_rfl) (by kernel_rfl) (by kernel_rfl) (by kernel_rfl) (fun _ _ _ h => h) (Or.inl ⟨by rfl, ?hy59⟩) hH ?rest59
  case hy59 => (intro w hSw; (try dsimp only at hSw); go_simp; with_reducible rfl)
  try simp only [Act.put, List.setIfInBounds_toArray, List.set_cons_zero, List.set_cons_succ]
  refine wpAnyK_take (i := 4) [6] (v := ?v60) rfl (by kernel_rfl) (by kernel_rfl) (by kernel_rfl) (by kernel_rfl) (fun _ _ _ h => h) (Or.inl ⟨by rfl, ?hy60⟩) hH ?rest60
  case hy60 => (intro w hSw; (try dsimp only at hSw); go_simp; with_reducible rfl)
  try simp only [Act.put, List.setIfInBounds_toArray, List.set_cons_zero, List.set_cons_succ]
  refine wpAnyK_one (i := 5) (by kernel_rfl) rfl (fun K hK => ?_) (by kernel_rfl)
  go_simp
  go_at_call 27
  with_reducible refine (sync_any HD.out hon ha s hs).mono ?_
  rintro e w3 ⟨rfl, hd3, ht3⟩
  have kd3 : w3.cell? ⟨bx, 0, none⟩ = some (.pointer (some ⟨lb, 0, none⟩)) ∧ w3.cell? ⟨lb, 0, none⟩ = some (.pointer (some ⟨db, 0, none⟩)) ∧ w3.cell? ⟨lb, 7, none⟩ = some (.string left) ∧ w3.cell? ⟨nm, 0, none⟩ = some (.string s) := ⟨ht3.cell kd.1 HW.out.1.nb, ht3.cell kd.2.1 HW.out.1.nl, ht3.cell kd.2.2.1 HW.out.1.nl, ht3.cell kd.2.2.2 HW.out.1.nn⟩
  have H3 := Lib.hid (And.intro hd3 ht3)
  clear hd3 ht3
  refine hK.out _ _ kd3 (fun hH => ?_)
  clear hK K
  try simp only [Act.put, List.setIfInBounds_toArray, List.set_cons_zero, List.set_cons_succ]
  refine wpAnyK_last (by kernel_rfl) rfl (fun K hK => ?_) (by kernel_rfl)
  go_simp
  refine hK.out _ _ (wpAnyK_done (by kernel_rfl) ?_ _)
  clear hK K hH
  clear kd kd3
  go_wp2_with fail
  go_ret
  exact ⟨rfl, H3.out.1, (Tn.drew _).trans H3.out.2⟩

set_option maxHeartbeats 1000000 in
theorem w_wr5 {left : ByteArray} (hw : Wr w bx nm lb db mb s left) (h : DkAt F w db mb D) (hon : D.on = true) (ha : D.acts < 1000000) (hs : s.size ≤ 140737488351232) (hlo : LoAt G w lb mp db L) (hd40 : L.dir.size ≤ 40) {n : Nat} (hn : n < 4294967296) (hlast : L.last = (n : Int)) :
    Calls Tryz.prog 73 #[.pointer (some ⟨bx, 0, none⟩), .pointer (some ⟨nm, 0, none⟩)] w fun e w' => e = .returned (.int .i64 ((D.rename s (segN L.dir n)).1)) ∧ DkAt F w' db mb (D.rename s (segN L.dir n)).2 ∧ Tn (two db mb) w w' := by
  have HW := Lib.hid (And.intro hw h)
  have kd : w.drew.cell? ⟨bx, 0, none⟩ = some (.pointer (some ⟨lb, 0, none⟩)) ∧ w.drew.cell? ⟨lb, 0, none⟩ = some (.pointer (some ⟨db, 0, none⟩)) ∧ w.drew.cell? ⟨lb, 7, none⟩ = some (.string left) ∧ w.drew.cell? ⟨nm, 0, none⟩ = some (.string s) := ⟨hw.b, hw.l, hw.l7, hw.n⟩
  have hd := h.below (Below.refl _ _).drew
  have HD := Lib.hid hd
  have hl := hlo.below (Below.refl _ _).drew
  have HL := Lib.hid hl
  clear hl hlo
  clear hw h hd
  go_enter Tryz.func73, Tryz.ntmps73
  go_wp2_with fail
  refine wp_region_K (fun w' => w'.cell? ⟨bx, 0, none⟩ = some (.pointer (some ⟨lb, 0, none⟩)) ∧ w'.cell? ⟨lb, 0, none⟩ = some (.pointer (some ⟨db, 0, none⟩)) ∧ w'.cell? ⟨lb, 7, none⟩ = some (.string left) ∧ w'.cell? ⟨nm, 0, none⟩ = some (.string s)) 10 11 (by kernel_rfl) (by kernel_rfl) kd (fun hH => ?_)
  refine wpAnyK_take (i := 0) [10] (v := ?v61) rfl (by kernel_rfl) (by kernel_rfl) (by kernel_rfl) (by kernel_rfl) (fun _ _ _ h => h) (Or.inl ⟨by rfl, ?hy61⟩) hH ?rest61
  case hy61 => (intro w hSw; (try dsimp only at hSw); go_simp; with_reducible rfl)
  try simp only [Act.put, List.setIfInBounds_toArray, List.set_cons_zero, List.set_cons_succ]
  refine wpAnyK_take (i := 1) [10] (v := ?v62) rfl (by kernel_rfl) (by kernel_rfl) (by kernel_rfl) (by kernel_rfl) (fun _ _ _ h => h) (Or.inl ⟨by rfl, ?hy62⟩) hH ?rest62
  case hy62 => (intro w hSw; (try dsimp only at hSw); go_simp; with_reducible rfl)
  try simp only [Act.put, List.setIfInBounds_toArray, List.set_cons_zero, List.set_cons_succ]
  refine wpAnyK_take (i := 2) [10] (v := ?v63) rfl (by kernel_rfl) (by kernel_rfl) (by kernel_rfl) (by kernel_rfl) (fun _ _ _ h => h) (Or.inl ⟨by rfl, ?hy63⟩) hH ?rest63
  case hy63 => (intro w hSw; (try dsimp only at hSw); go_simp; with_reducible rfl)
  try simp only [Act.put, List.setIfInBounds_toArray, List.set_cons_zero, List.set_cons_succ]
  refine wpAnyK_take (i := 3) [10] (v := ?v64) rfl (by kernel_rfl) (by kernel_rfl) (by kernel_rfl) (by kernel_rfl) (fun _ _ _ h => h) (Or.inl ⟨by rfl, ?hy64⟩) hH ?rest64
  case hy64 => (intro w hSw; (try dsimp only at hSw); go_simp; with_reducible rfl)
  try simp only [Act.put, List.setIfInBounds_toArray, List.set_cons_zero, List.set_cons_succ]
  refine wpAnyK_take (i := 4) [10] (v := ?v65) rfl (by kernel_rfl) (by kernel_rfl) (by kernel_rfl) (by kernel_rfl) (fun _ _ _ h => h) (Or.inl ⟨by rfl, ?hy65⟩) hH ?rest65
  case hy65 => (intro w hSw; (try dsimp only at hSw); go_simp; with_reducible rfl)
  try simp only [Act.put, List.setIfInBounds_toArray, List.set_cons_zero, List.set_cons_succ]
  refine wpAnyK_take (i := 5) [10] (v := ?v66) rfl (by kernel_rfl) (by kernel_rfl) (by kernel_rfl) (by kernel_rfl) (fun _ _ _ h => h) (Or.inl ⟨by rfl, ?hy66⟩) hH ?rest66
  case hy66 => (intro w hSw; (try dsimp only at hSw); go_simp; with_reducible rfl)
  try simp only [Act.put, List.setIfInBounds_toArray, List.set_cons_zero, List.set_cons_succ]
  refine wpAnyK_take (i := 6) [10] (v := ?v67) rfl (by kernel_rfl) (by kernel_rfl) (by kernel_rfl) (by kernel_rfl) (fun _ _ _ h => h) (Or.inl ⟨by rfl, ?hy67⟩) hH ?rest67
  case hy67 => (intro w hSw; (try dsimp only at hSw); go_simp; with_reducible rfl)
  try simp only [Act.put, List.setIfInBounds_toArray, List.set_cons_zero, List.set_cons_succ]
  refine wpAnyK_one (i := 7) (by kernel_rfl) rfl (fun K hK => ?_) (by kernel_rfl)
  go_simp
  go_at_call 14
  with_reducible refine (last_any HL.out).mono ?_
  rintro e w1 ⟨rfl, hb1⟩
  rw [hlast]
  have hw1 := HW.out.1.below ((Below.refl _ _).drew.trans hb1)
  have hl1 : w1.cell? ⟨lb, 1, none⟩ = some (.string L.dir) := by
    obtain ⟨ms, hm⟩ := HL.out
    exact (hb1.cell (p := ⟨lb, 1, none⟩) (World.block_lt_of_cell? _ _ hm.c1)).trans hm.c1
  have H1 := Lib.hid (And.intro hw1 hb1)
  have kd1 : w1.cell? ⟨bx, 0, none⟩ = some (.pointer (some ⟨lb, 0, none⟩)) ∧ w1.cell? ⟨lb, 0, none⟩ = some (.pointer (some ⟨db, 0, none⟩)) ∧ w1.cell? ⟨lb, 7, none⟩ = some (.string left) ∧ w1.cell? ⟨nm, 0, none⟩ = some (.string s) := ⟨hw1.b, hw1.l, hw1.l7, hw1.n⟩
  clear hw1 hb1
  refine hK.out _ _ kd1 (fun hH => ?_)
  clear hK K
  try simp only [Act.put, List.setIfInBounds_toArray, List.set_cons_zero, List.set_cons_succ]
  refine wpAnyK_one (i := 8) (by kernel_rfl) rfl (fun K hK => ?_) (by kernel_rfl)
  go_simp
  go_at_call 26
  with_reducible refine (w_name hd40 n hn hl1).mono ?_
  rintro e w2 ⟨rfl, hb2⟩
  have hw2 := H1.out.1.below hb2
  have hb02 := (Below.refl w.heap.size w).drew.trans (H1.out.2.trans (hb2.mono H1.out.2.size))
  have hd2 := HD.out.below (H1.out.2.trans (hb2.mono H1.out.2.size))
  have kd2 : w2.cell? ⟨bx, 0, none⟩ = some (.pointer (some ⟨lb, 0, none⟩)) ∧ w2.cell? ⟨lb, 0, none⟩ = some (.pointer (some ⟨db, 0, none⟩)) ∧ w2.cell? ⟨lb, 7, none⟩ = some (.string left) ∧ w2.cell? ⟨nm, 0, none⟩ = some (.string s) := ⟨hw2.b, hw2.l, hw2.l7, hw2.n⟩
  obtain ⟨sg, hsg⟩ : ∃ sg, segN L.dir n = sg := ⟨_, rfl⟩
  have hsgs : sg.size ≤ 140737488351232 := by rw [← hsg, ba_size, segN_list, List.length_append, List.length_append, hexF_len, ← ba_size]; simp; omega
  rw [hsg]
  have H2 := Lib.hid (And.intro hb02 hd2)
  clear hw2 hb2 hb02 hd2 kd1 hl1
  refine hK.out _ _ kd2 (fun hH => ?_)
  clear hK K
  try simp only [Act.put, List.setIfInBounds_toArray, List.set_cons_zero, List.set_cons_succ]
  refine wpAnyK_one (i := 9) (by kernel_rfl) rfl (fun K hK => ?_) (by kernel_rfl)
  go_simp
  go_at_call 74
  with_reducible refine (rename_any H2.out.2 hon ha s sg hs hsgs).mono ?_
  rintro e w3 ⟨rfl, hd3, ht3⟩
  have kd3 : w3.cell? ⟨bx, 0, none⟩ = some (.pointer (some ⟨lb, 0, none⟩)) ∧ w3.cell? ⟨lb, 0, none⟩ = some (.pointer (some ⟨db, 0, none⟩)) ∧ w3.cell? ⟨lb, 7, none⟩ = some (.string left) ∧ w3.cell? ⟨nm, 0, none⟩ = some (.string s) := ⟨ht3.cell kd2.1 HW.out.1.nb, ht3.cell kd2.2.1 HW.out.1.nl, ht3.cell kd2.2.2.1 HW.out.1.nl, ht3.cell kd2.2.2.2 HW.out.1.nn⟩
  have H3 := Lib.hid (And.intro hd3 ht3)
  clear hd3 ht3
  refine hK.out _ _ kd3 (fun hH => ?_)
  clear hK K
  try simp only [Act.put, List.setIfInBounds_toArray, List.set_cons_zero, List.set_cons_succ]
  refine wpAnyK_last (by kernel_rfl) rfl (fun K hK => ?_) (by kernel_rfl)
  go_simp
  refine hK.out _ _ (wpAnyK_done (by kernel_rfl) ?_ _)
  clear hK K hH
  clear kd kd3 kd2
  go_wp2_with fail
  go_ret
  rw [hsg]
  exact ⟨rfl, H3.out.1, (Tn.ofBelow H2.out.1).trans H3.out.2⟩


/-- What firstOf answers: nothing, and it is where the last one leads; or the first error. -/
def FirstE (I : World → Prop) (J : Int → World → Prop) (e : Ending) (w' : World) : Prop := ∃ k : Int, e = .returned (.int .i64 k) ∧ ((k = 0 ∧ I w') ∨ (k ≠ 0 ∧ J k w'))
set_option maxHeartbeats 1000000 in
theorem firstOf_any {n b : Nat} {c : Nat} {fk : Nat → FuncId} {caps : Nat → Array Value} (hn : n ≤ 100) (I : Nat → World → Prop) (J : Int → World → Prop)
    (eg : ∀ i, i < n → ∀ args w, (callFunc (fk i) args).run Tryz.prog w = .ok (.enter (fk i) args) w)
    (hrd : ∀ i wr, I i wr → ∀ j, j < n → wr.cell? ⟨b, j, none⟩ = some (.func (.func (fk j)) #[] (caps j)))
    (hdo : ∀ i, i < n → ∀ wr, I i wr → Calls Tryz.prog (fk i) (caps i) wr (FirstE (I (i + 1)) J)) (h0 : I 0 w) :
    Calls Tryz.prog 68 #[.slice (some ⟨b, 0, none⟩) n c] w (FirstE (I n) J) := by
  have H := Lib.hid (And.intro eg (And.intro hrd hdo))
  clear eg hrd hdo
  go_enter Tryz.func68, Tryz.ntmps68
  go_wp2
  go_loopw [4, 5, 8] (fun _ _ y wr => ∃ i : Nat, i ≤ n ∧ y = .int .i64 (i : Int) ∧ I i wr) (fun _ _ y _ => n - (intOf y).toNat)
  case atStart => exact ⟨0, by omega, rfl, h0⟩
  case round =>
    obtain ⟨i, hi, rfl, hI⟩ := hrel
    clear h0
    have HI := Lib.hid hI
    by_cases hlt : i < n
    · have d1 := H.out.2.1 i wr hI i hlt
      have eg1 := H.out.1 i hlt
      obtain ⟨fi, hfi⟩ : ∃ fi, fk i = fi := ⟨_, rfl⟩
      obtain ⟨ci, hci⟩ : ∃ ci, caps i = ci := ⟨_, rfl⟩
      have hc := H.out.2.2 i hlt wr hI
      rw [hfi, hci] at hc d1
      rw [hfi] at eg1
      have r1 : (i : Int) < (n : Int) := by omega
      have HC := Lib.hid hc
      clear hc hfi hci hI
      go_wp2_with fail
      refine HC.out.mono ?_
      rintro e w2 ⟨k, rfl, hk⟩
      rcases hk with ⟨rfl, hk⟩ | ⟨hk0, hk⟩
      · clear eg1 d1
        have HK := Lib.hid hk
        clear hk
        go_wp2
        go_roundw
        case rel => exact ⟨i + 1, by omega, by go_num, HK.out⟩
        case measure => simp [intOf]; omega
      · clear eg1 d1
        have t1 : (k != 0) = true := by simpa using hk0
        have HK := Lib.hid (And.intro hk0 hk)
        clear hk hk0
        go_wp2
        go_ret
        exact ⟨k, rfl, .inr HK.out⟩
    · obtain rfl : i = n := by omega
      clear hI
      go_wp2
      go_ret
      exact ⟨0, rfl, .inl ⟨rfl, HI.out⟩⟩
end Go.Proofs.YtohigcpcbonaeaaGreatDoor
