/-
  Disk: Read, Restore, Quota, Fuse, Acts, Twin.
-/
import Derived.Test.YtjhajlfkiafhgaaDoorDkN
import Derived.Test.YtjhajlfkiafhgaaDoorGen
import Derived.Test.YtjhajlfkiafhgaaDoorShelf
import Derived.WalkSpells
namespace Go.Proofs.YtjhajlfkiafhgaaDoor
open Go.RowKit
variable {F G : Nat → Prop} {w w' : World} {db mb : Nat} {D D' : Dk}

theorem rdT_at {w : World} {s : ByteArray} (hs : s.size ≤ 140737488351232) {o : Option Addr} {on : Bool} (h : OnAt w o on) : Calls Tryd.prog 28 #[.pointer o, .slice (some ⟨w.heap.size, 0, none⟩) 1 1] (w.alloc (.cells #[.string s] 9)) fun e w' =>
    e = .returned (.int .i64 (askE on [s])) ∧ Below w.heap.size w w' := by
  have h1 := asked_any (h.below ((Below.refl _ _).alloc (Nat.le_refl _) (.cells #[.string s] 9))) (rdT_one (w := w.alloc (.cells #[.string s] 9)) (b := w.heap.size) (s := s) (by simp [go_sem]) 1) (by simp) (fun x hx => by rw [List.mem_singleton] at hx; subst hx; omega)
  refine h1.mono ?_
  rintro e w' ⟨rfl, hb⟩
  exact ⟨rfl, ((Below.refl _ _).alloc (Nat.le_refl _) _).trans (hb.mono (by simp))⟩

set_option maxRecDepth 100000 in
set_option maxHeartbeats 2000000 in
theorem read_any (h : DkAt F w db mb D) (hon : D.on = true) (s : ByteArray) (hs : s.size ≤ 140737488351232) :
    Calls Tryd.prog 15 #[.pointer (some ⟨db, 0, none⟩), .string s] w fun e w' => e = .returned (.tuple #[.string (D.read s).1, .int .i64 (D.read s).2]) ∧ Below w.heap.size w w' := by
  have hask : D.asked [s] = askE true [s] := by unfold Dk.asked askE; rw [hon]
  have c1 := h.c1
  rw [hon] at c1
  have hlt := h.ltd
  have hA := rdT_at (w := w) hs (o := some ⟨db, 0, none⟩) (on := true) (.inr ⟨db, rfl, c1⟩)
  have H := Lib.hid (And.intro h (And.intro hask hlt))
  clear h hon hask hlt c1
  cases hnm : nmB s
  · have he : askE true [s] = 21 := by simp [askE, hnm]
    rw [he] at hA
    have hres : D.read s = (ByteArray.empty, 21) := by
      unfold Dk.read
      rw [H.out.2.1, he, if_pos (by decide)]
    rw [hres]
    clear he hres hnm
    go_enter Tryd.func15, Tryd.ntmps15
    go_wp2_with (go_at_call 28; refine hA.mono ?_; rintro e w2 ⟨rfl, hb2⟩; have H2 := Lib.hid hb2; clear hb2)
    go_ret2
    exact ⟨rfl, H2.out⟩
  · have he : askE true [s] = 0 := by simp [askE, hnm]
    rw [he] at hA
    have hres : D.read s = match getL D.m s with | none => (ByteArray.empty, 22) | some f => (f.data, 0) := by
      unfold Dk.read
      rw [H.out.2.1, he, if_neg (by decide)]
      rfl
    have HE := Lib.hid (And.intro he hres)
    clear he hnm hres
    go_enter Tryd.func15, Tryd.ntmps15
    go_wp2_with (go_at_call 28; refine hA.mono ?_; rintro e w2 ⟨rfl, hb2⟩; have H2 := Lib.hid hb2; clear hb2 hA; have g3 := (H.out.1.below H2.out).c0)
    cases hg : getL D.m s with
    | none =>
      have hlk : (Instr.lookup 44 (.map (some mb)) (.string s) true).run Tryd.prog w2 = .ok (.tuple #[.agg #[.string ByteArray.empty, .int .i64 0], .bool false]) w2 := by
        have h5 := MapL.look (H.out.1.below H2.out).m keyN und_map (z := .agg #[.string ByteArray.empty, .int .i64 0]) (Tryd.zeroValue51 _) true s
        rw [hg] at h5
        exact h5
      have HL := Lib.hid (And.intro HE.out.2 hg)
      clear hg
      rw [hlk]
      go_simp
      go_wp2_with fail
      go_ret2
      have hr := HL.out.1
      rw [HL.out.2] at hr
      rw [hr]
      exact ⟨rfl, H2.out.trans (((Below.refl _ _).alloc (Nat.le_refl _) _).mono H2.out.size)⟩
    | some f =>
      have hlk : (Instr.lookup 44 (.map (some mb)) (.string s) true).run Tryd.prog w2 = .ok (.tuple #[.agg #[.string f.data, .int .i64 (f.syn : Int)], .bool true]) w2 := by
        have h5 := MapL.look (H.out.1.below H2.out).m keyN und_map (z := .agg #[.string ByteArray.empty, .int .i64 0]) (Tryd.zeroValue51 _) true s
        rw [hg] at h5
        exact h5
      have HL := Lib.hid (And.intro HE.out.2 hg)
      clear hg
      rw [hlk]
      go_simp
      go_wp2_with fail
      go_ret2
      have hr := HL.out.1
      rw [HL.out.2] at hr
      rw [hr]
      exact ⟨rfl, H2.out.trans (((Below.refl _ _).alloc (Nat.le_refl _) _).mono H2.out.size)⟩


set_option maxRecDepth 100000 in
theorem restore_any (h : DkAt F w db mb D) : Calls Tryd.prog 19 #[.pointer (some ⟨db, 0, none⟩)] w fun e w' => e = .returned (.tuple #[]) ∧ DkAt F w' db mb D.restore ∧ Tn (two db mb) w w' := by
  have c0 := h.c0
  have c1 := h.c1
  have hq : ∀ (w : World) (r : Option Nat), (binOp .neq 44 (.map r) (.map none)).run Tryd.prog w = .ok (.bool (!r.isNone)) w := fun w r => run_neq_map_nil w _ _ _ r und_map
  have f1 := h.fz 1
  have H := Lib.hid h
  clear h
  go_enter Tryd.func19, Tryd.ntmps19
  go_wp2_with fail
  go_end0
  exact ⟨rfl, H.out.set1 true, Tn.setCell _ _ _ (.inl rfl)⟩

set_option maxRecDepth 100000 in
theorem quota_any (h : DkAt F w db mb D) (n : Int) (hn : n ≤ 9223372036854775807) : Calls Tryd.prog 13 #[.pointer (some ⟨db, 0, none⟩), .int .i64 n] w fun e w' => e = .returned (.tuple #[]) ∧ DkAt F w' db mb (D.setQuota n) ∧ Tn (two db mb) w w' := by
  have c0 := h.c0
  have c2 := h.c2
  have hq : ∀ (w : World) (r : Option Nat), (binOp .neq 44 (.map r) (.map none)).run Tryd.prog w = .ok (.bool (!r.isNone)) w := fun w r => run_neq_map_nil w _ _ _ r und_map
  have f1 := h.fz 2
  have H := Lib.hid h
  clear h
  go_enter Tryd.func13, Tryd.ntmps13
  go_wp2_with fail
  go_end0
  exact ⟨rfl, H.out.set2 (n := max n (-1)) (by omega), Tn.setCell _ _ _ (.inl rfl)⟩

theorem acts_any (h : DkAt F w db mb D) : Calls Tryd.prog 27 #[.pointer (some ⟨db, 0, none⟩)] w fun e w' => e = .returned (.int .i64 (D.acts : Int)) ∧ w' = w := by
  have c4 := h.c4
  go_enter Tryd.func27, Tryd.ntmps27
  go_wp2_with fail
  go_ret
  exact ⟨rfl, rfl⟩

theorem rdC_own {B n : Nat} {v : Value} {l : List Int} (h : w.ownsRow B 3 1 v l.length (l.map (Value.int .i64))) {G : Nat → Prop} (hG : ∀ q, G q → q < B) : RdC G w v l := by
  obtain ⟨h1, ⟨rfl, h2⟩ | ⟨g, cap, cur, rfl, hB, hh, hn, hc, hz, ht⟩⟩ := h
  · have : l = [] := List.eq_nil_of_length_eq_zero h2
    subst this
    exact ⟨none, 0, rfl, .inl rfl⟩
  · refine ⟨some ⟨g, 0, none⟩, cap, rfl, .inr ⟨g, 0, rfl, fun hg => by have := hG g hg; omega, (Array.getElem?_eq_some_iff.1 hh).1, fun i hi => ?_⟩⟩
    have h3 : cur[0 + i]? = some (.int .i64 l[i]) := by
      have h4 : (cur.toList.take (l.length * 1))[i]? = some (.int .i64 l[i]) := by rw [ht]; simp [hi]
      rw [List.getElem?_take_of_lt (by omega)] at h4
      rw [Nat.zero_add, ← Array.getElem?_toList]
      exact h4
    exact (cell_of_row w g _ _ _ _ hh).trans h3
theorem cloneC {v : Value} {l : List Int} (h : RdC F w v l) (hl : l.length ≤ 1000000) : Calls Tryd.prog 43 #[v] w fun e w' =>
    ∃ v', e = .returned v' ∧ (∀ G : Nat → Prop, (∀ q, G q → q < w.heap.size) → RdC G w' v' l) ∧ Below w.heap.size w w' := by
  obtain ⟨a, c, rfl, h⟩ := h
  rcases h with rfl | ⟨b, off, rfl, hf, hlt, hc⟩
  · cases a with
    | none =>
      refine (Tryd.slices_Clone_int_nil _ c w).mono ?_
      rintro e w' ⟨rfl, rfl⟩
      exact ⟨_, rfl, fun G _ => ⟨none, 0, rfl, .inl rfl⟩, Below.refl _ _⟩
    | some a =>
      refine (Tryd.slices_Clone_int_zero a c w).mono ?_
      rintro e w' ⟨v', rfl, h1, h2, hb⟩
      exact ⟨_, rfl, fun G hG => rdC_own (n := 0) h1 hG, hb⟩
  · refine (Tryd.slices_Clone_int b off l.length c l w (Nat.le_refl _) (by omega) (fun j hj => by rw [hc j hj]; simp [hj])).mono ?_
    rintro e w' ⟨v', rfl, h1, h2, hb⟩
    rw [List.take_length] at h1
    exact ⟨_, rfl, fun G hG => rdC_own (n := 0) h1 hG, hb⟩

set_option maxRecDepth 100000 in
theorem fuse_any (h : DkAt F w db mb D) (n : Int) (hn : n ≤ 9223372036854775807) {v : Value} {cuts : List Int} (hr : RdC F w v cuts) (hl : cuts.length ≤ 1000000) (flip : Int) :
    Calls Tryd.prog 25 #[.pointer (some ⟨db, 0, none⟩), .int .i64 n, v, .int .i64 flip] w fun e w' => e = .returned (.tuple #[]) ∧ DkAt F w' db mb (D.setFuse n cuts flip) ∧ Tn (two db mb) w w' := by
  have hq : ∀ (w : World) (r : Option Nat), (binOp .eql 44 (.map r) (.map none)).run Tryd.prog w = .ok (.bool r.isNone) w := fun w r => run_eql_map_nil w _ _ _ r und_map
  obtain ⟨c3, k3, _⟩ := h.c3
  have c0 := h.c0
  have f1 := h.fz 3
  have h1 : DkAt F (w.setCell ⟨db, 3, none⟩ (.pointer none)) db mb { D with fuse := none } := h.set3 (z := none) rfl (fun _ e => by cases e)
  have t1 : Tn (two db mb) w (w.setCell ⟨db, 3, none⟩ (.pointer none)) := Tn.setCell _ _ _ (.inl rfl)
  obtain ⟨w1, hw1⟩ : ∃ w1, w.setCell ⟨db, 3, none⟩ (.pointer none) = w1 := ⟨_, rfl⟩
  rw [hw1] at h1 t1
  have hr1 := hr.tn t1 (fun q _ hq => two_F h q hq)
  by_cases h0 : 0 ≤ n
  · have hd : decide (0 ≤ n) = true := by simpa using h0
    have hC := cloneC hr1 hl
    have H := Lib.hid (And.intro h (And.intro h1 (And.intro t1 hl)))
    clear h h1 t1 hr hr1 hl
    go_enter Tryd.func25, Tryd.ntmps25
    go_wp2_with (go_at_call 43; refine hC.mono ?_; rintro e w2 ⟨v', rfl, hv', hb2⟩; obtain ⟨a1, c1, rfl, _⟩ := hv' F (fun q hq => H.out.2.1.lt q hq); have h2 := H.out.2.1.below hb2; obtain ⟨c3b, k3b, _⟩ := h2.c3; have f3b := h2.fz 3; have kA : ∀ x, (w2.alloc x).cell? ⟨db, 3, none⟩ = some c3b := fun x => (((Below.refl _ w2).alloc (Nat.le_refl _) x).cell (p := ⟨db, 3, none⟩) h2.ltd).trans k3b; have fA : ∀ x, (w2.alloc x).frozen? ⟨db, 3, none⟩ = false := fun x => (h2.below ((Below.refl _ w2).alloc (Nat.le_refl _) x)).fz 3; have H2 := Lib.hid (And.intro h2 (And.intro (fun w' (hb : Below w2.heap.size w2 w') => (hv' F (fun q hq => H.out.2.1.lt q hq)).tn (Tn.ofBelow (F := fun _ => False) hb) (fun _ _ e => e.elim)) hb2)); clear h2 hv' hb2 hC)
    go_end0
    obtain ⟨W4, hW4⟩ : ∃ W4, w2.alloc (.cells #[.int .i64 n, .slice a1 cuts.length c1, .int .i64 flip] 66) = W4 := ⟨_, rfl⟩
    rw [hW4]
    have b4 : Below w2.heap.size w2 W4 := by rw [← hW4]; exact (Below.refl _ _).alloc (Nat.le_refl _) _
    have z4 : W4.heap.size = w2.heap.size + 1 := by rw [← hW4]; simp
    have c40 : W4.cell? ⟨w2.heap.size, 0, none⟩ = some (.int .i64 n) := by rw [← hW4]; simp [go_sem]
    have c41 : W4.cell? ⟨w2.heap.size, 1, none⟩ = some (.slice a1 cuts.length c1) := by rw [← hW4]; simp [go_sem]
    have c42 : W4.cell? ⟨w2.heap.size, 2, none⟩ = some (.int .i64 flip) := by rw [← hW4]; simp [go_sem]
    have h4 := H2.out.1.below b4
    have t5 : Tn (two db mb) W4 (W4.setCell ⟨db, 3, none⟩ (.pointer (some ⟨w2.heap.size, 0, none⟩))) := Tn.setCell _ _ _ (.inl rfl)
    have nF : ¬ F w2.heap.size := fun hf => by have := H2.out.1.lt _ hf; omega
    have n2 : ¬ two db mb w2.heap.size := fun h2 => nF (two_F H.out.1 _ h2)
    have hn0 : n = (n.toNat : Int) := by omega
    have hz : FzAt F (W4.setCell ⟨db, 3, none⟩ (.pointer (some ⟨w2.heap.size, 0, none⟩))) (some ⟨n.toNat, cuts, flip⟩) (.pointer (some ⟨w2.heap.size, 0, none⟩)) :=
      ⟨w2.heap.size, .slice a1 cuts.length c1, rfl, nF, by simp [z4], t5.cell (by rw [c40]; exact congrArg (fun n => some (Value.int .i64 n)) hn0) n2, t5.cell c41 n2, t5.cell c42 n2, (H2.out.2.1 W4 b4).tn t5 (fun q _ hq => two_F H.out.1 q hq)⟩
    have hfin := h4.set3 hz (fun y e => by
      injection e with e
      subst e
      exact ⟨by show n.toNat ≤ _; omega, H.out.2.2.2⟩)
    have he : D.setFuse n cuts flip = { ({ D with fuse := none } : Dk) with fuse := some ⟨n.toNat, cuts, flip⟩ } := by unfold Dk.setFuse; rw [if_pos h0]
    rw [he]
    refine ⟨rfl, hfin, H.out.2.2.1.trans (((Tn.ofBelow (F := two db mb) H2.out.2.2).trans (Tn.ofBelow b4)).trans t5)⟩
  · have hd : decide (0 ≤ n) = false := by simpa using h0
    have H := Lib.hid (And.intro h (And.intro h1 t1))
    clear h h1 t1 hr hr1 hl
    go_enter Tryd.func25, Tryd.ntmps25
    go_wp2_with fail
    go_end0
    have he : D.setFuse n cuts flip = { D with fuse := none } := by unfold Dk.setFuse; rw [if_neg (by omega)]
    rw [he]
    exact ⟨rfl, H.out.2.1, H.out.2.2⟩

/-- A twin, and the disk it is one of; both beside one another. -/
theorem twin_any (h : DkAt F w db mb D) : Calls Tryd.prog 24 #[.pointer (some ⟨db, 0, none⟩)] w fun e w' => e = .returned (.pointer (some ⟨w.heap.size, 0, none⟩)) ∧
    DkAt (fun q => F q ∨ two w.heap.size (w.heap.size + 1) q) w' w.heap.size (w.heap.size + 1) D ∧ DkAt (fun q => F q ∨ two w.heap.size (w.heap.size + 1) q) w' db mb D ∧ Below w.heap.size w w' ∧ w'.heap.size = w.heap.size + 2 := by
  obtain ⟨c3, k3, z3⟩ := h.c3
  have c0 := h.c0
  have c1 := h.c1
  have c2 := h.c2
  have c4 := h.c4
  obtain ⟨o3, rfl⟩ : ∃ o, c3 = .pointer o := by
    revert z3
    cases D.fuse with
    | none => exact fun e => ⟨_, e⟩
    | some z => exact fun ⟨fb, v, e, _⟩ => ⟨_, e⟩
  obtain ⟨es, clock, e1, e2, e3⟩ := h.m
  have hltm := h.m.lt
  have kA : ∀ x, (w.alloc x).cell? ⟨db, 0, none⟩ = some (.map (some mb)) := fun x => (((Below.refl _ w).alloc (Nat.le_refl _) x).cell (p := ⟨db, 0, none⟩) h.ltd).trans c0
  have hM : ∀ x, (w.alloc x).heap[mb]? = some (.map es clock) := fun x => (Below.heap_alloc _ _ mb hltm).trans e1
  have H := Lib.hid (And.intro h (And.intro e2 (And.intro e3 z3)))
  clear h e1 e2 e3 hltm z3
  go_enter Tryd.func24, Tryd.ntmps24
  go_wp2_with (go_at_call 42; refine (AnyW.maps_Clone Tryd.gl_clone mb es clock _ (hM _)).mono ?_; rintro e w2 ⟨rfl, rfl⟩)
  go_ret
  have hb : Below w.heap.size w ((w.alloc (.cells #[.map (some (w.heap.size + 1)), .bool D.on, .int .i64 D.quota, .pointer o3, .int .i64 (D.acts : Int)] 47)).alloc (.map es clock)) := ((Below.refl _ _).alloc (Nat.le_refl _) _).alloc (by simp) _
  have hG : ∀ q, (F q ∨ two w.heap.size (w.heap.size + 1) q) → q < ((w.alloc (.cells #[.map (some (w.heap.size + 1)), .bool D.on, .int .i64 D.quota, .pointer o3, .int .i64 (D.acts : Int)] 47)).alloc (.map es clock)).heap.size := by
    rintro q (hq | rfl | rfl)
    · have := H.out.1.lt q hq; simp; omega
    · simp; omega
    · simp
  have hm : DkAt (fun q => F q ∨ two w.heap.size (w.heap.size + 1) q) ((w.alloc (.cells #[.map (some (w.heap.size + 1)), .bool D.on, .int .i64 D.quota, .pointer o3, .int .i64 (D.acts : Int)] 47)).alloc (.map es clock)) db mb D :=
    H.out.1.more (fun q hq => .inl hq) (fun q hq => hq.imp id (fun h => by rcases h with rfl | rfl <;> omega)) hG hb
  refine ⟨rfl, ⟨by simp [go_sem], by simp [go_sem], by simp [go_sem], ⟨.pointer o3, by simp [go_sem], ?_⟩, by simp [go_sem], ⟨es, clock, ?_, H.out.2.1, H.out.2.2.1⟩, fun j => by simp [go_sem], H.out.1.ok, by omega, .inr (.inl rfl), .inr (.inr rfl), hG⟩, hm, hb, by simp⟩
  · obtain ⟨p, hp, hz⟩ := hm.c3
    have e := (hb.cell (p := ⟨db, 3, none⟩) H.out.1.ltd).trans k3
    rw [e] at hp
    injection hp with hp
    subst hp
    exact hz
  · have := heap_alloc_new (w.alloc (.cells #[.map (some (w.heap.size + 1)), .bool D.on, .int .i64 D.quota, .pointer o3, .int .i64 (D.acts : Int)] 47)) (.map es clock)
    simpa using this
end Go.Proofs.YtjhajlfkiafhgaaDoor
