import Derived.Test.YtohigcpcbonaeaaGreatDoorWm6
set_option linter.unusedSimpArgs false
set_option linter.unusedVariables false
/-
  Wal: the walks of write, mended.
-/
namespace Go.Proofs.YtohigcpcbonaeaaGreatDoor
open Go.RowKit
variable {G F : Nat → Prop} {w w' : World} {lb mp db mb bx nm : Nat} {L : Lg} {D : Dk} {s : ByteArray}

def wrF : Nat → FuncId
  | 0 => 69
  | 1 => 70
  | 2 => 71
  | 3 => 72
  | _ => 73
theorem wrF_enters : ∀ i, i < 5 → ∀ args w, (callFunc (wrF i) args).run Tryz.prog w = .ok (.enter (wrF i) args) w
  | 0, _ => enters_of Tryz.func69 (by kernel_rfl) rfl
  | 1, _ => enters_of Tryz.func70 (by kernel_rfl) rfl
  | 2, _ => enters_of Tryz.func71 (by kernel_rfl) rfl
  | 3, _ => enters_of Tryz.func72 (by kernel_rfl) rfl
  | 4, _ => enters_of Tryz.func73 (by kernel_rfl) rfl
  | n + 5, h => by omega
theorem noneOk_zero {k : Int} : noneOk k = 0 ↔ ¬ (k ≠ 0 ∧ k ≠ 22) := by
  unfold noneOk
  split <;> omega
/-- What write's acts are. -/
structure WrC (L : Lg) (D : Dk) (s sg : ByteArray) (r1 r2 r3 r4 r5 : Int × Dk) : Prop where
  h1 : D.remove s = r1
  h2 : r1.2.create s = r2
  h3 : r2.2.app s L.left = r3
  h4 : r3.2.sync s = r4
  h5 : r4.2.rename s sg = r5
  w : L.write D = if r1.1 ≠ 0 ∧ r1.1 ≠ 22 then r1 else if r2.1 ≠ 0 then r2 else if r3.1 ≠ 0 then r3 else if r4.1 ≠ 0 then r4 else r5
theorem wrC (L : Lg) (D : Dk) : ∃ r1 r2 r3 r4 r5, WrC L D (mendN L.dir) (segZ L.dir L.last) r1 r2 r3 r4 r5 := ⟨_, _, _, _, _, rfl, rfl, rfl, rfl, rfl, rfl⟩
def wrI (F : Nat → Prop) (db mb : Nat) (W : World) (D : Dk) (r1 r2 r3 r4 r5 : Int × Dk) : Nat → World → Prop
  | 0, wr => Tn (two db mb) W wr ∧ DkAt F wr db mb D
  | 1, wr => Tn (two db mb) W wr ∧ DkAt F wr db mb r1.2 ∧ noneOk r1.1 = 0
  | 2, wr => Tn (two db mb) W wr ∧ DkAt F wr db mb r2.2 ∧ noneOk r1.1 = 0 ∧ r2.1 = 0
  | 3, wr => Tn (two db mb) W wr ∧ DkAt F wr db mb r3.2 ∧ noneOk r1.1 = 0 ∧ r2.1 = 0 ∧ r3.1 = 0
  | 4, wr => Tn (two db mb) W wr ∧ DkAt F wr db mb r4.2 ∧ noneOk r1.1 = 0 ∧ r2.1 = 0 ∧ r3.1 = 0 ∧ r4.1 = 0
  | _, wr => Tn (two db mb) W wr ∧ DkAt F wr db mb r5.2 ∧ noneOk r1.1 = 0 ∧ r2.1 = 0 ∧ r3.1 = 0 ∧ r4.1 = 0 ∧ r5.1 = 0
theorem wrI_tn {W wr : World} {r1 r2 r3 r4 r5 : Int × Dk} : ∀ {i}, wrI F db mb W D r1 r2 r3 r4 r5 i wr → Tn (two db mb) W wr
  | 0, h => h.1
  | 1, h => h.1
  | 2, h => h.1
  | 3, h => h.1
  | 4, h => h.1
  | _ + 5, h => h.1
def wrJ (F : Nat → Prop) (db mb : Nat) (W : World) (L : Lg) (D : Dk) (k : Int) (wr : World) : Prop := k = (L.write D).1 ∧ Tn (two db mb) W wr ∧ DkAt F wr db mb (L.write D).2

set_option maxHeartbeats 1000000 in
theorem w_acts {W : World} {b c : Nat} {n : Nat} {r1 r2 r3 r4 r5 : Int × Dk} (hc : WrC L D (mendN L.dir) (segN L.dir n) r1 r2 r3 r4 r5) (hw : Wr W bx nm lb db mb (mendN L.dir) L.left) (hd : DkAt F W db mb D) (hlo : LoAt G W lb mp db L) (hG : ∀ q, G q → ¬ two db mb q)
    (hon : D.on = true) (ha : D.acts + 10 ≤ 1000000) (hn : n < 4294967296) (hlast : L.last = (n : Int)) (hd40 : L.dir.size ≤ 40) (hleft : L.left.size ≤ 140737488351232)
    (hb : ∀ j, j < 5 → W.cell? ⟨b, j, none⟩ = some (.func (.func (wrF j)) #[] #[.pointer (some ⟨bx, 0, none⟩), .pointer (some ⟨nm, 0, none⟩)])) (hnb : ¬ two db mb b) :
    Calls Tryz.prog 68 #[.slice (some ⟨b, 0, none⟩) 5 c] W fun e w' => e = .returned (.int .i64 (L.write D).1) ∧ DkAt F w' db mb (L.write D).2 ∧ Tn (two db mb) W w' := by
  have hs : (mendN L.dir).size ≤ 140737488351232 := by rw [ba_size, mendN_list, List.length_append, ← ba_size]; simp; omega
  have g1 := remove_on D hon (mendN L.dir)
  rw [hc.h1] at g1
  have p1 : noneOk r1.1 = 0 → r1.2.on = true ∧ r1.2.acts ≤ D.acts + 1 := fun h => g1.go (by have := noneOk_zero.1 h; omega)
  have p2 : noneOk r1.1 = 0 → r2.1 = 0 → r2.2.on = true ∧ r2.2.acts ≤ D.acts + 2 := fun h h2 => by
    have g2 := create_on r1.2 (p1 h).1 (mendN L.dir)
    rw [hc.h2] at g2
    have hgo := g2.go (by omega)
    have := (p1 h).2
    exact ⟨hgo.1, by omega⟩
  have p3 : noneOk r1.1 = 0 → r2.1 = 0 → r3.1 = 0 → r3.2.on = true ∧ r3.2.acts ≤ D.acts + 3 := fun h h2 h3 => by
    have g2 := app_on r2.2 (p2 h h2).1 (mendN L.dir) L.left
    rw [hc.h3] at g2
    have hgo := g2.go (by omega)
    have := (p2 h h2).2
    exact ⟨hgo.1, by omega⟩
  have p4 : noneOk r1.1 = 0 → r2.1 = 0 → r3.1 = 0 → r4.1 = 0 → r4.2.on = true ∧ r4.2.acts ≤ D.acts + 4 := fun h h2 h3 h4 => by
    have g2 := sync_on r3.2 (p3 h h2 h3).1 (mendN L.dir)
    rw [hc.h4] at g2
    have hgo := g2.go (by omega)
    have := (p3 h h2 h3).2
    exact ⟨hgo.1, by omega⟩
  refine (firstOf_any (n := 5) (fk := wrF) (caps := fun _ => #[.pointer (some ⟨bx, 0, none⟩), .pointer (some ⟨nm, 0, none⟩)]) (by omega) (wrI F db mb W D r1 r2 r3 r4 r5) (wrJ F db mb W L D) wrF_enters ?_ ?_ ⟨Tn.refl _ _, hd⟩).mono ?_
  · intro i wr hI j hj
    exact (wrI_tn hI).cell (hb j hj) hnb
  · intro i hi wr hI
    match i, hi, hI with
    | 0, _, hI =>
      refine (w_wr1 (hw.tn hI.1) hI.2 hon (by omega) hs).mono ?_
      rintro e w' ⟨rfl, hd', ht'⟩
      rw [hc.h1] at hd' ⊢
      refine ⟨_, rfl, ?_⟩
      by_cases h : noneOk r1.1 = 0
      · exact .inl ⟨h, hI.1.trans ht', hd', h⟩
      · refine .inr ⟨h, ?_⟩
        have h2 : r1.1 ≠ 0 ∧ r1.1 ≠ 22 := Decidable.not_not.1 (fun hh => h (noneOk_zero.2 hh))
        unfold wrJ
        rw [hc.w, if_pos h2]
        exact ⟨if_neg h2.2, hI.1.trans ht', hd'⟩
    | 1, _, hI =>
      obtain ⟨t1, d1, k1⟩ := hI
      refine (w_wr2 (hw.tn t1) d1 (p1 k1).1 (by have := (p1 k1).2; omega) hs).mono ?_
      rintro e w' ⟨rfl, hd', ht'⟩
      rw [hc.h2] at hd' ⊢
      refine ⟨_, rfl, ?_⟩
      by_cases h : r2.1 = 0
      · exact .inl ⟨h, t1.trans ht', hd', k1, h⟩
      · refine .inr ⟨h, ?_⟩
        unfold wrJ
        rw [hc.w, if_neg (noneOk_zero.1 k1), if_pos h]
        exact ⟨rfl, t1.trans ht', hd'⟩
    | 2, _, hI =>
      obtain ⟨t1, d1, k1, k2⟩ := hI
      refine (w_wr3 (hw.tn t1) d1 (p2 k1 k2).1 (by have := (p2 k1 k2).2; omega) hs hleft).mono ?_
      rintro e w' ⟨rfl, hd', ht'⟩
      rw [hc.h3] at hd' ⊢
      refine ⟨_, rfl, ?_⟩
      by_cases h : r3.1 = 0
      · exact .inl ⟨h, t1.trans ht', hd', k1, k2, h⟩
      · refine .inr ⟨h, ?_⟩
        unfold wrJ
        rw [hc.w, if_neg (noneOk_zero.1 k1), if_neg (by omega), if_pos h]
        exact ⟨rfl, t1.trans ht', hd'⟩
    | 3, _, hI =>
      obtain ⟨t1, d1, k1, k2, k3⟩ := hI
      refine (w_wr4 (hw.tn t1) d1 (p3 k1 k2 k3).1 (by have := (p3 k1 k2 k3).2; omega) hs).mono ?_
      rintro e w' ⟨rfl, hd', ht'⟩
      rw [hc.h4] at hd' ⊢
      refine ⟨_, rfl, ?_⟩
      by_cases h : r4.1 = 0
      · exact .inl ⟨h, t1.trans ht', hd', k1, k2, k3, h⟩
      · refine .inr ⟨h, ?_⟩
        unfold wrJ
        rw [hc.w, if_neg (noneOk_zero.1 k1), if_neg (by omega), if_neg (by omega), if_pos h]
        exact ⟨rfl, t1.trans ht', hd'⟩
    | 4, _, hI =>
      obtain ⟨t1, d1, k1, k2, k3, k4⟩ := hI
      refine (w_wr5 (hw.tn t1) d1 (p4 k1 k2 k3 k4).1 (by have := (p4 k1 k2 k3 k4).2; omega) hs (hlo.tn t1 hG) hd40 hn hlast).mono ?_
      rintro e w' ⟨rfl, hd', ht'⟩
      rw [hc.h5] at hd' ⊢
      refine ⟨_, rfl, ?_⟩
      by_cases h : r5.1 = 0
      · exact .inl ⟨h, t1.trans ht', hd', k1, k2, k3, k4, h⟩
      · refine .inr ⟨h, ?_⟩
        unfold wrJ
        rw [hc.w, if_neg (noneOk_zero.1 k1), if_neg (by omega), if_neg (by omega), if_neg (by omega)]
        exact ⟨rfl, t1.trans ht', hd'⟩
  · rintro e w' ⟨k, rfl, h⟩
    rcases h with ⟨rfl, t1, d1, k1, k2, k3, k4, k5⟩ | ⟨_, rfl, t1, d1⟩
    · rw [hc.w, if_neg (noneOk_zero.1 k1), if_neg (by omega), if_neg (by omega), if_neg (by omega), k5]
      exact ⟨rfl, d1, t1⟩
    · exact ⟨rfl, d1, t1⟩

abbrev wrV (z : Nat) (i : FuncId) : Value := .func (.func i) #[] #[.pointer (some ⟨z, 0, none⟩), .pointer (some ⟨z + 1, 0, none⟩)]
theorem w_acts_at {W1 : World} {z : Nat} {n : Nat} (hlo : LoAt G w lb mp db L) (hd : DkAt F w db mb D) (hG : ∀ q, G q → ¬ two db mb q) (hon : D.on = true) (ha : D.acts + 10 ≤ 1000000) (hn : n < 4294967296) (hlast : L.last = (n : Int))
    (hz : z = w.heap.size) (hb : Below w.heap.size w W1) (k2 : W1.cell? ⟨z, 0, none⟩ = some (.pointer (some ⟨lb, 0, none⟩))) (hz1 : W1.heap.size = z + 1) {dir : ByteArray} (hdir : L.dir = dir) :
    Calls Tryz.prog 68 #[.slice (some ⟨z + 1 + 1, 0, none⟩) 5 5] ((W1.alloc (.cells #[.string (dir ++ tMend)] 9)).alloc (.cells #[wrV z 69, wrV z 70, wrV z 71, wrV z 72, wrV z 73] 34))
      fun e w' => e = .returned (.int .i64 (L.write D).1) ∧ DkAt F w' db mb (L.write D).2 ∧ Tn (two db mb) w w' := by
  subst hdir
  obtain ⟨W3, hW3⟩ : ∃ W3, (W1.alloc (.cells #[.string (L.dir ++ tMend)] 9)).alloc (.cells #[wrV z 69, wrV z 70, wrV z 71, wrV z 72, wrV z 73] 34) = W3 := ⟨_, rfl⟩
  rw [hW3]
  have hz2 : (W1.alloc (.cells #[.string (L.dir ++ tMend)] 9)).heap.size = z + 1 + 1 := by simp [hz1]
  have b13 : Below W1.heap.size W1 W3 := by rw [← hW3]; exact ((Below.refl _ _).alloc (Nat.le_refl _) _).alloc (by simp) _
  have b3 : Below w.heap.size w W3 := hb.trans (b13.mono hb.size)
  have hdl := hd.ltd
  have hml := hd.m.lt
  have hm := hlo
  obtain ⟨ms, hm⟩ := hm
  have gl := hG lb hm.gl
  have hlb := hm.lt lb hm.gl
  have q1 : W3.cell? ⟨z + 1, 0, none⟩ = some (.string (L.dir ++ tMend)) := by
    have h1 : (W1.alloc (.cells #[.string (L.dir ++ tMend)] 9)).cell? ⟨z + 1, 0, none⟩ = some (.string (L.dir ++ tMend)) := by rw [← hz1]; simp [go_sem]
    rw [← hW3]
    exact (((Below.refl _ _).alloc (Nat.le_refl _) _).cell (p := ⟨z + 1, 0, none⟩) (World.block_lt_of_cell? _ _ h1)).trans h1
  have q2 : ∀ j, j < 5 → W3.cell? ⟨z + 1 + 1, j, none⟩ = some (.func (.func (wrF j)) #[] #[.pointer (some ⟨z, 0, none⟩), .pointer (some ⟨z + 1, 0, none⟩)]) := by
    intro j hj
    rw [← hW3, ← hz2]
    match j, hj with
    | 0, _ => simp [go_sem, wrF]
    | 1, _ => simp [go_sem, wrF]
    | 2, _ => simp [go_sem, wrF]
    | 3, _ => simp [go_sem, wrF]
    | 4, _ => simp [go_sem, wrF]
  have nt : ∀ k, z ≤ k → ¬ two db mb k := fun k hk h => by rcases h with rfl | rfl <;> omega
  have hW : Wr W3 z (z + 1) lb db mb (mendN L.dir) L.left := ⟨(b13.cell (p := ⟨z, 0, none⟩) (by show z < _; omega)).trans k2, (b3.cell (p := ⟨lb, 0, none⟩) hlb).trans hm.c0, (b3.cell (p := ⟨lb, 7, none⟩) hlb).trans hm.c7, q1, nt _ (by omega), gl, nt _ (by omega)⟩
  have hs : segZ L.dir L.last = segN L.dir n := by unfold segZ; rw [hlast]; rfl
  obtain ⟨r1, r2, r3, r4, r5, hc⟩ := wrC L D
  rw [hs] at hc
  refine (w_acts hc hW (hd.below b3) (hlo.below b3) hG hon ha hn hlast hm.ok.dir (by have := hm.ok.left; omega) q2 (nt _ (by omega))).mono ?_
  rintro e w' ⟨he, h1, h2⟩
  exact ⟨he, h1, (Tn.ofBelow b3).trans h2⟩

set_option maxRecDepth 100000 in
set_option maxHeartbeats 2000000 in
theorem w_write (hlo : LoAt G w lb mp db L) (hd : DkAt F w db mb D) (hG : ∀ q, G q → ¬ two db mb q) (hon : D.on = true) (ha : D.acts + 10 ≤ 1000000) {n : Nat} (hn : n < 4294967296) (hlast : L.last = (n : Int)) :
    Calls Tryz.prog 37 #[.pointer (some ⟨lb, 0, none⟩)] w fun e w' => e = .returned (.int .i64 (L.write D).1) ∧ DkAt F w' db mb (L.write D).2 ∧ Tn (two db mb) w w' := by
  have hmf : ∀ (fn : Fn) (first cap : Array Value) (w : World), (Instr.makeFunc fn first cap).run Tryz.prog w = .ok (.func fn first cap) w := fun _ _ _ _ => rfl
  have hlo0 := hlo
  obtain ⟨ms, hm⟩ := hlo
  have c1 := hm.c1
  have hd40 := hm.ok.dir
  have hleft := hm.ok.left
  have gl := hG lb hm.gl
  have HL := Lib.hid (And.intro hlo0 (And.intro hd hm))
  have hdl := hd.ltd
  have hml := hd.m.lt
  clear hlo0 hd hm
  obtain ⟨dir, hdir⟩ : ∃ dir, L.dir = dir := ⟨_, rfl⟩
  rw [hdir] at c1 hd40
  have HD := Lib.hid hdir
  clear hdir
  have hlb := World.block_lt_of_cell? _ _ c1
  obtain ⟨W1, hW1⟩ : ∃ W1, w.alloc (.cells #[.pointer (some ⟨lb, 0, none⟩)] 27) = W1 := ⟨_, rfl⟩
  have b1 : Below w.heap.size w W1 := by rw [← hW1]; exact (Below.refl _ _).alloc (Nat.le_refl _) _
  have k1 : W1.cell? ⟨lb, 1, none⟩ = some (.string dir) := (b1.cell (p := ⟨lb, 1, none⟩) hlb).trans c1
  have k2 : W1.cell? ⟨w.heap.size, 0, none⟩ = some (.pointer (some ⟨lb, 0, none⟩)) := by rw [← hW1]; simp [go_sem]
  have hz1 : W1.heap.size = w.heap.size + 1 := by rw [← hW1]; simp
  have a1 : ¬ 9223372036854775807 < dir.size + 5 := by omega
  have B1 := Lib.hid b1
  clear b1 hlb
  go_enter Tryz.func37, Tryz.ntmps37
  go_wp2_with fail
  with_reducible refine (w_acts_at HL.out.1 HL.out.2.1 hG hon ha hn hlast rfl B1.out k2 hz1 HD.out).mono ?_
  rintro e w3 ⟨rfl, hd3, ht3⟩
  have H3 := Lib.hid (And.intro hd3 ht3)
  clear hd3 ht3 hW1 k1 k2
  go_wp2
  go_ret
  exact ⟨rfl, H3.out.1, H3.out.2⟩
end Go.Proofs.YtohigcpcbonaeaaGreatDoor
/-
  Wal: the walk of mended.
-/
namespace Go.Proofs.YtohigcpcbonaeaaGreatDoor
open Go.RowKit
variable {G F : Nat → Prop} {w w' : World} {lb mp db mb bx nm : Nat} {ms : List (Int × Sg)} {L L' : Lg} {D : Dk} {s : ByteArray}

theorem write_on (hon : D.on = true) (hk : (L.write D).1 ≠ 20) : (L.write D).2.on = true ∧ (L.write D).2.acts ≤ D.acts + 5 := by
  obtain ⟨r1, r2, r3, r4, r5, hc⟩ := wrC L D
  have g1 := remove_on D hon (mendN L.dir)
  rw [hc.h1] at g1
  rw [hc.w] at hk ⊢
  by_cases c1 : r1.1 ≠ 0 ∧ r1.1 ≠ 22
  · rw [if_pos c1] at hk ⊢
    have := g1.go hk
    exact ⟨this.1, by omega⟩
  · rw [if_neg c1] at hk ⊢
    have o1 := g1.go (by omega)
    have g2 := create_on r1.2 o1.1 (mendN L.dir)
    rw [hc.h2] at g2
    by_cases c2 : r2.1 ≠ 0
    · rw [if_pos c2] at hk ⊢
      have := g2.go hk
      exact ⟨this.1, by omega⟩
    · rw [if_neg c2] at hk ⊢
      have o2 := g2.go (by omega)
      have g3 := app_on r2.2 o2.1 (mendN L.dir) L.left
      rw [hc.h3] at g3
      by_cases c3 : r3.1 ≠ 0
      · rw [if_pos c3] at hk ⊢
        have := g3.go hk
        exact ⟨this.1, by omega⟩
      · rw [if_neg c3] at hk ⊢
        have o3 := g3.go (by omega)
        have g4 := sync_on r3.2 o3.1 (mendN L.dir)
        rw [hc.h4] at g4
        by_cases c4 : r4.1 ≠ 0
        · rw [if_pos c4] at hk ⊢
          have := g4.go hk
          exact ⟨this.1, by omega⟩
        · rw [if_neg c4] at hk ⊢
          have o4 := g4.go (by omega)
          have g5 := rename_on r4.2 o4.1 (mendN L.dir) (segZ L.dir L.last)
          rw [hc.h5] at g5
          have := g5.go hk
          exact ⟨this.1, by omega⟩

theorem LoM.upd (h : LoM G w lb mp db ms L) (ht : Tn (fun q => q = lb) w w') (c0 : w'.cell? ⟨lb, 0, none⟩ = some (.pointer (some ⟨db, 0, none⟩))) (c1 : w'.cell? ⟨lb, 1, none⟩ = some (.string L'.dir)) (c2 : w'.cell? ⟨lb, 2, none⟩ = some (.int .i64 L'.size)) (c3 : w'.cell? ⟨lb, 3, none⟩ = some (.map (some mp)))
    (c4 : w'.cell? ⟨lb, 4, none⟩ = some (.int .i64 L'.op)) (c5 : w'.cell? ⟨lb, 5, none⟩ = some (.int .i64 L'.long)) (c6 : w'.cell? ⟨lb, 6, none⟩ = some (.bool L'.torn)) (c7 : w'.cell? ⟨lb, 7, none⟩ = some (.string L'.left)) (fz : ∀ j, w'.frozen? ⟨lb, j, none⟩ = false) (hm : L'.m = L.m) (ok : L'.Ok) : LoM G w' lb mp db ms L' :=
  ⟨c0, c1, c2, c3, c4, c5, c6, c7, fz, h.mpl.tn ht (fun e => h.ne e.symm), hm.trans h.eq, fun p hp => ht.row (h.rows p hp) (fun q hq e => (h.off p hp q hq).1 e), h.sep, h.ne, h.off, h.gl, h.gm, h.gr, fun q hq => Nat.lt_of_lt_of_le (h.lt q hq) ht.size, ok⟩
theorem cell_sb {w : World} {b i j : Nat} {v u : Value} (h : w.cell? ⟨b, j, none⟩ = some u) (hij : i ≠ j) : (w.setCell ⟨b, i, none⟩ v).cell? ⟨b, j, none⟩ = some u := cell_set' h hij
/-- The log is mended. -/
theorem LoAt.mend (h : LoAt G w lb mp db L) : LoAt G ((w.setCell ⟨lb, 6, none⟩ (.bool false)).setCell ⟨lb, 7, none⟩ (.string ⟨#[]⟩)) lb mp db { L with torn := false, left := ByteArray.empty } := by
  obtain ⟨ms, h⟩ := h
  refine ⟨ms, h.upd ((Tn.setCell (F := fun q => q = lb) w ⟨lb, 6, none⟩ _ rfl).trans (Tn.setCell (F := fun q => q = lb) _ ⟨lb, 7, none⟩ _ rfl)) (cell_sb (cell_sb h.c0 (by omega)) (by omega)) (cell_sb (cell_sb h.c1 (by omega)) (by omega)) (cell_sb (cell_sb h.c2 (by omega)) (by omega)) (cell_sb (cell_sb h.c3 (by omega)) (by omega)) (cell_sb (cell_sb h.c4 (by omega)) (by omega)) (cell_sb (cell_sb h.c5 (by omega)) (by omega))
    (cell_sb (World.cell?_setCell_same _ _ _ h.c6) (by omega)) (World.cell?_setCell_same _ _ _ (cell_sb h.c7 (by omega))) (fun j => by rw [World.frozen?_setCell, World.frozen?_setCell]; exact h.fz j) rfl ⟨h.ok.dir, h.ok.key, h.ok.rise, h.ok.few, h.ok.recs, h.ok.op, h.ok.long, by simp, h.ok.size⟩⟩
theorem tn_two (t : Tn (two db mb) w w') : Tn (fun q => two db mb q ∨ G q) w w' := t.mono (fun _ h => .inl h)
/-- What an act on a log and its disk leaves. -/
def Both (G F : Nat → Prop) (w w' : World) (lb mp db mb : Nat) (e : Ending) (r : Int × Dk × Lg) : Prop :=
  e = .returned (.int .i64 r.1) ∧ DkAt F w' db mb r.2.1 ∧ LoAt G w' lb mp db r.2.2 ∧ Tn (fun q => two db mb q ∨ G q) w w'
set_option maxRecDepth 100000 in
set_option maxHeartbeats 2000000 in
theorem w_mended (hlo : LoAt G w lb mp db L) (hd : DkAt F w db mb D) (hG : ∀ q, G q → F q ∧ ¬ two db mb q) (hon : D.on = true) (ha : D.acts + 20 ≤ 1000000) {n : Nat} (hn : n < 4294967296) (hlast : L.last = (n : Int)) :
    Calls Tryz.prog 19 #[.pointer (some ⟨lb, 0, none⟩)] w fun e w' => Both G F w w' lb mp db mb e (L.mended D) := by
  have hlo0 := hlo
  obtain ⟨ms, hm⟩ := hlo
  have c6 := hm.c6
  have HL := Lib.hid (And.intro hlo0 (And.intro hd (And.intro hG hm)))
  have hd40 := hm.ok.dir
  by_cases ht : L.torn = true
  · rw [ht] at c6
    obtain ⟨r, hr⟩ : ∃ r, L.write D = r := ⟨_, rfl⟩
    have hw := w_write hlo0 hd (fun q hq => (hG q hq).2) hon (by omega) hn hlast
    rw [hr] at hw
    have hwo := write_on (L := L) hon
    rw [hr] at hwo
    obtain ⟨k, D1⟩ := r
    simp only at hw hwo
    have HT := Lib.hid (And.intro ht (And.intro hr hwo))
    have HW := Lib.hid hw
    clear hlo0 hm hd hG ht hr hw hwo
    go_enter Tryz.func19, Tryz.ntmps19
    go_wp2_with fail
    refine HW.out.mono ?_
    rintro e w1 ⟨rfl, hd1, ht1⟩
    have hl1 := HL.out.1.tn ht1 (fun q hq h => (HL.out.2.2.1 q hq).2 h)
    have H1 := Lib.hid (And.intro hd1 (And.intro hl1 ht1))
    have q0 : w1.cell? ⟨lb, 0, none⟩ = some (.pointer (some ⟨db, 0, none⟩)) := by obtain ⟨ms1, hm1⟩ := hl1; exact hm1.c0
    have q1 : w1.cell? ⟨lb, 1, none⟩ = some (.string L.dir) := by obtain ⟨ms1, hm1⟩ := hl1; exact hm1.c1
    have f6 : w1.frozen? ⟨lb, 6, none⟩ = false := by obtain ⟨ms1, hm1⟩ := hl1; exact hm1.fz 6
    have f7 : w1.frozen? ⟨lb, 7, none⟩ = false := by obtain ⟨ms1, hm1⟩ := hl1; exact hm1.fz 7
    have q6 : w1.cell? ⟨lb, 6, none⟩ = some (.bool true) := by obtain ⟨ms1, hm1⟩ := hl1; rw [← HT.out.1]; exact hm1.c6
    have q7 : w1.cell? ⟨lb, 7, none⟩ = some (.string L.left) := by obtain ⟨ms1, hm1⟩ := hl1; exact hm1.c7
    have gl := HL.out.2.2.1 lb HL.out.2.2.2.gl
    clear hd1 hl1 ht1 c6
    by_cases h24 : k = 24
    · subst h24
      have hon1 := (HT.out.2.2 (by decide)).1
      have ha1 : D1.acts < 1000000 := by have := (HT.out.2.2 (by decide)).2; omega
      obtain ⟨f, hf⟩ : ∃ f, D1.remove (mendN L.dir) = f := ⟨_, rfl⟩
      have hR : ∀ W, DkAt F W db mb D1 → Calls Tryz.prog 38 #[.pointer (some ⟨db, 0, none⟩), .string (L.dir ++ tMend)] W fun e w' => e = .returned (.int .i64 f.1) ∧ DkAt F w' db mb f.2 ∧ Tn (two db mb) W w' := fun W hW => by
        have := remove_any hW hon1 ha1 (mendN L.dir) (by rw [ba_size, mendN_list, List.length_append, ← ba_size]; simp; omega)
        rw [hf] at this
        exact this
      obtain ⟨kf, Df⟩ := f
      simp only at hR
      have hmend : L.mended D = if kf = 20 then (20, Df, L) else (24, Df, L) := by
        unfold Lg.mended
        rw [if_neg (by rw [HT.out.1]; decide), HT.out.2.1]
        simp only [if_true, hf]
      have HM := Lib.hid hmend
      have HR := Lib.hid hR
      have hdl := H1.out.1.below (Below.refl _ _).drew
      obtain ⟨dir, hdir⟩ : ∃ dir, L.dir = dir := ⟨_, rfl⟩
      rw [hdir] at q1 hd40 hR
      have HD := Lib.hid (And.intro hdir (And.intro hR hdl))
      have a1 : ¬ 9223372036854775807 < dir.size + 5 := by omega
      clear hR hmend hf hdir hdl
      go_wp2_with fail
      refine wp_region_K (fun w' => w'.cell? ⟨lb, 0, none⟩ = some (.pointer (some ⟨db, 0, none⟩)) ∧ w'.cell? ⟨lb, 1, none⟩ = some (.string dir)) 10 11 (by kernel_rfl) (by kernel_rfl) ⟨q0, q1⟩ (fun hH => ?_)
      refine wpAnyK_take (i := 0) [10] (v := ?v1) rfl (by kernel_rfl) (by kernel_rfl) (by kernel_rfl) (by kernel_rfl) (fun _ _ _ h => h) (Or.inl ⟨by rfl, ?hy1⟩) hH ?rest1
      case hy1 => (intro w hSw; (try dsimp only at hSw); go_simp; with_reducible rfl)
      try simp only [Act.put, List.setIfInBounds_toArray, List.set_cons_zero, List.set_cons_succ]
      refine wpAnyK_take (i := 1) [10] (v := ?v2) rfl (by kernel_rfl) (by kernel_rfl) (by kernel_rfl) (by kernel_rfl) (fun _ _ _ h => h) (Or.inl ⟨by rfl, ?hy2⟩) hH ?rest2
      case hy2 => (intro w hSw; (try dsimp only at hSw); go_simp; with_reducible rfl)
      try simp only [Act.put, List.setIfInBounds_toArray, List.set_cons_zero, List.set_cons_succ]
      refine wpAnyK_take (i := 2) [10] (v := ?v3) rfl (by kernel_rfl) (by kernel_rfl) (by kernel_rfl) (by kernel_rfl) (fun _ _ _ h => h) (Or.inl ⟨by rfl, ?hy3⟩) hH ?rest3
      case hy3 => (intro w hSw; (try dsimp only at hSw); go_simp; with_reducible rfl)
      try simp only [Act.put, List.setIfInBounds_toArray, List.set_cons_zero, List.set_cons_succ]
      refine wpAnyK_take (i := 3) [10] (v := ?v4) rfl (by kernel_rfl) (by kernel_rfl) (by kernel_rfl) (by kernel_rfl) (fun _ _ _ h => h) (Or.inl ⟨by rfl, ?hy4⟩) hH ?rest4
      case hy4 => (intro w hSw; (try dsimp only at hSw); go_simp; with_reducible rfl)
      try simp only [Act.put, List.setIfInBounds_toArray, List.set_cons_zero, List.set_cons_succ]
      refine wpAnyK_take (i := 4) [10] (v := ?v5) rfl (by kernel_rfl) (by kernel_rfl) (by kernel_rfl) (by kernel_rfl) (fun _ _ _ h => h) (Or.inl ⟨by rfl, ?hy5⟩) hH ?rest5
      case hy5 => (intro w hSw; (try dsimp only at hSw); go_simp; with_reducible rfl)
      try simp only [Act.put, List.setIfInBounds_toArray, List.set_cons_zero, List.set_cons_succ]
      refine wpAnyK_take (i := 5) [10] (v := ?v6) rfl (by kernel_rfl) (by kernel_rfl) (by kernel_rfl) (by kernel_rfl) (fun _ _ _ h => h) (Or.inl ⟨by rfl, ?hy6⟩) hH ?rest6
      case hy6 => (intro w hSw; (try dsimp only at hSw); go_simp; with_reducible rfl)
      try simp only [Act.put, List.setIfInBounds_toArray, List.set_cons_zero, List.set_cons_succ]
      refine wpAnyK_take (i := 6) [10] (v := ?v7) rfl (by kernel_rfl) (by kernel_rfl) (by kernel_rfl) (by kernel_rfl) (fun _ _ _ h => h) (Or.inl ⟨by rfl, ?hy7⟩) hH ?rest7
      case hy7 => (intro w hSw; (try dsimp only at hSw); go_simp; with_reducible rfl)
      try simp only [Act.put, List.setIfInBounds_toArray, List.set_cons_zero, List.set_cons_succ]
      refine wpAnyK_take (i := 7) [10] (v := ?v8) rfl (by kernel_rfl) (by kernel_rfl) (by kernel_rfl) (by kernel_rfl) (fun _ _ _ h => h) (Or.inl ⟨by rfl, ?hy8⟩) hH ?rest8
      case hy8 => (intro w hSw; (try dsimp only at hSw); go_simp; with_reducible rfl)
      try simp only [Act.put, List.setIfInBounds_toArray, List.set_cons_zero, List.set_cons_succ]
      refine wpAnyK_take (i := 8) [10] (v := ?v9) rfl (by kernel_rfl) (by kernel_rfl) (by kernel_rfl) (by kernel_rfl) (fun _ _ _ h => h) (Or.inl ⟨by rfl, ?hy9⟩) hH ?rest9
      case hy9 => (intro w hSw; (try dsimp only at hSw); go_simp; with_reducible rfl)
      try simp only [Act.put, List.setIfInBounds_toArray, List.set_cons_zero, List.set_cons_succ]
      refine wpAnyK_one (i := 9) (by kernel_rfl) rfl (fun K hK => ?_) (by kernel_rfl)
      go_simp
      go_at_call 38
      with_reducible refine (HD.out.2.1 _ HD.out.2.2).mono ?_
      rintro e w3 ⟨rfl, hd3, ht3⟩
      have kd3 : w3.cell? ⟨lb, 0, none⟩ = some (.pointer (some ⟨db, 0, none⟩)) ∧ w3.cell? ⟨lb, 1, none⟩ = some (.string dir) := ⟨ht3.cell (show w1.drew.cell? _ = _ from q0) gl.2, ht3.cell (show w1.drew.cell? _ = _ from q1) gl.2⟩
      have H3 := Lib.hid (And.intro hd3 ht3)
      clear hd3 ht3
      refine hK.out _ _ kd3 (fun hH => ?_)
      clear hK K
      try simp only [Act.put, List.setIfInBounds_toArray, List.set_cons_zero, List.set_cons_succ]
      refine wpAnyK_last (by kernel_rfl) rfl (fun K hK => ?_) (by kernel_rfl)
      go_simp
      refine hK.out _ _ (wpAnyK_done (by kernel_rfl) ?_ _)
      clear hK K hH kd3 q0 q1 q6 q7 f6 f7
      have hlo3 := H1.out.2.1.tn ((Tn.drew (F := two db mb) w1).trans H3.out.2) (fun q hq h => (HL.out.2.2.1 q hq).2 h)
      have ht3 : Tn (fun q => two db mb q ∨ G q) w w3 := tn_two (H1.out.2.2.trans ((Tn.drew w1).trans H3.out.2))
      have HF := Lib.hid (And.intro hlo3 ht3)
      clear hlo3 ht3
      by_cases h20 : kf = 20
      · subst h20
        have HM2 : Hid (L.mended D = (20, Df, L)) := by unfold Hid; rw [HM.out, if_pos rfl]
        go_wp2
        go_ret
        unfold Both
        rw [HM2.out]
        exact ⟨rfl, H3.out.1, HF.out.1, HF.out.2⟩
      · have HM2 : Hid (L.mended D = (24, Df, L)) := by unfold Hid; rw [HM.out, if_neg h20]
        have t1 : (kf == 20) = false := by simpa using h20
        clear h20
        go_wp2
        go_ret
        unfold Both
        rw [HM2.out]
        exact ⟨rfl, H3.out.1, HF.out.1, HF.out.2⟩
    · have t24 : (k == 24) = false := by simpa using h24
      by_cases h0 : k = 0
      · subst h0
        have HM2 : Hid (L.mended D = (0, D1, { L with torn := false, left := ByteArray.empty })) := by
          unfold Hid Lg.mended
          rw [if_neg (by rw [HT.out.1]; decide), HT.out.2.1]
          rfl
        clear h24
        go_wp2
        go_ret
        unfold Both
        rw [HM2.out]
        have ht2 : Tn (fun q => q = lb) w1 ((w1.setCell ⟨lb, 6, none⟩ (.bool false)).setCell ⟨lb, 7, none⟩ (.string ⟨#[]⟩)) := (Tn.setCell (F := fun q => q = lb) w1 ⟨lb, 6, none⟩ _ rfl).trans (Tn.setCell (F := fun q => q = lb) _ ⟨lb, 7, none⟩ _ rfl)
        exact ⟨rfl, H1.out.1.frame ht2 (fun q _ e => by subst e; exact ⟨gl.1, fun e => gl.2 (.inl e), fun e => gl.2 (.inr e)⟩), H1.out.2.1.mend, (tn_two H1.out.2.2).trans (ht2.mono (fun q e => by subst e; exact .inr HL.out.2.2.2.gl))⟩
      · have t0 : (k == 0) = false := by simpa using h0
        have HM2 : Hid (L.mended D = (k, D1, L)) := by
          unfold Hid Lg.mended
          rw [if_neg (by rw [HT.out.1]; decide), HT.out.2.1]
          simp only
          rw [if_neg h24, if_neg h0]
        clear h24 h0
        go_wp2
        go_ret
        unfold Both
        rw [HM2.out]
        exact ⟨rfl, H1.out.1, H1.out.2.1, tn_two H1.out.2.2⟩
  · have ht' : L.torn = false := by simpa using ht
    rw [ht'] at c6
    have HM : Hid (L.mended D = (0, D, L)) := by unfold Hid Lg.mended; rw [if_pos ht']
    clear hlo0 hm hd hG ht ht'
    go_enter Tryz.func19, Tryz.ntmps19
    go_wp2
    go_ret
    unfold Both
    rw [HM.out]
    exact ⟨rfl, HL.out.2.1, HL.out.1, Tn.refl _ _⟩
end Go.Proofs.YtohigcpcbonaeaaGreatDoor
/-
  Wal: the walks of Sync, Rotate, begin.
-/
namespace Go.Proofs.YtohigcpcbonaeaaGreatDoor
open Go.RowKit
variable {G F : Nat → Prop} {w w' : World} {lb mp db mb bx nm : Nat} {ms : List (Int × Sg)} {L L' : Lg} {D : Dk} {s : ByteArray}

/-- Mending leaves all but what is to be mended. -/
theorem mended_keep (L : Lg) (D : Dk) : (L.mended D).2.2 = L ∨ (L.mended D).2.2 = { L with torn := false, left := ByteArray.empty } := by
  unfold Lg.mended
  simp only
  split
  · exact .inl rfl
  · split
    · split <;> exact .inl rfl
    · split
      · exact .inr rfl
      · exact .inl rfl
theorem mended_on (hon : D.on = true) (hk : (L.mended D).1 = 0) : (L.mended D).2.1.on = true ∧ (L.mended D).2.1.acts ≤ D.acts + 6 := by
  unfold Lg.mended at hk ⊢
  by_cases h1 : L.torn = false
  · rw [if_pos h1]; exact ⟨hon, by show D.acts ≤ _; omega⟩
  · rw [if_neg h1] at hk ⊢
    simp only at hk ⊢
    by_cases h24 : (L.write D).1 = 24
    · rw [if_pos h24] at hk
      split at hk <;> simp at hk
    · rw [if_neg h24] at hk ⊢
      by_cases h0 : (L.write D).1 = 0
      · rw [if_pos h0] at hk ⊢
        have := write_on (L := L) hon (by omega)
        exact ⟨this.1, Nat.le_trans this.2 (by omega)⟩
      · rw [if_neg h0] at hk
        exact absurd hk h0
theorem segZ_size {L : Lg} (h : L.dir.size ≤ 40) (n : Int) : (segZ L.dir n).size ≤ 140737488351232 := by
  unfold segZ
  rw [ba_size, segN_list, List.length_append, List.length_append, hexF_len, ← ba_size]
  simp
  omega
set_option maxRecDepth 100000 in
set_option maxHeartbeats 2000000 in
theorem w_sync (hlo : LoAt G w lb mp db L) (hd : DkAt F w db mb D) (hG : ∀ q, G q → ¬ two db mb q) (hon : D.on = true) (ha : D.acts < 1000000) :
    Calls Tryz.prog 10 #[.pointer (some ⟨lb, 0, none⟩)] w fun e w' => e = .returned (.int .i64 (L.sync D).1) ∧ DkAt F w' db mb (L.sync D).2 ∧ Tn (two db mb) w w' := by
  have hnone := w_none hlo
  have hlo0 := hlo
  obtain ⟨ms, hm⟩ := hlo
  have c0 := hm.c0
  have c1 := hm.c1
  have c4 := hm.c4
  have hd40 := hm.ok.dir
  have hop := hm.ok.op
  obtain ⟨n, hn⟩ : ∃ n : Nat, L.op = (n : Int) := ⟨L.op.toNat, by omega⟩
  rw [hn] at c4 hop
  have HL := Lib.hid (And.intro hlo0 (And.intro hd (And.intro hG hm)))
  clear hlo0 hm hd hG
  rcases Nat.eq_zero_or_pos n with h0 | h0
  · subst h0
    have HS : Hid (L.sync D = (0, D)) := by unfold Hid Lg.sync; rw [if_pos (by rw [hn]; rfl)]
    clear hn
    go_enter Tryz.func10, Tryz.ntmps10
    go_wp2_with (go_at_call 21; go_loud (refine hnone.mono ?_); rintro e w2 ⟨rfl, rfl⟩)
    go_ret
    rw [HS.out]
    exact ⟨rfl, HL.out.2.1, Tn.refl _ _⟩
  · have HS : Hid (L.sync D = D.sync (segN L.dir n)) := by unfold Hid Lg.sync; rw [if_neg (by rw [hn]; omega), hn]; rfl
    have t0 : ((n : Int) == 0) = false := beq_eq_false_iff_ne.2 (by omega)
    have hsz := segZ_size hd40 (n : Int)
    have hsz2 : (segN L.dir n).size ≤ 140737488351232 := hsz
    obtain ⟨dir, hdir⟩ : ∃ dir, L.dir = dir := ⟨_, rfl⟩
    rw [hdir] at c1 hd40 hsz2
    have HD := Lib.hid hdir
    have gl := HL.out.2.2.1 lb HL.out.2.2.2.gl
    clear hn hdir hsz
    go_enter Tryz.func10, Tryz.ntmps10
    go_wp2_with (go_at_call 21; go_loud (refine hnone.mono ?_); rintro e w2 ⟨rfl, rfl⟩)
    clear hnone
    refine wp_region_K (fun w' => w'.cell? ⟨lb, 0, none⟩ = some (.pointer (some ⟨db, 0, none⟩)) ∧ w'.cell? ⟨lb, 4, none⟩ = some (.int .i64 (n : Int))) 11 12 (by kernel_rfl) (by kernel_rfl) ⟨c0, c4⟩ (fun hH => ?_)
    refine wpAnyK_take (i := 0) [11] (v := ?v10) rfl (by kernel_rfl) (by kernel_rfl) (by kernel_rfl) (by kernel_rfl) (fun _ _ _ h => h) (Or.inl ⟨by rfl, ?hy10⟩) hH ?rest10
    case hy10 => (intro w hSw; (try dsimp only at hSw); go_simp; with_reducible rfl)
    try simp only [Act.put, List.setIfInBounds_toArray, List.set_cons_zero, List.set_cons_succ]
    refine wpAnyK_take (i := 1) [11] (v := ?v11) rfl (by kernel_rfl) (by kernel_rfl) (by kernel_rfl) (by kernel_rfl) (fun _ _ _ h => h) (Or.inl ⟨by rfl, ?hy11⟩) hH ?rest11
    case hy11 => (intro w hSw; (try dsimp only at hSw); go_simp; with_reducible rfl)
    try simp only [Act.put, List.setIfInBounds_toArray, List.set_cons_zero, List.set_cons_succ]
    refine wpAnyK_take (i := 2) [11] (v := ?v12) rfl (by kernel_rfl) (by kernel_rfl) (by kernel_rfl) (by kernel_rfl) (fun _ _ _ h => h) (Or.inl ⟨by rfl, ?hy12⟩) hH ?rest12
    case hy12 => (intro w hSw; (try dsimp only at hSw); go_simp; with_reducible rfl)
    try simp only [Act.put, List.setIfInBounds_toArray, List.set_cons_zero, List.set_cons_succ]
    refine wpAnyK_take (i := 3) [11] (v := ?v13) rfl (by kernel_rfl) (by kernel_rfl) (by kernel_rfl) (by kernel_rfl) (fun _ _ _ h => h) (Or.inl ⟨by rfl, ?hy13⟩) hH ?rest13
    case hy13 => (intro w hSw; (try dsimp only at hSw); go_simp; with_reducible rfl)
    try simp only [Act.put, List.setIfInBounds_toArray, List.set_cons_zero, List.set_cons_succ]
    refine wpAnyK_take (i := 4) [11] (v := ?v14) rfl (by kernel_rfl) (by kernel_rfl) (by kernel_rfl) (by kernel_rfl) (fun _ _ _ h => h) (Or.inl ⟨by rfl, ?hy14⟩) hH ?rest14
    case hy14 => (intro w hSw; (try dsimp only at hSw); go_simp; with_reducible rfl)
    try simp only [Act.put, List.setIfInBounds_toArray, List.set_cons_zero, List.set_cons_succ]
    refine wpAnyK_take (i := 5) [11] (v := ?v15) rfl (by kernel_rfl) (by kernel_rfl) (by kernel_rfl) (by kernel_rfl) (fun _ _ _ h => h) (Or.inl ⟨by rfl, ?hy15⟩) hH ?rest15
    case hy15 => (intro w hSw; (try dsimp only at hSw); go_simp; with_reducible rfl)
    try simp only [Act.put, List.setIfInBounds_toArray, List.set_cons_zero, List.set_cons_succ]
    refine wpAnyK_take (i := 6) [11] (v := ?v16) rfl (by kernel_rfl) (by kernel_rfl) (by kernel_rfl) (by kernel_rfl) (fun _ _ _ h => h) (Or.inl ⟨by rfl, ?hy16⟩) hH ?rest16
    case hy16 => (intro w hSw; (try dsimp only at hSw); go_simp; with_reducible rfl)
    try simp only [Act.put, List.setIfInBounds_toArray, List.set_cons_zero, List.set_cons_succ]
    refine wpAnyK_take (i := 7) [11] (v := ?v17) rfl (by kernel_rfl) (by kernel_rfl) (by kernel_rfl) (by kernel_rfl) (fun _ _ _ h => h) (Or.inl ⟨by rfl, ?hy17⟩) hH ?rest17
    case hy17 => (intro w hSw; (try dsimp only at hSw); go_simp; with_reducible rfl)
    try simp only [Act.put, List.setIfInBounds_toArray, List.set_cons_zero, List.set_cons_succ]
    refine wpAnyK_take (i := 8) [11] (v := ?v18) rfl (by kernel_rfl) (by kernel_rfl) (by kernel_rfl) (by kernel_rfl) (fun _ _ _ h => h) (Or.inl ⟨by rfl, ?hy18⟩) hH ?rest18
    case hy18 => (intro w hSw; (try dsimp only at hSw); go_simp; with_reducible rfl)
    try simp only [Act.put, List.setIfInBounds_toArray, List.set_cons_zero, List.set_cons_succ]
    refine wpAnyK_one (i := 9) (by kernel_rfl) rfl (fun K hK => ?_) (by kernel_rfl)
    go_simp
    go_at_call 26
    have c1d : w.drew.cell? ⟨lb, 1, none⟩ = some (.string dir) := c1
    with_reducible refine (w_name (lb := lb) hd40 n (by omega) c1d).mono ?_
    rintro e w2 ⟨rfl, hb2⟩
    have hb02 := (Below.refl _ _).drew.trans hb2
    have kd2 := And.intro ((hb2.cell (p := ⟨lb, 0, none⟩) (World.block_lt_of_cell? _ _ c0)).trans c0) ((hb2.cell (p := ⟨lb, 4, none⟩) (World.block_lt_of_cell? _ _ c4)).trans c4)
    have hd2 := HL.out.2.1.below hb02
    have H2 := Lib.hid (And.intro hb02 hd2)
    obtain ⟨sg, hsg⟩ : ∃ sg, segN dir n = sg := ⟨_, rfl⟩
    rw [hsg] at hsz2
    have HG := Lib.hid hsg
    rw [hsg]
    clear hb2 hb02 hd2 hsg
    refine hK.out _ _ kd2 (fun hH => ?_)
    clear hK K
    try simp only [Act.put, List.setIfInBounds_toArray, List.set_cons_zero, List.set_cons_succ]
    refine wpAnyK_one (i := 10) (by kernel_rfl) rfl (fun K hK => ?_) (by kernel_rfl)
    go_simp
    go_at_call 27
    with_reducible refine (sync_any H2.out.2 hon ha sg hsz2).mono ?_
    rintro e w3 ⟨rfl, hd3, ht3⟩
    have kd3 := And.intro (ht3.cell kd2.1 gl) (ht3.cell kd2.2 gl)
    have H3 := Lib.hid (And.intro hd3 ht3)
    clear hd3 ht3
    refine hK.out _ _ kd3 (fun hH => ?_)
    clear hK K
    try simp only [Act.put, List.setIfInBounds_toArray, List.set_cons_zero, List.set_cons_succ]
    refine wpAnyK_last (by kernel_rfl) rfl (fun K hK => ?_) (by kernel_rfl)
    go_simp
    refine hK.out _ _ (wpAnyK_done (by kernel_rfl) ?_ _)
    clear hK K hH kd3 kd2 c0 c1 c4
    go_wp2_with fail
    go_ret
    rw [HS.out, HD.out, HG.out]
    exact ⟨rfl, H3.out.1, (Tn.ofBelow H2.out.1).trans H3.out.2⟩
/-- The open segment is closed. -/
theorem LoAt.close (h : LoAt G w lb mp db L) : LoAt G ((w.setCell ⟨lb, 4, none⟩ (.int .i64 0)).setCell ⟨lb, 5, none⟩ (.int .i64 0)) lb mp db { L with op := 0, long := 0 } := by
  obtain ⟨ms, h⟩ := h
  refine ⟨ms, h.upd ((Tn.setCell (F := fun q => q = lb) w ⟨lb, 4, none⟩ _ rfl).trans (Tn.setCell (F := fun q => q = lb) _ ⟨lb, 5, none⟩ _ rfl)) (cell_sb (cell_sb h.c0 (by omega)) (by omega)) (cell_sb (cell_sb h.c1 (by omega)) (by omega)) (cell_sb (cell_sb h.c2 (by omega)) (by omega)) (cell_sb (cell_sb h.c3 (by omega)) (by omega))
    (cell_sb (World.cell?_setCell_same _ _ _ h.c4) (by omega)) (World.cell?_setCell_same _ _ _ (cell_sb h.c5 (by omega))) (cell_sb (cell_sb h.c6 (by omega)) (by omega)) (cell_sb (cell_sb h.c7 (by omega)) (by omega)) (fun j => by rw [World.frozen?_setCell, World.frozen?_setCell]; exact h.fz j) rfl ⟨h.ok.dir, h.ok.key, h.ok.rise, h.ok.few, h.ok.recs, ⟨Int.le_refl _, (by decide : (0 : Int) ≤ 4294967295)⟩, ⟨Int.le_refl _, (by decide : (0 : Int) ≤ 1048576)⟩, h.ok.left, h.ok.size⟩⟩
set_option maxRecDepth 100000 in
set_option maxHeartbeats 2000000 in
theorem w_rotate (hlo : LoAt G w lb mp db L) (hd : DkAt F w db mb D) (hG : ∀ q, G q → F q ∧ ¬ two db mb q) (hon : D.on = true) (ha : D.acts + 40 ≤ 1000000) {n : Nat} (hn : n < 4294967296) (hlast : L.last = (n : Int)) :
    Calls Tryz.prog 23 #[.pointer (some ⟨lb, 0, none⟩)] w fun e w' => Both G F w w' lb mp db mb e (L.rotate D) := by
  have hnone := w_none hlo
  have hm := w_mended hlo hd hG hon (by omega) hn hlast
  have hmo := mended_on (L := L) hon
  obtain ⟨a, hA⟩ : ∃ a, L.mended D = a := ⟨_, rfl⟩
  rw [hA] at hm hmo
  have hgl : G lb := by obtain ⟨ms, h⟩ := hlo; exact h.gl
  obtain ⟨k, D1, L1⟩ := a
  have HA := Lib.hid (And.intro hA (And.intro hG (And.intro hmo hgl)))
  have HM := Lib.hid hm
  clear hlo hd hG hA hm hmo hgl
  go_enter Tryz.func23, Tryz.ntmps23
  go_wp2_with (go_at_call 21; go_loud (refine hnone.mono ?_); rintro e w2 ⟨rfl, rfl⟩)
  refine HM.out.mono ?_
  rintro e w1 ⟨rfl, hd1, hl1, ht1⟩
  simp only at hd1 hl1
  clear hnone
  by_cases h0 : k = 0
  · subst h0
    have hmo := HA.out.2.2.1 rfl
    have hs := w_sync hl1 hd1 (fun q hq => (HA.out.2.1 q hq).2) hmo.1 (by omega)
    obtain ⟨sr, hsr⟩ : ∃ sr, L1.sync D1 = sr := ⟨_, rfl⟩
    rw [hsr] at hs
    obtain ⟨k2, D2⟩ := sr
    have H1 := Lib.hid (And.intro hl1 (And.intro ht1 hsr))
    have HS := Lib.hid hs
    clear hd1 hl1 ht1 hsr hs hmo
    go_wp2_with fail
    refine HS.out.mono ?_
    rintro e w2 ⟨rfl, hd2, ht2⟩
    have hl2 := H1.out.1.tn ht2 (fun q hq h => (HA.out.2.1 q hq).2 h)
    have f4 : w2.frozen? ⟨lb, 4, none⟩ = false := by obtain ⟨ms1, hm1⟩ := hl2; exact hm1.fz 4
    have f5 : w2.frozen? ⟨lb, 5, none⟩ = false := by obtain ⟨ms1, hm1⟩ := hl2; exact hm1.fz 5
    have q4 : w2.cell? ⟨lb, 4, none⟩ = some (.int .i64 L1.op) := by obtain ⟨ms1, hm1⟩ := hl2; exact hm1.c4
    have q5 : w2.cell? ⟨lb, 5, none⟩ = some (.int .i64 L1.long) := by obtain ⟨ms1, hm1⟩ := hl2; exact hm1.c5
    have H2 := Lib.hid (And.intro hd2 (And.intro hl2 ht2))
    clear hd2 hl2 ht2
    by_cases h2 : k2 = 0
    · subst h2
      have HR : Hid (L.rotate D = (0, D2, { L1 with op := 0, long := 0 })) := by
        unfold Hid Lg.rotate
        rw [HA.out.1]
        simp only
        rw [if_neg (by decide), H1.out.2.2]
        rfl
      go_wp2
      go_ret
      unfold Both
      rw [HR.out]
      have ht3 : Tn (fun q => q = lb) w2 ((w2.setCell ⟨lb, 4, none⟩ (.int .i64 0)).setCell ⟨lb, 5, none⟩ (.int .i64 0)) := (Tn.setCell (F := fun q => q = lb) w2 ⟨lb, 4, none⟩ _ rfl).trans (Tn.setCell (F := fun q => q = lb) _ ⟨lb, 5, none⟩ _ rfl)
      have gl := HA.out.2.1 lb HA.out.2.2.2
      exact ⟨rfl, H2.out.1.frame ht3 (fun q _ e => by subst e; exact ⟨gl.1, fun e => gl.2 (.inl e), fun e => gl.2 (.inr e)⟩), H2.out.2.1.close, (H1.out.2.1.trans (tn_two H2.out.2.2)).trans (ht3.mono (fun q e => by subst e; exact .inr HA.out.2.2.2))⟩
    · have t2 : (k2 != 0) = true := by simpa using h2
      have HR : Hid (L.rotate D = (k2, D2, L1)) := by
        unfold Hid Lg.rotate
        rw [HA.out.1]
        simp only
        rw [if_neg (by decide), H1.out.2.2]
        simp only
        rw [if_pos h2]
      clear h2
      go_wp2
      go_ret
      unfold Both
      rw [HR.out]
      exact ⟨rfl, H2.out.1, H2.out.2.1, H1.out.2.1.trans (tn_two H2.out.2.2)⟩
  · have t0 : (k != 0) = true := by simpa using h0
    have HR : Hid (L.rotate D = (k, D1, L1)) := by
      unfold Hid Lg.rotate
      rw [HA.out.1]
      simp only
      rw [if_pos h0]
    have H1 := Lib.hid (And.intro hd1 (And.intro hl1 ht1))
    clear h0 hd1 hl1 ht1
    go_wp2
    go_ret
    unfold Both
    rw [HR.out]
    exact ⟨rfl, H1.out.1, H1.out.2.1, H1.out.2.2⟩
end Go.Proofs.YtohigcpcbonaeaaGreatDoor
/-
  Wal: the walks of begin, Append.
-/
namespace Go.Proofs.YtohigcpcbonaeaaGreatDoor
open Go.RowKit
variable {G F H : Nat → Prop} {w w' : World} {lb mp db mb bx nm : Nat} {ms : List (Int × Sg)} {L L' : Lg} {D : Dk} {s : ByteArray}

theorem FzAt.widen {F' : Nat → Prop} {z : Option Fz} {p : Value} (h : FzAt F w z p) (ht : Tn H w w') (hH : ∀ q, q < w.heap.size → H q → F q) (hF : ∀ q, F' q → F q ∨ w.heap.size ≤ q) : FzAt F' w' z p := by
  cases z with
  | none => exact h
  | some z =>
    obtain ⟨fb, v, hp, hf, hlt, c0, c1, c2, a, c, hx, hr⟩ := h
    have hg : ¬ H fb := fun hg => hf (hH fb hlt hg)
    refine ⟨fb, v, hp, fun h => (hF fb h).elim hf (fun h => by omega), Nat.lt_of_lt_of_le hlt ht.size, ht.cell c0 hg, ht.cell c1 hg, ht.cell c2 hg, a, c, hx, hr.imp id ?_⟩
    rintro ⟨b, off, ha, hfb, hbl, hc⟩
    exact ⟨b, off, ha, fun h => (hF b h).elim hfb (fun h => by omega), Nat.lt_of_lt_of_le hbl ht.size, fun i hi => ht.cell (hc i hi) (fun hg => hfb (hH b hbl hg))⟩
theorem DkAt.widen {F' : Nat → Prop} (h : DkAt F w db mb D) (ht : Tn H w w') (hH : ∀ q, q < w.heap.size → H q → F q ∧ ¬ two db mb q) (hF : ∀ q, F q → F' q) (hw : ∀ q, F' q → F q ∨ w.heap.size ≤ q) (hl : ∀ q, F' q → q < w'.heap.size) : DkAt F' w' db mb D := by
  have h1 := h.frame ht (fun q hq hh => ⟨(hH q hq hh).1, fun e => (hH q hq hh).2 (.inl e), fun e => (hH q hq hh).2 (.inr e)⟩)
  obtain ⟨p, hp, hz⟩ := h.c3
  have hd : ¬ H db := fun hh => (hH db h.ltd hh).2 (.inl rfl)
  exact ⟨h1.c0, h1.c1, h1.c2, ⟨p, ht.cell hp hd, hz.widen ht (fun q hq hh => (hH q hq hh).1) hw⟩, h1.c4, h1.m, h1.fz, h1.ok, h1.ne, hF _ h1.fd, hF _ h1.fm, hl⟩

theorem last_most (h : L.Ok) : ∀ p ∈ L.m, p.1 ≤ L.last := by
  intro p hp
  unfold Lg.last
  have hr := h.rise
  obtain ⟨x, hx⟩ : ∃ x, L.m.map (·.1) = x := ⟨_, rfl⟩
  have hpx : p.1 ∈ x := by rw [← hx]; exact List.mem_map_of_mem hp
  rw [hx] at hr ⊢
  rcases List.eq_nil_or_concat x with rfl | ⟨l, y, rfl⟩
  · simp at hpx
  · rw [List.concat_eq_append] at hpx hr ⊢
    rw [List.getLastD_concat]
    rcases List.mem_append.1 hpx with h1 | h1
    · have := (List.pairwise_append.1 hr).2.2 _ h1 y (by simp)
      omega
    · simp at h1; omega
theorem LoM.key_ne (h : LoM G w lb mp db ms L) {k : Int} (hk : L.last < k) : ∀ p ∈ ms, p.1 ≠ k := by
  intro p hp e
  have := last_most h.ok (p.1, p.2.rs) (by rw [h.eq]; exact List.mem_map.2 ⟨p, hp, rfl⟩)
  simp only at this
  omega
/-- One segment more, empty. -/
theorem LoM.grow (h : LoM G w lb mp db ms L) {k : Int} (hk : L.last < k) (hk1 : 1 ≤ k ∧ k ≤ 4294967295) (hfew : L.m.length < 20000) (hm : MapL ckZ cvS w' mp (setL ms k ⟨none, 0, []⟩)) (ht : Tn (fun q => q = mp) w w') :
    LoM G w' lb mp db (ms ++ [(k, ⟨none, 0, []⟩)]) { L with m := setL L.m k [] } := by
  have hne := h.key_ne hk
  have hl := World.block_lt_of_cell? _ _ h.c0
  have hn : ¬ lb = mp := h.ne
  rw [setL_new' hne] at hm
  have hmL : setL L.m k [] = L.m ++ [(k, [])] := setL_new' (fun p hp e => by have := last_most h.ok p hp; omega)
  refine ⟨ht.cell h.c0 hn, ht.cell h.c1 hn, ht.cell h.c2 hn, ht.cell h.c3 hn, ht.cell h.c4 hn, ht.cell h.c5 hn, ht.cell h.c6 hn, ht.cell h.c7 hn, fun j => (ht.frozen (p := ⟨lb, j, none⟩) hl hn).trans (h.fz j), hm, ?_, ?_, ?_, h.ne, ?_, h.gl, h.gm, ?_, fun q hq => Nat.lt_of_lt_of_le (h.lt q hq) ht.size, ?_⟩
  · show setL L.m k [] = _
    rw [hmL, List.map_append, ← h.eq]
    rfl
  · intro p hp
    rcases List.mem_append.1 hp with hp | hp
    · exact ht.row (h.rows p hp) (fun q hq e => (h.off p hp q hq).2 e)
    · simp at hp; subst hp; exact World.ownsRow_nil _ _ _ _
  · rw [List.pairwise_append]
    refine ⟨h.sep, List.pairwise_singleton _ _, fun p _ p' hp' q _ e => ?_⟩
    simp at hp'
    subst hp'
    cases e
  · intro p hp q hq
    rcases List.mem_append.1 hp with hp | hp
    · exact h.off p hp q hq
    · simp at hp; subst hp; cases hq
  · intro p hp q hq
    rcases List.mem_append.1 hp with hp | hp
    · exact h.gr p hp q hq
    · simp at hp; subst hp; cases hq
  · refine ⟨h.ok.dir, ?_, ?_, ?_, ?_, h.ok.op, h.ok.long, h.ok.left, h.ok.size⟩
    · show ∀ p ∈ setL L.m k [], _
      rw [hmL]
      intro p hp
      rcases List.mem_append.1 hp with hp | hp
      · exact h.ok.key p hp
      · simp at hp; subst hp; exact hk1
    · show ((setL L.m k []).map (·.1)).Pairwise _
      rw [hmL, List.map_append, List.pairwise_append]
      refine ⟨h.ok.rise, List.pairwise_singleton _ _, fun a ha b hb => ?_⟩
      obtain ⟨p, hp, rfl⟩ := List.mem_map.1 ha
      simp at hb
      subst hb
      have := last_most h.ok p hp
      omega
    · show (setL L.m k []).length ≤ 20000
      rw [hmL, List.length_append]
      simp
      omega
    · show ∀ p ∈ setL L.m k [], _
      rw [hmL]
      intro p hp
      rcases List.mem_append.1 hp with hp | hp
      · exact h.ok.recs p hp
      · simp at hp; subst hp; simp
theorem LoM.opened (h : LoM G w lb mp db ms L) {k : Int} (hk : 0 ≤ k ∧ k ≤ 4294967295) : LoM G ((w.setCell ⟨lb, 4, none⟩ (.int .i64 k)).setCell ⟨lb, 5, none⟩ (.int .i64 0)) lb mp db ms { L with op := k, long := 0 } :=
  h.upd ((Tn.setCell (F := fun q => q = lb) w ⟨lb, 4, none⟩ _ rfl).trans (Tn.setCell (F := fun q => q = lb) _ ⟨lb, 5, none⟩ _ rfl)) (cell_sb (cell_sb h.c0 (by omega)) (by omega)) (cell_sb (cell_sb h.c1 (by omega)) (by omega)) (cell_sb (cell_sb h.c2 (by omega)) (by omega)) (cell_sb (cell_sb h.c3 (by omega)) (by omega))
    (cell_sb (World.cell?_setCell_same _ _ _ h.c4) (by omega)) (World.cell?_setCell_same _ _ _ (cell_sb h.c5 (by omega))) (cell_sb (cell_sb h.c6 (by omega)) (by omega)) (cell_sb (cell_sb h.c7 (by omega)) (by omega)) (fun j => by rw [World.frozen?_setCell, World.frozen?_setCell]; exact h.fz j) rfl ⟨h.ok.dir, h.ok.key, h.ok.rise, h.ok.few, h.ok.recs, hk, ⟨Int.le_refl _, (by decide : (0 : Int) ≤ 1048576)⟩, h.ok.left, h.ok.size⟩
set_option maxRecDepth 100000 in
set_option maxHeartbeats 2000000 in
theorem w_begin (hlo : LoAt G w lb mp db L) (hd : DkAt F w db mb D) (hG : ∀ q, G q → F q ∧ ¬ two db mb q) (hon : D.on = true) (ha : D.acts < 1000000) {n : Nat} (hn : n < 4294967296) (hlast : L.last = (n : Int)) (hfew : L.m.length < 20000) :
    Calls Tryz.prog 24 #[.pointer (some ⟨lb, 0, none⟩)] w fun e w' => Both G F w w' lb mp db mb e (L.begin_ D) := by
  have hl := last_any hlo
  obtain ⟨v, hv⟩ : ∃ v : Int, v = (n : Int) := ⟨_, rfl⟩
  have hv0 : 0 ≤ v := by omega
  have hv1 : v ≤ 4294967295 := by omega
  have hlv : L.last = v := by rw [hlast, hv]
  rw [hlv] at hl
  have HV := Lib.hid (And.intro hv hn)
  have hlo0 := hlo
  obtain ⟨ms, hm⟩ := hlo
  have hd40 := hm.ok.dir
  have HL := Lib.hid (And.intro hlo0 (And.intro hd (And.intro hG (And.intro hm (And.intro hlv hfew)))))
  have HLA := Lib.hid hl
  clear hlo0 hm hd hG hl hlast hn hv hlv hfew
  go_enter Tryz.func24, Tryz.ntmps24
  go_wp2_with fail
  refine HLA.out.mono ?_
  rintro e w1 ⟨rfl, hb1⟩
  have hm1 := HL.out.2.2.2.1.tn (Tn.ofBelow (F := fun _ => False) hb1) (fun _ _ h => h)
  have hd1 := HL.out.2.1.below hb1
  have c0 := hm1.c0
  have c1 := hm1.c1
  have c3 := hm1.c3
  have H1 := Lib.hid (And.intro hm1 (And.intro hd1 hb1))
  clear hm1 hd1 hb1
  by_cases hbig : 4294967295 < v + 1
  · have t1 : (4294967295 : Int) < v + 1 := by omega
    have HB : Hid (L.begin_ D = (24, D, L)) := by unfold Hid Lg.begin_; rw [if_pos (by rw [HL.out.2.2.2.2.1]; omega)]
    clear c0 c1 c3 hbig
    go_wp2
    go_ret
    unfold Both
    rw [HB.out]
    exact ⟨rfl, H1.out.2.1, ⟨_, H1.out.1⟩, Tn.ofBelow H1.out.2.2⟩
  · have t1 : v + 1 ≤ 4294967295 := by omega
    have HNN := Lib.hid hbig
    have hz := segZ_size hd40 (v + 1)
    have hseg : segZ L.dir (v + 1) = segN L.dir (n + 1) := by rw [HV.out.1]; rfl
    rw [hseg] at hz
    obtain ⟨dir, hdir⟩ : ∃ dir, L.dir = dir := ⟨_, rfl⟩
    rw [hdir] at c1 hd40 hz hseg
    obtain ⟨r, hr⟩ : ∃ r, D.create (segN dir (n + 1)) = r := ⟨_, rfl⟩
    obtain ⟨k, D2⟩ := r
    have hB : L.begin_ D = if k ≠ 0 then (k, D2, L) else (0, D2, { L with m := setL L.m (v + 1) [], op := v + 1, long := 0 }) := by
      unfold Lg.begin_
      rw [HL.out.2.2.2.2.1, if_neg (by omega), hdir, hseg]
      simp only [hr]
    have gl := HL.out.2.2.1 lb HL.out.2.2.2.1.gl
    have gm := HL.out.2.2.1 mp HL.out.2.2.2.1.gm
    have HB := Lib.hid (And.intro hB (And.intro hr hdir))
    have e1 : v + 1 = ((n + 1 : Nat) : Int) := by rw [HV.out.1]; omega
    have hnm : ∀ W, W.cell? ⟨lb, 1, none⟩ = some (.string dir) → Calls Tryz.prog 26 #[.pointer (some ⟨lb, 0, none⟩), .int .i64 (v + 1)] W fun e w' => e = .returned (.string (segN dir (n + 1))) ∧ Below W.heap.size W w' := fun W hW => by
      rw [e1]; exact w_name (lb := lb) hd40 (n + 1) (by have := HV.out.1; omega) hW
    have HNM := Lib.hid hnm
    clear hB hr hdir hbig hseg e1 hnm
    go_wp2_with fail
    refine wp_region_K (fun w' => w'.cell? ⟨lb, 0, none⟩ = some (.pointer (some ⟨db, 0, none⟩))) 8 9 (by kernel_rfl) (by kernel_rfl) c0 (fun hH => ?_)
    refine wpAnyK_take (i := 0) [8] (v := ?v19) rfl (by kernel_rfl) (by kernel_rfl) (by kernel_rfl) (by kernel_rfl) (fun _ _ _ h => h) (Or.inl ⟨by rfl, ?hy19⟩) hH ?rest19
    case hy19 => (intro w hSw; (try dsimp only at hSw); go_simp; with_reducible rfl)
    try simp only [Act.put, List.setIfInBounds_toArray, List.set_cons_zero, List.set_cons_succ]
    refine wpAnyK_take (i := 1) [8] (v := ?v20) rfl (by kernel_rfl) (by kernel_rfl) (by kernel_rfl) (by kernel_rfl) (fun _ _ _ h => h) (Or.inl ⟨by rfl, ?hy20⟩) hH ?rest20
    case hy20 => (intro w hSw; (try dsimp only at hSw); go_simp; with_reducible rfl)
    try simp only [Act.put, List.setIfInBounds_toArray, List.set_cons_zero, List.set_cons_succ]
    refine wpAnyK_take (i := 2) [8] (v := ?v21) rfl (by kernel_rfl) (by kernel_rfl) (by kernel_rfl) (by kernel_rfl) (fun _ _ _ h => h) (Or.inl ⟨by rfl, ?hy21⟩) hH ?rest21
    case hy21 => (intro w hSw; (try dsimp only at hSw); go_simp; with_reducible rfl)
    try simp only [Act.put, List.setIfInBounds_toArray, List.set_cons_zero, List.set_cons_succ]
    refine wpAnyK_take (i := 3) [8] (v := ?v22) rfl (by kernel_rfl) (by kernel_rfl) (by kernel_rfl) (by kernel_rfl) (fun _ _ _ h => h) (Or.inl ⟨by rfl, ?hy22⟩) hH ?rest22
    case hy22 => (intro w hSw; (try dsimp only at hSw); go_simp; with_reducible rfl)
    try simp only [Act.put, List.setIfInBounds_toArray, List.set_cons_zero, List.set_cons_succ]
    refine wpAnyK_take (i := 4) [8] (v := ?v23) rfl (by kernel_rfl) (by kernel_rfl) (by kernel_rfl) (by kernel_rfl) (fun _ _ _ h => h) (Or.inl ⟨by rfl, ?hy23⟩) hH ?rest23
    case hy23 => (intro w hSw; (try dsimp only at hSw); go_simp; with_reducible rfl)
    try simp only [Act.put, List.setIfInBounds_toArray, List.set_cons_zero, List.set_cons_succ]
    refine wpAnyK_take (i := 5) [8] (v := ?v24) rfl (by kernel_rfl) (by kernel_rfl) (by kernel_rfl) (by kernel_rfl) (fun _ _ _ h => h) (Or.inl ⟨by rfl, ?hy24⟩) hH ?rest24
    case hy24 => (intro w hSw; (try dsimp only at hSw); go_simp; with_reducible rfl)
    try simp only [Act.put, List.setIfInBounds_toArray, List.set_cons_zero, List.set_cons_succ]
    refine wpAnyK_one (i := 6) (by kernel_rfl) rfl (fun K hK => ?_) (by kernel_rfl)
    go_simp
    go_at_call 26
    have c1d : w1.drew.cell? ⟨lb, 1, none⟩ = some (.string dir) := c1
    with_reducible refine (HNM.out _ c1d).mono ?_
    rintro e w2 ⟨rfl, hb2⟩
    have hb12 := (Below.refl _ _).drew.trans hb2
    have kd2 := (hb2.cell (p := ⟨lb, 0, none⟩) (World.block_lt_of_cell? _ _ c0)).trans c0
    have hd2 := H1.out.2.1.below hb12
    have hm2 := H1.out.1.tn (Tn.ofBelow (F := fun _ => False) hb12) (fun _ _ h => h)
    have H2 := Lib.hid (And.intro hb12 (And.intro hd2 hm2))
    obtain ⟨sg, hsg⟩ : ∃ sg, segN dir (n + 1) = sg := ⟨_, rfl⟩
    rw [hsg] at hz
    have HG := Lib.hid hsg
    rw [hsg]
    clear hb2 hb12 hd2 hm2 hsg
    refine hK.out _ _ kd2 (fun hH => ?_)
    clear hK K
    try simp only [Act.put, List.setIfInBounds_toArray, List.set_cons_zero, List.set_cons_succ]
    refine wpAnyK_one (i := 7) (by kernel_rfl) rfl (fun K hK => ?_) (by kernel_rfl)
    go_simp
    go_at_call 42
    with_reducible refine (create_any H2.out.2.1 hon ha sg hz).mono ?_
    rw [← HG.out, HB.out.2.1]
    rintro e w3 ⟨rfl, hd3, ht3⟩
    simp only at hd3
    have kd3 := ht3.cell kd2 gl.2
    have hm3 := H2.out.2.2.tn ht3 (fun q hq h => (HL.out.2.2.1 q hq).2 h)
    have q3 := hm3.c3
    have H3 := Lib.hid (And.intro hd3 (And.intro ht3 hm3))
    clear hd3 ht3 hm3
    refine hK.out _ _ kd3 (fun hH => ?_)
    clear hK K
    try simp only [Act.put, List.setIfInBounds_toArray, List.set_cons_zero, List.set_cons_succ]
    refine wpAnyK_last (by kernel_rfl) rfl (fun K hK => ?_) (by kernel_rfl)
    go_simp
    refine hK.out _ _ (wpAnyK_done (by kernel_rfl) ?_ _)
    clear hK K hH kd3 kd2 c0 c1 c3
    have ht03 : Tn (fun q => two db mb q ∨ G q) w w3 := tn_two ((Tn.ofBelow (H1.out.2.2.trans (H2.out.1.mono H1.out.2.2.size))).trans H3.out.2.1)
    have HT := Lib.hid ht03
    clear ht03
    by_cases h0 : k = 0
    · subst h0
      have hmp := H3.out.2.2.mpl
      have HB2 : Hid (L.begin_ D = (0, D2, { L with m := setL L.m (v + 1) [], op := v + 1, long := 0 })) := by unfold Hid; rw [HB.out.1]; rfl
      obtain ⟨w4, hrun, hm4, ht4, hz4⟩ := MapL.put hmp keyZ und_seg (v + 1) ⟨none, 0, []⟩
      have hrun' : (Instr.mapUpdate tSeg (.map (some mp)) (.int .i64 (v + 1)) (.slice none 0 0)).run Tryz.prog w3 = .ok () w4 := hrun
      have hlt3 := World.block_lt_of_cell? _ _ q3
      have f4 : w4.frozen? ⟨lb, 4, none⟩ = false := (ht4.frozen (p := ⟨lb, 4, none⟩) hlt3 H3.out.2.2.ne).trans (H3.out.2.2.fz 4)
      have f5 : w4.frozen? ⟨lb, 5, none⟩ = false := (ht4.frozen (p := ⟨lb, 5, none⟩) hlt3 H3.out.2.2.ne).trans (H3.out.2.2.fz 5)
      have q44 := ht4.cell H3.out.2.2.c4 H3.out.2.2.ne
      have q45 := ht4.cell H3.out.2.2.c5 H3.out.2.2.ne
      have H4 := Lib.hid (And.intro hm4 (And.intro ht4 hz4))
      clear hm4 ht4 hz4 hmp hrun
      go_wp2
      go_ret
      unfold Both
      rw [HB2.out]
      have hl0 := HL.out.2.2.2.2.1
      have hbg := HNN.out
      have hgr := H3.out.2.2.grow (k := v + 1) (by rw [hl0]; omega) ⟨by omega, by omega⟩ HL.out.2.2.2.2.2 H4.out.1 H4.out.2.1
      have hop := hgr.opened (k := v + 1) ⟨by omega, by omega⟩
      have ht5 : Tn (fun q => q = lb ∨ q = mp) w3 ((w4.setCell ⟨lb, 4, none⟩ (.int .i64 (v + 1))).setCell ⟨lb, 5, none⟩ (.int .i64 0)) := ((H4.out.2.1.mono (fun q e => .inr e)).trans (Tn.setCell (F := fun q => q = lb ∨ q = mp) w4 ⟨lb, 4, none⟩ _ (.inl rfl))).trans (Tn.setCell (F := fun q => q = lb ∨ q = mp) _ ⟨lb, 5, none⟩ _ (.inl rfl))
      refine ⟨rfl, H3.out.1.frame ht5 (fun q _ e => ?_), ⟨_, hop⟩, HT.out.trans (ht5.mono (fun q e => ?_))⟩
      · rcases e with rfl | rfl
        · exact ⟨gl.1, fun e => gl.2 (.inl e), fun e => gl.2 (.inr e)⟩
        · exact ⟨gm.1, fun e => gm.2 (.inl e), fun e => gm.2 (.inr e)⟩
      · rcases e with rfl | rfl
        · exact .inr HL.out.2.2.2.1.gl
        · exact .inr HL.out.2.2.2.1.gm
    · have t0 : (k != 0) = true := by simpa using h0
      have HB2 : Hid (L.begin_ D = (k, D2, L)) := by unfold Hid; rw [HB.out.1, if_pos h0]
      clear h0
      go_wp2
      go_ret
      unfold Both
      rw [HB2.out]
      exact ⟨rfl, H3.out.1, ⟨_, H3.out.2.2⟩, HT.out⟩
end Go.Proofs.YtohigcpcbonaeaaGreatDoor
/-
  Wal: a record more in a segment's row: what becomes of a log's blocks.
-/
namespace Go.Proofs.YtohigcpcbonaeaaGreatDoor
open Go.RowKit
variable {G F H : Nat → Prop} {w w' : World} {lb mp db mb bx nm : Nat} {ms : List (Int × Sg)} {L L' : Lg} {D : Dk} {s : ByteArray}

theorem LoM.split (h : LoM G w lb mp db ms L) {k : Int} {rs : List ByteArray} (hk : getL L.m k = some rs) : ∃ (A B : List (Int × Sg)) (xa : Option Addr) (xc : Nat), ms = A ++ (k, ⟨xa, xc, rs⟩) :: B ∧ (∀ p ∈ A, p.1 ≠ k) ∧ (∀ p ∈ B, p.1 ≠ k) ∧ getL ms k = some ⟨xa, xc, rs⟩ := by
  have h1 := h.get k
  rw [hk] at h1
  obtain ⟨x, hx, hxr⟩ := Option.map_eq_some_iff.1 h1
  obtain ⟨xa, xc, xr⟩ := x
  simp only at hxr
  subst hxr
  have hm := getL_mem hx
  obtain ⟨A, B, rfl⟩ := List.append_of_mem hm
  have hn : ((A ++ (k, (⟨xa, xc, xr⟩ : Sg)) :: B).map (·.1)).Pairwise (fun a b => a < b) := by rw [← h.keys]; exact h.ok.rise
  rw [List.map_append, List.map_cons] at hn
  obtain ⟨_, h2, h3⟩ := List.pairwise_append.1 hn
  refine ⟨A, B, xa, xc, rfl, fun p hp e => ?_, fun p hp e => ?_, hx⟩
  · have := h3 p.1 (List.mem_map_of_mem hp) k (by simp); omega
  · have := (List.pairwise_cons.1 h2).1 p.1 (List.mem_map_of_mem hp); omega
/-- A log's blocks, and one more. -/
def more (G : Nat → Prop) (v : Value) (q : Nat) : Prop := G q ∨ v.ownBlock = some q
set_option maxHeartbeats 1000000 in
theorem LoM.lay {A B : List (Int × Sg)} {k : Int} {xa : Option Addr} {xc : Nat} {rs : List ByteArray} {w5 w6 w7 : World} {a' : Option Addr} {c' n' : Nat} {r : ByteArray} (h : LoM G w5 lb mp db (A ++ (k, ⟨xa, xc, rs⟩) :: B) L) (hA : ∀ p ∈ A, p.1 ≠ k) (hB : ∀ p ∈ B, p.1 ≠ k)
    (hn : n' = (rs ++ [r]).length) (hap : Appd eStr w5 w6 0 (.slice xa rs.length xc) (.slice a' n' c') rs [r]) (hm : MapL ckZ cvS w7 mp (setL (A ++ (k, ⟨xa, xc, rs⟩) :: B) k ⟨a', c', rs ++ [r]⟩)) (ht : Tn (fun q => q = mp) w6 w7) (hrs : rs.length + 1 ≤ 1000000) :
    LoM (more G (.slice a' n' c')) w7 lb mp db (A ++ (k, ⟨a', c', rs ++ [r]⟩) :: B) { L with m := setL L.m k (rs ++ [r]) } ∧ Tn G w5 w7 ∧ (∀ q, more G (.slice a' n' c') q → G q ∨ w5.heap.size ≤ q) := by
  subst hn
  rw [setL_mid hA hB] at hm
  have hx : (k, (⟨xa, xc, rs⟩ : Sg)) ∈ A ++ (k, (⟨xa, xc, rs⟩ : Sg)) :: B := by simp
  have hxo := h.off _ hx
  have hxg := h.gr _ hx
  simp only at hxo hxg
  have hlb : lb < w5.heap.size := World.block_lt_of_cell? _ _ h.c0
  have hmp : mp < w5.heap.size := h.lt mp h.gm
  have t1 : Tn G w5 w6 := hap.tn.mono (fun q hq => hxg q hq)
  have t2 : Tn G w5 w7 := t1.trans (ht.mono (fun q e => e ▸ h.gm))
  have n1 : ¬ (Value.slice xa rs.length xc).ownBlock = some lb := fun e => (hxo lb e).1 rfl
  have n2 : ¬ lb = mp := h.ne
  have cl : ∀ {o v}, w5.cell? ⟨lb, o, none⟩ = some v → w7.cell? ⟨lb, o, none⟩ = some v := fun hc => ht.cell (hap.tn.cell hc n1) n2
  have hnew : ∀ q, (Value.slice a' (rs ++ [r]).length c').ownBlock = some q → (Value.slice xa rs.length xc).ownBlock = some q ∨ w5.heap.size ≤ q := fun q hq => by
    rcases hap.block with hb | hb
    · exact .inl (hb ▸ hq)
    · exact .inr (hb q hq)
  have hs := h.sep
  rw [List.pairwise_append, List.pairwise_cons] at hs
  obtain ⟨sA, ⟨sx, sB⟩, sAB⟩ := hs
  have oldrow : ∀ p ∈ A ++ B, (∀ q, p.2.val.ownBlock = some q → (Value.slice xa rs.length xc).ownBlock ≠ some q) ∧ (∀ q, p.2.val.ownBlock = some q → q < w5.heap.size) ∧ Own eStr w5 0 p.2.val p.2.rs ∧ (∀ q, p.2.val.ownBlock = some q → q ≠ lb ∧ q ≠ mp) ∧ (∀ q, p.2.val.ownBlock = some q → G q) := fun p hp => by
    have hpm : p ∈ A ++ (k, (⟨xa, xc, rs⟩ : Sg)) :: B := by
      rcases List.mem_append.1 hp with hp | hp
      · exact List.mem_append_left _ hp
      · exact List.mem_append_right _ (List.mem_cons_of_mem _ hp)
    refine ⟨fun q hq => ?_, fun q hq => h.lt q (h.gr p hpm q hq), h.rows p hpm, h.off p hpm, h.gr p hpm⟩
    rcases List.mem_append.1 hp with hp | hp
    · exact sAB p hp _ List.mem_cons_self q hq
    · exact fun e => sx p hp q e hq
  have hmL : setL L.m k (rs ++ [r]) = (A.map (fun p => (p.1, p.2.rs))) ++ (k, rs ++ [r]) :: B.map (fun p => (p.1, p.2.rs)) := by
    rw [h.eq, List.map_append, List.map_cons]
    exact setL_mid (fun p hp e => by obtain ⟨x, hx, rfl⟩ := List.mem_map.1 hp; exact hA x hx e) (fun p hp e => by obtain ⟨x, hx, rfl⟩ := List.mem_map.1 hp; exact hB x hx e)
  have hkeys : (setL L.m k (rs ++ [r])).map (·.1) = L.m.map (·.1) := by
    rw [hmL, h.eq]; simp
  have hlen : (setL L.m k (rs ++ [r])).length = L.m.length := by
    have := congrArg List.length hkeys
    simpa using this
  refine ⟨⟨cl h.c0, cl h.c1, cl h.c2, cl h.c3, cl h.c4, cl h.c5, cl h.c6, cl h.c7, fun j => (ht.frozen (p := ⟨lb, j, none⟩) (Nat.lt_of_lt_of_le hlb hap.tn.size) n2).trans ((hap.tn.frozen (p := ⟨lb, j, none⟩) hlb n1).trans (h.fz j)), hm, ?_, ?_, ?_, h.ne, ?_, .inl h.gl, .inl h.gm, ?_, ?_, ?_⟩, t2, ?_⟩
  · show setL L.m k (rs ++ [r]) = _
    rw [hmL, List.map_append, List.map_cons]
  · intro p hp
    rcases List.mem_append.1 hp with hp1 | hp1
    · have ho := oldrow p (List.mem_append_left _ hp1)
      exact ht.row (hap.tn.row ho.2.2.1 (fun q hq e => ho.1 q hq e)) (fun q hq e => (ho.2.2.2.1 q hq).2 e)
    · rcases List.mem_cons.1 hp1 with rfl | hp1
      · exact ht.row hap.own (fun q hq e => by
          rcases hnew q hq with h1 | h1
          · exact (hxo q h1).2 e
          · omega)
      · have ho := oldrow p (List.mem_append_right _ hp1)
        exact ht.row (hap.tn.row ho.2.2.1 (fun q hq e => ho.1 q hq e)) (fun q hq e => (ho.2.2.2.1 q hq).2 e)
  · rw [List.pairwise_append, List.pairwise_cons]
    refine ⟨sA, ⟨fun p hp q hq e => ?_, sB⟩, fun p hp p' hp' q hq e => ?_⟩
    · have ho := oldrow p (List.mem_append_right _ hp)
      rcases hnew q hq with h1 | h1
      · exact ho.1 q e h1
      · have := ho.2.1 q e; omega
    · rcases List.mem_cons.1 hp' with rfl | hp'
      · have ho := oldrow p (List.mem_append_left _ hp)
        rcases hnew q e with h1 | h1
        · exact ho.1 q hq h1
        · have := ho.2.1 q hq; omega
      · exact sAB p hp p' (List.mem_cons_of_mem _ hp') q hq e
  · intro p hp q hq
    rcases List.mem_append.1 hp with hp1 | hp1
    · exact (oldrow p (List.mem_append_left _ hp1)).2.2.2.1 q hq
    · rcases List.mem_cons.1 hp1 with rfl | hp1
      · rcases hnew q hq with h1 | h1
        · exact hxo q h1
        · exact ⟨by omega, by omega⟩
      · exact (oldrow p (List.mem_append_right _ hp1)).2.2.2.1 q hq
  · intro p hp q hq
    rcases List.mem_append.1 hp with hp1 | hp1
    · exact .inl ((oldrow p (List.mem_append_left _ hp1)).2.2.2.2 q hq)
    · rcases List.mem_cons.1 hp1 with rfl | hp1
      · exact .inr hq
      · exact .inl ((oldrow p (List.mem_append_right _ hp1)).2.2.2.2 q hq)
  · intro q hq
    rcases hq with hq | hq
    · exact Nat.lt_of_lt_of_le (h.lt q hq) t2.size
    · exact Nat.lt_of_lt_of_le (hap.own.lt q hq).2 ht.size
  · refine ⟨h.ok.dir, ?_, ?_, ?_, ?_, h.ok.op, h.ok.long, h.ok.left, h.ok.size⟩
    · intro p hp
      have h1 : p.1 ∈ (setL L.m k (rs ++ [r])).map (·.1) := List.mem_map_of_mem hp
      rw [hkeys] at h1
      obtain ⟨p', hp', e⟩ := List.mem_map.1 h1
      rw [← e]
      exact h.ok.key p' hp'
    · show ((setL L.m k (rs ++ [r])).map (·.1)).Pairwise _
      rw [hkeys]
      exact h.ok.rise
    · show (setL L.m k (rs ++ [r])).length ≤ 20000
      rw [hlen]
      exact h.ok.few
    · intro p hp
      rcases setL_mem (m := L.m) (a := k) (v := rs ++ [r]) hp with rfl | hp
      · show (rs ++ [r]).length ≤ 1000000
        rw [List.length_append]; exact hrs
      · exact h.ok.recs p hp
  · intro q hq
    rcases hq with hq | hq
    · exact .inl hq
    · rcases hnew q hq with h1 | h1
      · exact .inl (hxg q h1)
      · exact .inr h1
theorem LoM.longer (h : LoM G w lb mp db ms L) {n : Int} (hn : 0 ≤ n ∧ n ≤ 1048576) : LoM G (w.setCell ⟨lb, 5, none⟩ (.int .i64 n)) lb mp db ms { L with long := n } :=
  h.upd (Tn.setCell (F := fun q => q = lb) w ⟨lb, 5, none⟩ _ rfl) (cell_sb h.c0 (by omega)) (cell_sb h.c1 (by omega)) (cell_sb h.c2 (by omega)) (cell_sb h.c3 (by omega)) (cell_sb h.c4 (by omega)) (World.cell?_setCell_same _ _ _ h.c5) (cell_sb h.c6 (by omega)) (cell_sb h.c7 (by omega)) (fun j => by rw [World.frozen?_setCell]; exact h.fz j) rfl ⟨h.ok.dir, h.ok.key, h.ok.rise, h.ok.few, h.ok.recs, h.ok.op, hn, h.ok.left, h.ok.size⟩
/-- What an act leaves that may make blocks of the log's own. -/
def Kept (G F : Nat → Prop) (w w' : World) (lb mp db mb : Nat) (e : Ending) (r : Int × Dk × Lg) : Prop :=
  e = .returned (.int .i64 r.1) ∧ ∃ G' F' : Nat → Prop, DkAt F' w' db mb r.2.1 ∧ LoAt G' w' lb mp db r.2.2 ∧ (∀ q, G' q → F' q ∧ ¬ two db mb q) ∧ (∀ q, F q → F' q) ∧ (∀ q, F' q → F q ∨ w.heap.size ≤ q) ∧ (∀ q, G' q → G q ∨ w.heap.size ≤ q) ∧ Tn (fun q => two db mb q ∨ G q) w w'
theorem Both.kept {e : Ending} {r : Int × Dk × Lg} (h : Both G F w w' lb mp db mb e r) (hG : ∀ q, G q → F q ∧ ¬ two db mb q) : Kept G F w w' lb mp db mb e r := by
  obtain ⟨h1, h2, h3, h4⟩ := h
  exact ⟨h1, G, F, h2, h3, hG, fun _ h => h, fun _ h => .inl h, fun _ h => .inl h, h4⟩
end Go.Proofs.YtohigcpcbonaeaaGreatDoor
/-
  Wal: the walk of Append.
-/
namespace Go.Proofs.YtohigcpcbonaeaaGreatDoor
open Go.RowKit
variable {G F H : Nat → Prop} {w w' : World} {lb mp db mb bx nm : Nat} {ms : List (Int × Sg)} {L L' : Lg} {D : Dk} {s r : ByteArray}

theorem begin_ok (hon : D.on = true) (hk : (L.begin_ D).1 = 0) : (L.begin_ D).2.2 = { L with m := setL L.m (L.last + 1) [], op := L.last + 1, long := 0 } ∧ (L.begin_ D).2.1.on = true ∧ (L.begin_ D).2.1.acts ≤ D.acts + 1 ∧ L.last + 1 ≤ 4294967295 := by
  unfold Lg.begin_ at hk ⊢
  by_cases h1 : 4294967295 < L.last + 1
  · rw [if_pos h1] at hk; simp at hk
  · rw [if_neg h1] at hk ⊢
    simp only at hk ⊢
    by_cases h2 : (D.create (segZ L.dir (L.last + 1))).1 ≠ 0
    · rw [if_pos h2] at hk; exact absurd hk h2
    · rw [if_neg h2] at hk ⊢
      have := (create_on D hon (segZ L.dir (L.last + 1))).go (by omega)
      exact ⟨rfl, this.1, this.2, by omega⟩
theorem rotate_ok (hon : D.on = true) (hk : (L.rotate D).1 = 0) : (L.rotate D).2.2 = { (L.mended D).2.2 with op := 0, long := 0 } ∧ (L.rotate D).2.1.on = true ∧ (L.rotate D).2.1.acts ≤ D.acts + 7 := by
  unfold Lg.rotate at hk ⊢
  simp only at hk ⊢
  by_cases h1 : (L.mended D).1 ≠ 0
  · rw [if_pos h1] at hk; exact absurd hk h1
  · rw [if_neg h1] at hk ⊢
    have hm := mended_on (L := L) hon (by omega)
    by_cases h2 : ((L.mended D).2.2.sync (L.mended D).2.1).1 ≠ 0
    · rw [if_pos h2] at hk; exact absurd hk h2
    · rw [if_neg h2] at hk ⊢
      have hs : ((L.mended D).2.2.sync (L.mended D).2.1).2.on = true ∧ ((L.mended D).2.2.sync (L.mended D).2.1).2.acts ≤ (L.mended D).2.1.acts + 1 := by
        unfold Lg.sync at h2 ⊢
        by_cases h3 : (L.mended D).2.2.op = 0
        · rw [if_pos h3]; exact ⟨hm.1, by show (L.mended D).2.1.acts ≤ _; omega⟩
        · rw [if_neg h3] at h2 ⊢
          exact (sync_on _ hm.1 _).go (by omega)
      exact ⟨rfl, hs.1, Nat.le_trans hs.2 (by have := hm.2; omega)⟩
theorem mended_fields (L : Lg) (D : Dk) {k : Int} {D1 : Dk} {L1 : Lg} (h : L.mended D = (k, D1, L1)) : L1.dir = L.dir ∧ L1.size = L.size ∧ L1.m = L.m ∧ L1.op = L.op ∧ L1.long = L.long := by
  have := mended_keep L D
  rw [h] at this
  rcases this with e | e <;> simp only at e <;> subst e <;> exact ⟨rfl, rfl, rfl, rfl, rfl⟩
theorem append_eq0 (hr : r.size ≤ 131072) {k : Int} {D1 : Dk} {L1 : Lg} (h1 : L.mended D = (k, D1, L1)) (hk : k ≠ 0) : L.append D r = (k, D1, L1) := by
  unfold Lg.append
  rw [if_neg (by omega), h1]
  simp only
  rw [if_pos hk]
theorem append_eq1 (hr : r.size ≤ 131072) {D1 : Dk} {L1 : Lg} (h1 : L.mended D = (0, D1, L1)) (hf : L1.full r = false) (ho : L1.op ≠ 0) : L.append D r = L1.lay D1 r := by
  unfold Lg.append
  rw [if_neg (by omega), h1]
  simp only [hf]
  simp [ho]
theorem append_eq2 (hr : r.size ≤ 131072) {D1 D2 : Dk} {L1 L2 : Lg} {k : Int} (h1 : L.mended D = (0, D1, L1)) (hf : L1.full r = false) (ho : L1.op = 0) (hb : L1.begin_ D1 = (k, D2, L2)) : L.append D r = if k ≠ 0 then (k, D2, L2) else L2.lay D2 r := by
  unfold Lg.append
  rw [if_neg (by omega), h1]
  simp only [hf]
  simp [ho, hb]
theorem append_eq3 (hr : r.size ≤ 131072) {D1 D3 : Dk} {L1 L3 : Lg} {k : Int} (h1 : L.mended D = (0, D1, L1)) (hf : L1.full r = true) (hb : L1.rotate D1 = (k, D3, L3)) (hk : k ≠ 0) : L.append D r = (k, D3, L3) := by
  unfold Lg.append
  rw [if_neg (by omega), h1]
  simp only [hf]
  simp [hb, hk]
theorem append_eq4 (hr : r.size ≤ 131072) {D1 D2 D3 : Dk} {L1 L2 L3 : Lg} {k : Int} (h1 : L.mended D = (0, D1, L1)) (hf : L1.full r = true) (hb : L1.rotate D1 = (0, D3, L3)) (ho : L3.op = 0) (hg : L3.begin_ D3 = (k, D2, L2)) : L.append D r = if k ≠ 0 then (k, D2, L2) else L2.lay D2 r := by
  unfold Lg.append
  rw [if_neg (by omega), h1]
  simp only [hf]
  simp [hb, ho, hg]
theorem lay_eq {k : Int} {D2 : Dk} {nz : Nat} (ho : L.op = (nz : Int)) (h : D.app (segN L.dir nz) (framed r) = (k, D2)) {rs : List ByteArray} (hg : getL L.m L.op = some rs) : L.lay D r = if k ≠ 0 then (k, D2, L) else (0, D2, { L with long := L.long + (framed r).size, m := setL L.m L.op (rs ++ [r]) }) := by
  unfold Lg.lay Lg.at_
  rw [hg]
  have hz : segZ L.dir L.op = segN L.dir nz := by unfold segZ; rw [ho]; rfl
  rw [hz, h]
  rfl

set_option maxRecDepth 100000 in
set_option maxHeartbeats 8000000 in
theorem w_append (hlo : LoAt G w lb mp db L) (hd : DkAt F w db mb D) (hG : ∀ q, G q → F q ∧ ¬ two db mb q) (hon : D.on = true) (ha : D.acts + 60 ≤ 1000000) {n : Nat} (hn : n < 4294967296) (hlast : L.last = (n : Int)) (hfew : L.m.length < 20000) (r : ByteArray) (hr : r.size ≤ 131072)
    (hopk : L.op ≠ 0 → ∃ rs, getL L.m L.op = some rs) (hrec : ∀ p ∈ L.m, p.2.length + 1 ≤ 1000000) (hlong : L.long ≤ 900000) :
    Calls Tryz.prog 9 #[.pointer (some ⟨lb, 0, none⟩), .string r] w fun e w' => Kept G F w w' lb mp db mb e (L.append D r) := by
  have hnone := w_none hlo
  have hm := w_mended hlo hd hG hon (by omega) hn hlast
  have hmo := mended_on (L := L) hon
  obtain ⟨a, hA⟩ : ∃ a, L.mended D = a := ⟨_, rfl⟩
  rw [hA] at hm hmo
  obtain ⟨k, D1, L1⟩ := a
  have hmf := mended_fields L D hA
  simp only at hmo
  obtain ⟨ms0, hm0⟩ := hlo
  have hd40 : L.dir.size ≤ 40 := hm0.ok.dir
  have hop0 := hm0.ok.op
  have hlg0 := hm0.ok.long
  have hsz0 := hm0.ok.size
  obtain ⟨dir, hdir⟩ : ∃ dir, L.dir = dir := ⟨_, rfl⟩
  rw [hdir] at hd40
  obtain ⟨fr, hfr⟩ : ∃ fr, framed r = fr := ⟨_, rfl⟩
  obtain ⟨fs, hfs⟩ : ∃ fs, fr.size = fs := ⟨_, rfl⟩
  have hfs2 : fs = 8 + r.size := by rw [← hfs, ← hfr, framed_size]
  have hfrs : fr.size ≤ 140737488351232 := by rw [hfs]; omega
  have hrs0 : r.size ≤ 140737488351232 := by omega
  have hfs3 : fs ≤ 131080 := by omega
  have hF : ∀ W, Calls Tryz.prog 22 #[.string r] W fun e w' => e = .returned (.string fr) ∧ Below W.heap.size W w' := fun W => by rw [← hfr]; exact w_framed r (by omega) W
  have HG := Lib.hid hG
  have HA := Lib.hid (And.intro hA (And.intro hmo hmf))
  have HM := Lib.hid hm
  have HL := Lib.hid (And.intro hlast (And.intro hfew (And.intro hopk (And.intro hrec (And.intro hdir (And.intro hfr (And.intro hr hm0)))))))
  have HFS := Lib.hid (And.intro hfs hfs2)
  have HN := Lib.hid hn
  have tr : ¬ (131072 : Int) < (r.size : Int) := by omega
  clear hd hG hA hm hmo hmf hm0 hlast hfew hopk hrec hdir hfr hn hfs2 hr
  go_enter Tryz.func9, Tryz.ntmps9
  go_wp2_with (go_at_call 21; go_loud (refine hnone.mono ?_); rintro e w2 ⟨rfl, rfl⟩)
  refine HM.out.mono ?_
  rintro e w1 ⟨rfl, hd1, hl1, ht1⟩
  simp only at hd1 hl1
  clear hnone
  by_cases h0 : k = 0
  · subst h0
    have on1 := (HA.out.2.1 rfl).1
    have ac1 := (HA.out.2.1 rfl).2
    go_wp2_with fail
    refine (hF _).mono ?_
    rintro e w2 ⟨rfl, hb2⟩
    have hl2 := hl1.below hb2
    have hd2 := hd1.below hb2
    have ht2 : Tn (fun q => two db mb q ∨ G q) w w2 := ht1.trans (Tn.ofBelow hb2)
    have H2 := Lib.hid (And.intro hl2 (And.intro hd2 ht2))
    obtain ⟨ms2, hm2⟩ := hl2
    have c2 := hm2.c2
    have c4 := hm2.c4
    have c5 := hm2.c5
    rw [HA.out.2.2.2.1] at c2
    rw [HA.out.2.2.2.2.2.1] at c4
    rw [HA.out.2.2.2.2.2.2] at c5
    obtain ⟨lz, hlz⟩ : ∃ lz, L.long = lz := ⟨_, rfl⟩
    obtain ⟨sz, hsz⟩ : ∃ sz, L.size = sz := ⟨_, rfl⟩
    obtain ⟨oz, hoz⟩ : ∃ oz : Nat, L.op = (oz : Int) := ⟨L.op.toNat, by omega⟩
    rw [hsz] at c2 hsz0
    rw [hoz] at c4 hop0
    rw [hlz] at c5 hlg0 hlong
    have hfull : L1.full r = (decide (0 < (oz : Int)) && decide (0 < lz) && decide (sz < lz + (fs : Int))) := by
      unfold Lg.full
      rw [HA.out.2.2.2.1, HA.out.2.2.2.2.2.1, HA.out.2.2.2.2.2.2, HL.out.2.2.2.2.2.1, HFS.out.1, hoz, hlz, hsz]
    have HO := Lib.hid (And.intro hlz (And.intro hsz (And.intro hoz hfull)))
    have HOP := Lib.hid hop0
    have e1 : IntKind.i64.wrap (lz + (fs : Int)) = lz + (fs : Int) := IntWalk.i64_in _ (by omega)
    have HE1 := Lib.hid e1
    clear hb2 hm2 hd2 ht2 hl1 hd1 ht1 hlz hsz hoz hfull hF hop0 e1
    by_cases g1 : 0 < oz
    · have d1 : decide (0 < (oz : Int)) = true := by simp; omega
      by_cases g2 : 0 < lz
      · have d2 : decide (0 < lz) = true := by simp; omega
        by_cases g3 : sz < lz + (fs : Int)
        · have d3 : decide (sz < lz + (fs : Int)) = true := by simp; omega
          have HFU : Hid (L1.full r = true) := by unfold Hid; rw [HO.out.2.2.2, d1, d2, d3]; rfl
          have e1 := HE1.out
          go_wp2_with fail
          go_quiet (fail)
          obtain ⟨w2d, hw2d⟩ : ∃ w2d, w2.drewN nq = w2d := ⟨_, rfl⟩
          have hbq : Below w2.heap.size w2 w2d := by rw [← hw2d]; exact below_drewN (Below.refl _ _) nq
          have hl2 := H2.out.1.below hbq
          have hd2 := H2.out.2.1.below hbq
          have H2d := Lib.hid (And.intro hl2 (And.intro hd2 (H2.out.2.2.trans (Tn.ofBelow hbq))))
          rw [hw2d]
          obtain ⟨rt, hrt⟩ : ∃ rt, L1.rotate D1 = rt := ⟨_, rfl⟩
          have hrok := rotate_ok (L := L1) (D := D1) on1
          have hl1n : L1.last = (n : Int) := by unfold Lg.last; rw [HA.out.2.2.2.2.1]; exact HL.out.1
          have hrw := w_rotate H2d.out.1 H2d.out.2.1 HG.out on1 (by omega) HN.out hl1n
          rw [hrt] at hrw hrok
          obtain ⟨kr, D3, L3⟩ := rt
          simp only at hrok
          have hL1m : L1.m = L.m := HA.out.2.2.2.2.1
          have HRW := Lib.hid (And.intro hrw (And.intro hrt (And.intro hrok (And.intro hl1n hL1m))))
          clear hrw hrt hrok hl1n hL1m hbq hl2 hd2 hw2d c2 c4 c5 e1
          go_wp2_with fail
          refine HRW.out.1.mono ?_
          rintro e w3 ⟨rfl, hd3, hl3, ht3⟩
          simp only at hd3 hl3
          have H3x := Lib.hid (And.intro hl3 (And.intro hd3 (H2d.out.2.2.trans ht3)))
          by_cases hr0 : kr = 0
          · subst hr0
            obtain ⟨hL3, onb, acb⟩ := HRW.out.2.2.1 rfl
            have hf3 := mended_keep L1 D1
            have hL3f : L3.m = L1.m ∧ L3.op = 0 ∧ L3.dir = L1.dir := by
              rw [hL3]
              rcases hf3 with e | e <;> rw [e] <;> exact ⟨rfl, rfl, rfl⟩
            have LST : Hid (L3.last = (n : Int) ∧ L3.m.length < 20000) := by
              refine ⟨?_, ?_⟩
              · unfold Lg.last; rw [hL3f.1]; exact HRW.out.2.2.2.1
              · rw [hL3f.1, HRW.out.2.2.2.2]; exact HL.out.2.1
            have LDR : Hid (L3.dir = dir) := by unfold Hid; rw [hL3f.2.2, HA.out.2.2.1]; exact HL.out.2.2.2.2.1
            have HO3 := Lib.hid hL3f.2.1
            have c4z : w3.cell? ⟨lb, 4, none⟩ = some (.int .i64 0) := by obtain ⟨msx, hmx⟩ := hl3; rw [← hL3f.2.1]; exact hmx.c4
            clear hd3 hl3 ht3 hL3 hf3 hL3f
            obtain ⟨bg, hbg⟩ : ∃ bg, L3.begin_ D3 = bg := ⟨_, rfl⟩
            have hbok := begin_ok (L := L3) (D := D3) onb
            have hbw := w_begin H3x.out.1 H3x.out.2.1 HG.out onb (by omega) HN.out LST.out.1 LST.out.2
            rw [hbg] at hbw hbok
            obtain ⟨kb, D4, L4⟩ := bg
            simp only at hbok
            have HBW := Lib.hid hbw
            have HBG := Lib.hid (And.intro hbg hbok)
            clear hbw hbg hbok
            go_wp2_with fail
            refine HBW.out.mono ?_
            rintro e w4 ⟨rfl, hd4, hl4, ht4⟩
            simp only at hd4 hl4
            have ht04 : Tn (fun q => two db mb q ∨ G q) w w4 := H3x.out.2.2.trans ht4
            have HZ := Lib.hid (And.intro hl4 (And.intro hd4 ht04))
            clear hd4 hl4 ht4 ht04
            by_cases hb0 : kb = 0
            · subst hb0
              obtain ⟨hL4, onz, acz0, hmx⟩ := HBG.out.2 rfl
              have HAP : Hid (L.append D r = L4.lay D4 r) := by
                unfold Hid
                rw [append_eq4 HL.out.2.2.2.2.2.2.1 HA.out.1 HFU.out HRW.out.2.1 HO3.out HBG.out.1]
                rfl
              obtain ⟨nz, hnz⟩ : ∃ nz : Nat, nz = n + 1 := ⟨_, rfl⟩
              have HNZ : Hid (nz < 4294967296) := by unfold Hid; rw [LST.out.1] at hmx; omega
              obtain ⟨rs, hrsx⟩ : ∃ rs : List ByteArray, rs = [] := ⟨_, rfl⟩
              obtain ⟨lz2, hlz2⟩ : ∃ lz2 : Int, lz2 = 0 := ⟨_, rfl⟩
              have lz0 : 0 ≤ lz2 := by omega
              have lz1 : lz2 ≤ 900000 := by omega
              have acz : D4.acts < 1000000 := by omega
              have o4 : L4.op = (nz : Int) := by rw [hL4]; show L3.last + 1 = _; rw [LST.out.1, hnz]; rfl
              have hne4 : ∀ p ∈ L3.m, p.1 ≠ L3.last + 1 := by
                obtain ⟨msx, hmx2⟩ := H3x.out.1
                intro p hp e
                have := last_most hmx2.ok p hp
                omega
              have g4 : getL L4.m L4.op = some rs := by
                rw [hL4]
                show getL (setL L3.m (L3.last + 1) []) (L3.last + 1) = some rs
                rw [setL_new' hne4, getL_app_right hne4, getL_one, hrsx]
              have HKZ := Lib.hid (And.intro o4 (And.intro g4 (And.intro (show rs.length + 1 ≤ 1000000 by rw [hrsx]; decide) (And.intro (show L4.long = lz2 by rw [hL4, hlz2]) (And.intro (show L4.dir = dir by rw [hL4]; exact LDR.out) (And.intro HL.out.2.2.2.2.2.1 HFS.out.1))))))
              clear hL4 o4 g4 hne4 hmx hnz hrsx hlz2 c4z
              obtain ⟨msz, hmz⟩ := HZ.out.1
              obtain ⟨A, B, xa, xc, rfl, hA, hB, hgx⟩ := hmz.split HKZ.out.2.1
              rw [HKZ.out.1] at hmz hA hB hgx
              have z0 := hmz.c0
              have z1 := hmz.c1
              have z4 := hmz.c4
              have z5 := hmz.c5
              have z3 := hmz.c3
              have zf5 := hmz.fz 5
              rw [HKZ.out.1] at z4
              rw [HKZ.out.2.2.2.1] at z5
              rw [HKZ.out.2.2.2.2.1] at z1
              obtain ⟨d, hdd⟩ : ∃ d, D4.app (segN dir nz) fr = d := ⟨_, rfl⟩
              obtain ⟨kd, D9⟩ := d
              have hlay := lay_eq (L := L4) (D := D4) (r := r) (k := kd) (D2 := D9) (nz := nz) HKZ.out.1 (by rw [HKZ.out.2.2.2.2.1, HKZ.out.2.2.2.2.2.1]; exact hdd) HKZ.out.2.1
              rw [← HAP.out] at hlay
              have HLY := Lib.hid (And.intro hlay hdd)
              have HMZ := Lib.hid (And.intro hmz (And.intro hA (And.intro hB hgx)))
              obtain ⟨xl, hxl⟩ : ∃ xl, rs.length = xl := ⟨_, rfl⟩
              have HXL := Lib.hid hxl
              have glz := HG.out lb hmz.gl
              have gmz := HG.out mp hmz.gm
              clear hlay hdd hmz hA hB hgx hxl
              go_wp2_with fail
              refine wp_region_K (fun w' => w'.cell? ⟨lb, 0, none⟩ = some (.pointer (some ⟨db, 0, none⟩)) ∧ w'.cell? ⟨lb, 4, none⟩ = some (.int .i64 (nz : Int))) 12 13 (by kernel_rfl) (by kernel_rfl) ⟨z0, z4⟩ (fun hH => ?_)
              refine wpAnyK_take (i := 0) [12] (v := ?v25) rfl (by kernel_rfl) (by kernel_rfl) (by kernel_rfl) (by kernel_rfl) (fun _ _ _ h => h) (Or.inl ⟨by rfl, ?hy25⟩) hH ?rest25
              case hy25 => (intro w hSw; (try dsimp only at hSw); go_simp; with_reducible rfl)
              try simp only [Act.put, List.setIfInBounds_toArray, List.set_cons_zero, List.set_cons_succ]
              refine wpAnyK_take (i := 1) [12] (v := ?v26) rfl (by kernel_rfl) (by kernel_rfl) (by kernel_rfl) (by kernel_rfl) (fun _ _ _ h => h) (Or.inl ⟨by rfl, ?hy26⟩) hH ?rest26
              case hy26 => (intro w hSw; (try dsimp only at hSw); go_simp; with_reducible rfl)
              try simp only [Act.put, List.setIfInBounds_toArray, List.set_cons_zero, List.set_cons_succ]
              refine wpAnyK_take (i := 2) [12] (v := ?v27) rfl (by kernel_rfl) (by kernel_rfl) (by kernel_rfl) (by kernel_rfl) (fun _ _ _ h => h) (Or.inl ⟨by rfl, ?hy27⟩) hH ?rest27
              case hy27 => (intro w hSw; (try dsimp only at hSw); go_simp; with_reducible rfl)
              try simp only [Act.put, List.setIfInBounds_toArray, List.set_cons_zero, List.set_cons_succ]
              refine wpAnyK_take (i := 3) [12] (v := ?v28) rfl (by kernel_rfl) (by kernel_rfl) (by kernel_rfl) (by kernel_rfl) (fun _ _ _ h => h) (Or.inl ⟨by rfl, ?hy28⟩) hH ?rest28
              case hy28 => (intro w hSw; (try dsimp only at hSw); go_simp; with_reducible rfl)
              try simp only [Act.put, List.setIfInBounds_toArray, List.set_cons_zero, List.set_cons_succ]
              refine wpAnyK_take (i := 4) [12] (v := ?v29) rfl (by kernel_rfl) (by kernel_rfl) (by kernel_rfl) (by kernel_rfl) (fun _ _ _ h => h) (Or.inl ⟨by rfl, ?hy29⟩) hH ?rest29
              case hy29 => (intro w hSw; (try dsimp only at hSw); go_simp; with_reducible rfl)
              try simp only [Act.put, List.setIfInBounds_toArray, List.set_cons_zero, List.set_cons_succ]
              refine wpAnyK_take (i := 5) [12] (v := ?v30) rfl (by kernel_rfl) (by kernel_rfl) (by kernel_rfl) (by kernel_rfl) (fun _ _ _ h => h) (Or.inl ⟨by rfl, ?hy30⟩) hH ?rest30
              case hy30 => (intro w hSw; (try dsimp only at hSw); go_simp; with_reducible rfl)
              try simp only [Act.put, List.setIfInBounds_toArray, List.set_cons_zero, List.set_cons_succ]
              refine wpAnyK_take (i := 6) [12] (v := ?v31) rfl (by kernel_rfl) (by kernel_rfl) (by kernel_rfl) (by kernel_rfl) (fun _ _ _ h => h) (Or.inl ⟨by rfl, ?hy31⟩) hH ?rest31
              case hy31 => (intro w hSw; (try dsimp only at hSw); go_simp; with_reducible rfl)
              try simp only [Act.put, List.setIfInBounds_toArray, List.set_cons_zero, List.set_cons_succ]
              refine wpAnyK_take (i := 7) [12] (v := ?v32) rfl (by kernel_rfl) (by kernel_rfl) (by kernel_rfl) (by kernel_rfl) (fun _ _ _ h => h) (Or.inl ⟨by rfl, ?hy32⟩) hH ?rest32
              case hy32 => (intro w hSw; (try dsimp only at hSw); go_simp; with_reducible rfl)
              try simp only [Act.put, List.setIfInBounds_toArray, List.set_cons_zero, List.set_cons_succ]
              refine wpAnyK_take (i := 8) [12] (v := ?v33) rfl (by kernel_rfl) (by kernel_rfl) (by kernel_rfl) (by kernel_rfl) (fun _ _ _ h => h) (Or.inl ⟨by rfl, ?hy33⟩) hH ?rest33
              case hy33 => (intro w hSw; (try dsimp only at hSw); go_simp; with_reducible rfl)
              try simp only [Act.put, List.setIfInBounds_toArray, List.set_cons_zero, List.set_cons_succ]
              refine wpAnyK_take (i := 10) [12] (v := ?v34) rfl (by kernel_rfl) (by kernel_rfl) (by kernel_rfl) (by kernel_rfl) (fun _ _ _ h => h) (Or.inl ⟨by rfl, ?hy34⟩) hH ?rest34
              case hy34 => (intro w hSw; (try dsimp only at hSw); go_simp; with_reducible rfl)
              try simp only [Act.put, List.setIfInBounds_toArray, List.set_cons_zero, List.set_cons_succ]
              refine wpAnyK_one (i := 9) (by kernel_rfl) rfl (fun K hK => ?_) (by kernel_rfl)
              go_simp
              go_at_call 26
              have z1d : w4.drew.cell? ⟨lb, 1, none⟩ = some (.string dir) := z1
              with_reducible refine (w_name (lb := lb) hd40 nz HNZ.out z1d).mono ?_
              rintro e y2 ⟨rfl, hb2⟩
              have hb02 := (Below.refl _ _).drew.trans hb2
              have kd2 := And.intro ((hb2.cell (p := ⟨lb, 0, none⟩) (World.block_lt_of_cell? _ _ z0)).trans z0) ((hb2.cell (p := ⟨lb, 4, none⟩) (World.block_lt_of_cell? _ _ z4)).trans z4)
              have hd2 := HZ.out.2.1.below hb02
              have hm2 := HMZ.out.1.tn (Tn.ofBelow (F := fun _ => False) hb02) (fun _ _ h => h)
              have H2 := Lib.hid (And.intro hb02 (And.intro hd2 hm2))
              obtain ⟨sg, hsg⟩ : ∃ sg, segN dir nz = sg := ⟨_, rfl⟩
              have hszg : sg.size ≤ 140737488351232 := by rw [← hsg, ba_size, segN_list, List.length_append, List.length_append, hexF_len, ← ba_size]; simp; omega
              have HSG := Lib.hid hsg
              rw [hsg]
              clear hb2 hb02 hd2 hm2 hsg
              refine hK.out _ _ kd2 (fun hH => ?_)
              clear hK K
              try simp only [Act.put, List.setIfInBounds_toArray, List.set_cons_zero, List.set_cons_succ]
              refine wpAnyK_one (i := 11) (by kernel_rfl) rfl (fun K hK => ?_) (by kernel_rfl)
              go_simp
              go_at_call 25
              with_reducible refine (append_any H2.out.2.1 onz acz sg fr hszg hfrs).mono ?_
              rw [← HSG.out, HLY.out.2]
              rintro e y3 ⟨rfl, hd3, ht3⟩
              simp only at hd3
              have kd3 := And.intro (ht3.cell kd2.1 glz.2) (ht3.cell kd2.2 glz.2)
              have hm3 := H2.out.2.2.tn ht3 (fun q hq h => (HG.out q hq).2 h)
              have y35 := hm3.c5
              rw [HKZ.out.2.2.2.1] at y35
              have yf5 := hm3.fz 5
              have ht03 : Tn (fun q => two db mb q ∨ G q) w y3 := HZ.out.2.2.trans (tn_two ((Tn.ofBelow H2.out.1).trans ht3))
              have H3 := Lib.hid (And.intro hd3 (And.intro hm3 ht03))
              clear hd3 ht3 hm3 ht03
              refine hK.out _ _ kd3 (fun hH => ?_)
              clear hK K
              try simp only [Act.put, List.setIfInBounds_toArray, List.set_cons_zero, List.set_cons_succ]
              refine wpAnyK_last (by kernel_rfl) rfl (fun K hK => ?_) (by kernel_rfl)
              go_simp
              refine hK.out _ _ (wpAnyK_done (by kernel_rfl) ?_ _)
              clear hK K hH kd2 kd3 z0 z1 z3 z4 z5 zf5 z1d
              by_cases h9 : kd = 0
              · subst h9
                have HLY2 : Hid (L.append D r = (0, D9, { L4 with long := L4.long + (framed r).size, m := setL L4.m L4.op (rs ++ [r]) })) := by unfold Hid; rw [HLY.out.1]; rfl
                obtain ⟨W8, hW8⟩ : ∃ W8, y3.setCell ⟨lb, 5, none⟩ (.int .i64 (lz2 + (fs : Int))) = W8 := ⟨_, rfl⟩
                have hm8 := H3.out.2.1.longer (n := lz2 + (fs : Int)) ⟨by omega, by omega⟩
                rw [hW8] at hm8
                have t38 : Tn (fun q => q = lb) y3 W8 := by rw [← hW8]; exact Tn.setCell _ _ _ rfl
                have v0 := hm8.c0
                have v3 := hm8.c3
                have v4 := hm8.c4
                have lk8 : (Instr.lookup tSeg (.map (some mp)) (.int .i64 (nz : Int)) false).run Tryz.prog W8 = .ok (.slice xa xl xc) W8 := by
                  have h5 := MapL.look hm8.mpl keyZ und_seg (zero_strs _) false (nz : Int)
                  rw [HMZ.out.2.2.2] at h5
                  rw [← HXL.out]
                  exact h5
                rw [show ({ L4 with long := lz2 + (fs : Int) } : Lg).op = (nz : Int) from HKZ.out.1] at v4
                have H8 := Lib.hid (And.intro hm8 (And.intro t38 hW8))
                clear hm8 t38
                go_wp2
                have vd : W8.drew.cell? ⟨lb, 3, none⟩ = some (.map (some mp)) ∧ W8.drew.cell? ⟨lb, 4, none⟩ = some (.int .i64 (nz : Int)) ∧ (Instr.lookup tSeg (.map (some mp)) (.int .i64 (nz : Int)) false).run Tryz.prog W8.drew = .ok (.slice xa xl xc) W8.drew := by
                  refine ⟨v3, v4, ?_⟩
                  have h5 := MapL.look (MapL.below H8.out.1.mpl (Below.refl _ _).drew) keyZ und_seg (zero_strs _) false (nz : Int)
                  rw [HMZ.out.2.2.2] at h5
                  rw [← HXL.out]
                  exact h5
                clear hW8
                refine wp_region_K (fun w' => w'.cell? ⟨lb, 3, none⟩ = some (.map (some mp)) ∧ w'.cell? ⟨lb, 4, none⟩ = some (.int .i64 (nz : Int)) ∧ (Instr.lookup tSeg (.map (some mp)) (.int .i64 (nz : Int)) false).run Tryz.prog w' = .ok (.slice xa xl xc) w') 21 22 (by kernel_rfl) (by kernel_rfl) vd (fun hH => ?_)
                refine wpAnyK_take (i := 0) [21] (v := ?v35) rfl (by kernel_rfl) (by kernel_rfl) (by kernel_rfl) (by kernel_rfl) (fun _ _ _ h => h) (Or.inl ⟨by rfl, ?hy35⟩) hH ?rest35
                case hy35 => (intro w hSw; (try dsimp only at hSw); go_simp; with_reducible rfl)
                try simp only [Act.put, List.setIfInBounds_toArray, List.set_cons_zero, List.set_cons_succ]
                refine wpAnyK_take (i := 1) [21] (v := ?v36) rfl (by kernel_rfl) (by kernel_rfl) (by kernel_rfl) (by kernel_rfl) (fun _ _ _ h => h) (Or.inl ⟨by rfl, ?hy36⟩) hH ?rest36
                case hy36 => (intro w hSw; (try dsimp only at hSw); go_simp; with_reducible rfl)
                try simp only [Act.put, List.setIfInBounds_toArray, List.set_cons_zero, List.set_cons_succ]
                refine wpAnyK_take (i := 2) [21] (v := ?v37) rfl (by kernel_rfl) (by kernel_rfl) (by kernel_rfl) (by kernel_rfl) (fun _ _ _ h => h) (Or.inl ⟨by rfl, ?hy37⟩) hH ?rest37
                case hy37 => (intro w hSw; (try dsimp only at hSw); go_simp; with_reducible rfl)
                try simp only [Act.put, List.setIfInBounds_toArray, List.set_cons_zero, List.set_cons_succ]
                refine wpAnyK_take (i := 3) [21] (v := ?v38) rfl (by kernel_rfl) (by kernel_rfl) (by kernel_rfl) (by kernel_rfl) (fun _ _ _ h => h) (Or.inl ⟨by rfl, ?hy38⟩) hH ?rest38
                case hy38 => (intro w hSw; (try dsimp only at hSw); go_simp; with_reducible rfl)
                try simp only [Act.put, List.setIfInBounds_toArray, List.set_cons_zero, List.set_cons_succ]
                refine wpAnyK_take (i := 4) [21] (v := ?v39) rfl (by kernel_rfl) (by kernel_rfl) (by kernel_rfl) (by kernel_rfl) (fun _ _ _ h => h) (Or.inl ⟨by rfl, ?hy39⟩) hH ?rest39
                case hy39 => (intro w hSw; (try dsimp only at hSw); go_simp; with_reducible rfl)
                try simp only [Act.put, List.setIfInBounds_toArray, List.set_cons_zero, List.set_cons_succ]
                refine wpAnyK_take (i := 5) [21] (v := ?v40) rfl (by kernel_rfl) (by kernel_rfl) (by kernel_rfl) (by kernel_rfl) (fun _ _ _ h => h) (Or.inl ⟨by rfl, ?hy40⟩) hH ?rest40
                case hy40 => (intro w hSw; (try dsimp only at hSw); go_simp; with_reducible rfl)
                try simp only [Act.put, List.setIfInBounds_toArray, List.set_cons_zero, List.set_cons_succ]
                refine wpAnyK_take (i := 6) [21] (v := ?v41) rfl (by kernel_rfl) (by kernel_rfl) (by kernel_rfl) (by kernel_rfl) (fun _ _ _ h => h) (Or.inl ⟨by rfl, ?hy41⟩) hH ?rest41
                case hy41 => (intro w hSw; (try dsimp only at hSw); go_simp; with_reducible rfl)
                try simp only [Act.put, List.setIfInBounds_toArray, List.set_cons_zero, List.set_cons_succ]
                refine wpAnyK_take (i := 7) [21] (v := ?v42) rfl (by kernel_rfl) (by kernel_rfl) (by kernel_rfl) (by kernel_rfl) (fun _ _ _ h => h) (Or.inl ⟨by rfl, ?hy42⟩) hH ?rest42
                case hy42 => (intro w hSw; (try dsimp only at hSw); go_simp; with_reducible rfl)
                try simp only [Act.put, List.setIfInBounds_toArray, List.set_cons_zero, List.set_cons_succ]
                refine wpAnyK_take (i := 8) [21] (v := ?v43) rfl (by kernel_rfl) (by kernel_rfl) (by kernel_rfl) (by kernel_rfl) (fun _ _ _ h => h) (Or.inl ⟨by rfl, ?hy43⟩) hH ?rest43
                case hy43 => (intro w hSw; (try dsimp only at hSw); go_simp; with_reducible rfl)
                try simp only [Act.put, List.setIfInBounds_toArray, List.set_cons_zero, List.set_cons_succ]
                refine wpAnyK_take (i := 9) [21] (v := ?v44) rfl (by kernel_rfl) (by kernel_rfl) (by kernel_rfl) (by kernel_rfl) (fun _ _ _ h => h) (Or.inl ⟨by rfl, ?hy44⟩) hH ?rest44
                case hy44 => (intro w hSw; (try dsimp only at hSw); go_simp; with_reducible rfl)
                try simp only [Act.put, List.setIfInBounds_toArray, List.set_cons_zero, List.set_cons_succ]
                refine wpAnyK_take (i := 10) [21] (v := ?v45) rfl (by kernel_rfl) (by kernel_rfl) (by kernel_rfl) (by kernel_rfl) (fun _ _ _ h => h) (Or.inl ⟨by rfl, ?hy45⟩) hH ?rest45
                case hy45 => (intro w hSw; (try dsimp only at hSw); go_simp; with_reducible rfl)
                try simp only [Act.put, List.setIfInBounds_toArray, List.set_cons_zero, List.set_cons_succ]
                refine wpAnyK_take (i := 11) [21] (v := ?v46) rfl (by kernel_rfl) (by kernel_rfl) (by kernel_rfl) (by kernel_rfl) (fun _ _ _ h => h) (Or.inl ⟨by rfl, ?hy46⟩) hH ?rest46
                case hy46 => (intro w hSw; (try dsimp only at hSw); go_simp; with_reducible rfl)
                try simp only [Act.put, List.setIfInBounds_toArray, List.set_cons_zero, List.set_cons_succ]
                refine wpAnyK_take (i := 12) [21] (v := ?v47) rfl (by kernel_rfl) (by kernel_rfl) (by kernel_rfl) (by kernel_rfl) (fun _ _ _ h => h) (Or.inl ⟨by rfl, ?hy47⟩) hH ?rest47
                case hy47 => (intro w hSw; (try dsimp only at hSw); go_simp; with_reducible rfl)
                try simp only [Act.put, List.setIfInBounds_toArray, List.set_cons_zero, List.set_cons_succ]
                refine wpAnyK_take (i := 13) [21] (v := ?v48) rfl (by kernel_rfl) (by kernel_rfl) (by kernel_rfl) (by kernel_rfl) (fun _ _ _ h => h) (Or.inl ⟨by rfl, ?hy48⟩) hH ?rest48
                case hy48 => (intro w hSw; (try dsimp only at hSw); go_simp; with_reducible rfl)
                try simp only [Act.put, List.setIfInBounds_toArray, List.set_cons_zero, List.set_cons_succ]
                refine wpAnyK_take (i := 14) [21] (v := ?v49) rfl (by kernel_rfl) (by kernel_rfl) (by kernel_rfl) (by kernel_rfl) (fun _ _ _ h => h) (Or.inl ⟨by rfl, ?hy49⟩) hH ?rest49
                case hy49 => (intro w hSw; (try dsimp only at hSw); go_simp; with_reducible rfl)
                try simp only [Act.put, List.setIfInBounds_toArray, List.set_cons_zero, List.set_cons_succ]
                refine wpAnyK_take (i := 15) [21] (v := ?v50) rfl (by kernel_rfl) (by kernel_rfl) (by kernel_rfl) (by kernel_rfl) (fun _ _ _ h => h) (Or.inl ⟨by rfl, ?hy50⟩) hH ?rest50
                case hy50 => (intro w hSw; (try dsimp only at hSw); go_simp; with_reducible rfl)
                try simp only [Act.put, List.setIfInBounds_toArray, List.set_cons_zero, List.set_cons_succ]
                refine wpAnyK_take (i := 16) [21] (v := ?v51) rfl (by kernel_rfl) (by kernel_rfl) (by kernel_rfl) (by kernel_rfl) (fun _ _ _ h => h) (Or.inl ⟨by rfl, ?hy51⟩) hH ?rest51
                case hy51 => (intro w hSw; (try dsimp only at hSw); go_simp; with_reducible rfl)
                try simp only [Act.put, List.setIfInBounds_toArray, List.set_cons_zero, List.set_cons_succ]
                refine wpAnyK_take (i := 17) [21] (v := ?v52) rfl (by kernel_rfl) (by kernel_rfl) (by kernel_rfl) (by kernel_rfl) (fun _ _ _ h => h) (Or.inl ⟨by rfl, ?hy52⟩) hH ?rest52
                case hy52 => (intro w hSw; (try dsimp only at hSw); go_simp; with_reducible rfl)
                try simp only [Act.put, List.setIfInBounds_toArray, List.set_cons_zero, List.set_cons_succ]
                refine wpAnyK_one (i := 18) (by kernel_rfl) rfl (fun K hK => ?_) (by kernel_rfl)
                go_simp
                go_at_call 17
                with_reducible refine (clone_any _ r hrs0).mono ?_
                rintro e y4 ⟨rfl, hb4⟩
                have hb84 := (Below.refl _ _).drew.trans hb4
                have lkb : ∀ y, Below W8.heap.size W8 y → (Instr.lookup tSeg (.map (some mp)) (.int .i64 (nz : Int)) false).run Tryz.prog y = .ok (.slice xa xl xc) y := fun y hy => by
                  have h5 := MapL.look (MapL.below H8.out.1.mpl hy) keyZ und_seg (zero_strs _) false (nz : Int)
                  rw [HMZ.out.2.2.2] at h5
                  rw [← HXL.out]
                  exact h5
                have hlb8 := World.block_lt_of_cell? _ _ v3
                have vd4 := And.intro ((hb84.cell (p := ⟨lb, 3, none⟩) hlb8).trans v3) (And.intro ((hb84.cell (p := ⟨lb, 4, none⟩) hlb8).trans v4) (lkb y4 hb84))
                have H4 := Lib.hid (And.intro hb84 lkb)
                clear hb4 hb84 lkb
                refine hK.out _ _ vd4 (fun hH => ?_)
                clear hK K
                try simp only [Act.put, List.setIfInBounds_toArray, List.set_cons_zero, List.set_cons_succ]
                refine wpAnyK_one (i := 19) (by kernel_rfl) rfl (fun K hK => ?_) (by kernel_rfl)
                go_simp
                obtain ⟨y5, hy5⟩ : ∃ y5, y5 = y4.alloc (.cells #[.string r] 9) := ⟨_, rfl⟩
                have hb85 : Below W8.heap.size W8 y5 := by rw [hy5]; exact H4.out.1.alloc H4.out.1.size _
                have hsrc : Src eStr y5 (.slice (some ⟨y4.heap.size, 0, none⟩) 1 1) [r] := by rw [hy5]; exact src_one y4 r _ _ rfl 1
                have hm5 := H8.out.1.tn (Tn.ofBelow (F := fun _ => False) hb85) (fun _ _ h => h)
                have vd5 := And.intro ((hb85.cell (p := ⟨lb, 3, none⟩) hlb8).trans v3) (And.intro ((hb85.cell (p := ⟨lb, 4, none⟩) hlb8).trans v4) (H4.out.2 y5 hb85))
                have hrow5 : Own eStr y5 0 (.slice xa xl xc) rs := by
                  have h5 := hm5.rows ((nz : Int), (⟨xa, xc, rs⟩ : Sg)) (by simp)
                  rw [← HXL.out]
                  exact h5
                have H5 := Lib.hid (And.intro hm5 (And.intro hsrc (And.intro hrow5 hb85)))
                rw [← hy5]
                clear hb85 hsrc hm5 hrow5 hy5
                refine hK.out _ _ vd5 (fun hH => ?_)
                clear hK K
                try simp only [Act.put, List.setIfInBounds_toArray, List.set_cons_zero, List.set_cons_succ]
                refine wpAnyK_one (i := 20) (by kernel_rfl) rfl (fun K hK => ?_) (by kernel_rfl)
                refine step_app2 eStr rfl _ _ rfl rfl rfl H5.out.2.2.1 H5.out.2.1 (by have := HKZ.out.2.2.1; simp; omega) (Nat.zero_le _) ?_
                rw [HXL.out]
                intro a6 cap6 y6 hap'
                have hap : Appd eStr y5 y6 0 (.slice xa xl xc) (.slice a6 (xl + 1) cap6) rs [r] := hap'
                have hx5 : ∀ q, (Value.slice xa xl xc).ownBlock = some q → q ≠ lb ∧ q ≠ mp := fun q hq => H5.out.1.off ((nz : Int), (⟨xa, xc, rs⟩ : Sg)) (by simp) q (by show (Value.slice xa rs.length xc).ownBlock = some q; rw [HXL.out]; exact hq)
                have nb5 : ¬ (Value.slice xa xl xc).ownBlock = some lb := fun e => (hx5 lb e).1 rfl
                have hmp6 := MapL.tn H5.out.1.mpl hap.tn (fun e => (hx5 mp e).2 rfl)
                have lk6 : (Instr.lookup tSeg (.map (some mp)) (.int .i64 (nz : Int)) false).run Tryz.prog y6 = .ok (.slice xa xl xc) y6 := by
                  have h5 := MapL.look hmp6 keyZ und_seg (zero_strs _) false (nz : Int)
                  rw [HMZ.out.2.2.2] at h5
                  rw [← HXL.out]
                  exact h5
                have vd6 := And.intro (hap.tn.cell vd5.1 nb5) (And.intro (hap.tn.cell vd5.2.1 nb5) lk6)
                obtain ⟨y7, hrun, hm7, ht7, hz7⟩ := MapL.put hmp6 keyZ und_seg (nz : Int) (⟨a6, cap6, rs ++ [r]⟩ : Sg)
                have hrun' : (Instr.mapUpdate tSeg (.map (some mp)) (.int .i64 (nz : Int)) (.slice a6 (xl + 1) cap6)).run Tryz.prog y6 = .ok () y7 := by
                  have : cvS (⟨a6, cap6, rs ++ [r]⟩ : Sg) = .slice a6 (xl + 1) cap6 := by
                    show Value.slice a6 (rs ++ [r]).length cap6 = _
                    rw [List.length_append, HXL.out]; rfl
                  rw [this] at hrun
                  exact hrun
                have H7 := Lib.hid (And.intro hap (And.intro hm7 ht7))
                clear hap hap' hmp6 lk6 hrun hm7 ht7 hz7
                refine hK.out _ _ vd6 (fun hH => ?_)
                clear hK K
                try simp only [Act.put, List.setIfInBounds_toArray, List.set_cons_zero, List.set_cons_succ]
                refine wpAnyK_last (by kernel_rfl) rfl (fun K hK => ?_) (by kernel_rfl)
                go_simp
                refine hK.out _ _ (wpAnyK_done (by kernel_rfl) ?_ _)
                clear hK K hH vd vd4 vd5 vd6 v0 v3 v4 lk8 hrun'
                go_wp2_with fail
                go_ret
                unfold Kept
                rw [HLY2.out]
                obtain ⟨hlm, tg, hmq⟩ := LoM.lay (G := G) (xa := xa) (xc := xc) (rs := rs) (r := r) (n' := xl + 1) (a' := a6) (c' := cap6) H5.out.1 HMZ.out.2.1 HMZ.out.2.2.1 (by rw [List.length_append, HXL.out]; rfl) (by rw [HXL.out]; exact H7.out.1) H7.out.2.1 H7.out.2.2 HKZ.out.2.2.1
                have t35 : Tn (fun q => q = lb) y3 y5 := H8.out.2.1.trans (Tn.ofBelow H5.out.2.2.2)
                have h35 : y3.heap.size ≤ y5.heap.size := t35.size
                have hw3 := H3.out.2.2.size
                have gfl : ∀ q, G q → F q ∧ ¬ two db mb q := HG.out
                have hd5 := H3.out.1.frame t35 (fun q _ e => by subst e; exact ⟨glz.1, fun e => glz.2 (.inl e), fun e => glz.2 (.inr e)⟩)
                have hmore : ∀ q, more G (.slice a6 (xl + 1) cap6) q → F q ∨ y5.heap.size ≤ q := fun q hq => (hmq q hq).imp (fun h => (gfl q h).1) id
                have hd7 : DkAt (fun q => F q ∨ more G (.slice a6 (xl + 1) cap6) q) y7 db mb D9 := hd5.widen (H := G) tg (fun q _ h => gfl q h) (fun q h => .inl h) (fun q h => h.elim .inl (hmore q)) (fun q h => h.elim (fun h => Nat.lt_of_lt_of_le (hd5.lt q h) tg.size) (hlm.lt q))
                refine ⟨rfl, more G (.slice a6 (xl + 1) cap6), _, hd7, ⟨A ++ ((nz : Int), ⟨a6, cap6, rs ++ [r]⟩) :: B, ?_⟩, fun q hq => ⟨.inr hq, fun h2 => ?_⟩, fun q h => .inl h, fun q h => ?_, fun q hq => ?_, ?_⟩
                · have e1 : ({ ({ L4 with long := lz2 + (fs : Int) } : Lg) with m := setL ({ L4 with long := lz2 + (fs : Int) } : Lg).m (nz : Int) (rs ++ [r]) } : Lg) = { L4 with long := L4.long + (framed r).size, m := setL L4.m L4.op (rs ++ [r]) } := by
                    rw [HKZ.out.1, HKZ.out.2.2.2.1, HKZ.out.2.2.2.2.2.1, HKZ.out.2.2.2.2.2.2]
                  rw [← e1]
                  exact hlm
                · rcases hmq q hq with h | h
                  · exact (gfl q h).2 h2
                  · have := hd5.ltd
                    have := hd5.m.lt
                    rcases h2 with rfl | rfl <;> omega
                · rcases h with h | h
                  · exact .inl h
                  · exact (hmore q h).imp id (fun h => by omega)
                · exact (hmq q hq).imp id (fun h => by omega)
                · exact H3.out.2.2.trans (((t35.mono (fun q e => by subst e; exact .inr H5.out.1.gl))).trans (tg.mono (fun q h => .inr h)))
              · have t9 : (kd != 0) = true := by simpa using h9
                have HLY2 : Hid (L.append D r = (kd, D9, L4)) := by unfold Hid; rw [HLY.out.1, if_pos h9]
                clear h9 y35 yf5
                go_wp2
                go_ret
                rw [HLY2.out]
                exact Both.kept ⟨rfl, H3.out.1, ⟨_, H3.out.2.1⟩, H3.out.2.2⟩ HG.out
            · have tb : (kb != 0) = true := by simpa using hb0
              have HAP : Hid (L.append D r = (kb, D4, L4)) := by
                unfold Hid
                rw [append_eq4 HL.out.2.2.2.2.2.2.1 HA.out.1 HFU.out HRW.out.2.1 HO3.out HBG.out.1, if_pos hb0]
              clear hb0
              go_wp2
              go_ret
              rw [HAP.out]
              exact Both.kept ⟨rfl, HZ.out.2.1, HZ.out.1, HZ.out.2.2⟩ HG.out
          · have tr0 : (kr != 0) = true := by simpa using hr0
            have HAP : Hid (L.append D r = (kr, D3, L3)) := append_eq3 HL.out.2.2.2.2.2.2.1 HA.out.1 HFU.out HRW.out.2.1 hr0
            clear hr0 hd3 hl3 ht3
            go_wp2
            go_ret
            rw [HAP.out]
            exact Both.kept ⟨rfl, H3x.out.2.1, H3x.out.1, H3x.out.2.2⟩ HG.out
        · have d3 : decide (sz < lz + (fs : Int)) = false := by simp; omega
          have HFU : Hid (L1.full r = false) := by unfold Hid; rw [HO.out.2.2.2, d1, d2, d3]; rfl
          have e1 := HE1.out
          go_wp2_with fail
          go_quiet (fail)
          obtain ⟨wq, hwq⟩ : ∃ wq, w2.drewN nq = wq := ⟨_, rfl⟩
          have hbq : Below w2.heap.size w2 wq := by rw [← hwq]; exact below_drewN (Below.refl _ _) nq
          have hl2 := H2.out.1.below hbq
          have hd2 := H2.out.2.1.below hbq
          have H2q := Lib.hid (And.intro hl2 (And.intro hd2 (H2.out.2.2.trans (Tn.ofBelow hbq))))
          rw [hwq]
          clear H2 hbq hl2 hd2 hwq c2 c4 c5 e1
          have H2 := H2q
          obtain ⟨rs, hrsx⟩ := HL.out.2.2.1 (by rw [HO.out.2.2.1]; omega)
          have HNZ : Hid (oz < 4294967296) := by unfold Hid; have := HOP.out; omega
          have onz := on1
          have acz : D1.acts < 1000000 := by omega
          have hrl : rs.length + 1 ≤ 1000000 := HL.out.2.2.2.1 _ (getL_mem hrsx)
          have lz0 := hlg0.1
          have HKZ := Lib.hid (And.intro (show L1.op = (oz : Int) by rw [HA.out.2.2.2.2.2.1, HO.out.2.2.1]) (And.intro (show getL L1.m L1.op = some rs by rw [HA.out.2.2.2.2.1, HA.out.2.2.2.2.2.1]; exact hrsx) (And.intro hrl (And.intro (show L1.long = lz by rw [HA.out.2.2.2.2.2.2, HO.out.1]) (And.intro (show L1.dir = dir by rw [HA.out.2.2.1]; exact HL.out.2.2.2.2.1) (And.intro HL.out.2.2.2.2.2.1 HFS.out.1))))))
          have HZ := H2
          have HAP : Hid (L.append D r = L1.lay D1 r) := append_eq1 HL.out.2.2.2.2.2.2.1 HA.out.1 HFU.out (by rw [HA.out.2.2.2.2.2.1, HO.out.2.2.1]; omega)
          have t13 : ((oz : Int) == 0) = false := beq_eq_false_iff_ne.2 (by omega)
          clear hrsx hrl
          obtain ⟨msz, hmz⟩ := HZ.out.1
          obtain ⟨A, B, xa, xc, rfl, hA, hB, hgx⟩ := hmz.split HKZ.out.2.1
          rw [HKZ.out.1] at hmz hA hB hgx
          have z0 := hmz.c0
          have z1 := hmz.c1
          have z4 := hmz.c4
          have z5 := hmz.c5
          have z3 := hmz.c3
          have zf5 := hmz.fz 5
          rw [HKZ.out.1] at z4
          rw [HKZ.out.2.2.2.1] at z5
          rw [HKZ.out.2.2.2.2.1] at z1
          obtain ⟨d, hdd⟩ : ∃ d, D1.app (segN dir oz) fr = d := ⟨_, rfl⟩
          obtain ⟨kd, D9⟩ := d
          have hlay := lay_eq (L := L1) (D := D1) (r := r) (k := kd) (D2 := D9) (nz := oz) HKZ.out.1 (by rw [HKZ.out.2.2.2.2.1, HKZ.out.2.2.2.2.2.1]; exact hdd) HKZ.out.2.1
          rw [← HAP.out] at hlay
          have HLY := Lib.hid (And.intro hlay hdd)
          have HMZ := Lib.hid (And.intro hmz (And.intro hA (And.intro hB hgx)))
          obtain ⟨xl, hxl⟩ : ∃ xl, rs.length = xl := ⟨_, rfl⟩
          have HXL := Lib.hid hxl
          have glz := HG.out lb hmz.gl
          have gmz := HG.out mp hmz.gm
          clear hlay hdd hmz hA hB hgx hxl
          go_wp2_with fail
          refine wp_region_K (fun w' => w'.cell? ⟨lb, 0, none⟩ = some (.pointer (some ⟨db, 0, none⟩)) ∧ w'.cell? ⟨lb, 4, none⟩ = some (.int .i64 (oz : Int))) 12 13 (by kernel_rfl) (by kernel_rfl) ⟨z0, z4⟩ (fun hH => ?_)
          refine wpAnyK_take (i := 0) [12] (v := ?v53) rfl (by kernel_rfl) (by kernel_rfl) (by kernel_rfl) (by kernel_rfl) (fun _ _ _ h => h) (Or.inl ⟨by rfl, ?hy53⟩) hH ?rest53
          case hy53 => (intro w hSw; (try dsimp only at hSw); go_simp; with_reducible rfl)
          try simp only [Act.put, List.setIfInBounds_toArray, List.set_cons_zero, List.set_cons_succ]
          refine wpAnyK_take (i := 1) [12] (v := ?v54) rfl (by kernel_rfl) (by kernel_rfl) (by kernel_rfl) (by kernel_rfl) (fun _ _ _ h => h) (Or.inl ⟨by rfl, ?hy54⟩) hH ?rest54
          case hy54 => (intro w hSw; (try dsimp only at hSw); go_simp; with_reducible rfl)
          try simp only [Act.put, List.setIfInBounds_toArray, List.set_cons_zero, List.set_cons_succ]
          refine wpAnyK_take (i := 2) [12] (v := ?v55) rfl (by kernel_rfl) (by kernel_rfl) (by kernel_rfl) (by kernel_rfl) (fun _ _ _ h => h) (Or.inl ⟨by rfl, ?hy55⟩) hH ?rest55
          case hy55 => (intro w hSw; (try dsimp only at hSw); go_simp; with_reducible rfl)
          try simp only [Act.put, List.setIfInBounds_toArray, List.set_cons_zero, List.set_cons_succ]
          refine wpAnyK_take (i := 3) [12] (v := ?v56) rfl (by kernel_rfl) (by kernel_rfl) (by kernel_rfl) (by kernel_rfl) (fun _ _ _ h => h) (Or.inl ⟨by rfl, ?hy56⟩) hH ?rest56
          case hy56 => (intro w hSw; (try dsimp only at hSw); go_simp; with_reducible rfl)
          try simp only [Act.put, List.setIfInBounds_toArray, List.set_cons_zero, List.set_cons_succ]
          refine wpAnyK_take (i := 4) [12] (v := ?v57) rfl (by kernel_rfl) (by kernel_rfl) (by kernel_rfl) (by kernel_rfl) (fun _ _ _ h => h) (Or.inl ⟨by rfl, ?hy57⟩) hH ?rest57
          case hy57 => (intro w hSw; (try dsimp only at hSw); go_simp; with_reducible rfl)
          try simp only [Act.put, List.setIfInBounds_toArray, List.set_cons_zero, List.set_cons_succ]
          refine wpAnyK_take (i := 5) [12] (v := ?v58) rfl (by kernel_rfl) (by kernel_rfl) (by kernel_rfl) (by kernel_rfl) (fun _ _ _ h => h) (Or.inl ⟨by rfl, ?hy58⟩) hH ?rest58
          case hy58 => (intro w hSw; (try dsimp only at hSw); go_simp; with_reducible rfl)
          try simp only [Act.put, List.setIfInBounds_toArray, List.set_cons_zero, List.set_cons_succ]
          refine wpAnyK_take (i := 6) [12] (v := ?v59) rfl (by kernel_rfl) (by kernel_rfl) (by kernel_rfl) (by kernel_rfl) (fun _ _ _ h => h) (Or.inl ⟨by rfl, ?hy59⟩) hH ?rest59
          case hy59 => (intro w hSw; (try dsimp only at hSw); go_simp; with_reducible rfl)
          try simp only [Act.put, List.setIfInBounds_toArray, List.set_cons_zero, List.set_cons_succ]
          refine wpAnyK_take (i := 7) [12] (v := ?v60) rfl (by kernel_rfl) (by kernel_rfl) (by kernel_rfl) (by kernel_rfl) (fun _ _ _ h => h) (Or.inl ⟨by rfl, ?hy60⟩) hH ?rest60
          case hy60 => (intro w hSw; (try dsimp only at hSw); go_simp; with_reducible rfl)
          try simp only [Act.put, List.setIfInBounds_toArray, List.set_cons_zero, List.set_cons_succ]
          refine wpAnyK_take (i := 8) [12] (v := ?v61) rfl (by kernel_rfl) (by kernel_rfl) (by kernel_rfl) (by kernel_rfl) (fun _ _ _ h => h) (Or.inl ⟨by rfl, ?hy61⟩) hH ?rest61
          case hy61 => (intro w hSw; (try dsimp only at hSw); go_simp; with_reducible rfl)
          try simp only [Act.put, List.setIfInBounds_toArray, List.set_cons_zero, List.set_cons_succ]
          refine wpAnyK_take (i := 10) [12] (v := ?v62) rfl (by kernel_rfl) (by kernel_rfl) (by kernel_rfl) (by kernel_rfl) (fun _ _ _ h => h) (Or.inl ⟨by rfl, ?hy62⟩) hH ?rest62
          case hy62 => (intro w hSw; (try dsimp only at hSw); go_simp; with_reducible rfl)
          try simp only [Act.put, List.setIfInBounds_toArray, List.set_cons_zero, List.set_cons_succ]
          refine wpAnyK_one (i := 9) (by kernel_rfl) rfl (fun K hK => ?_) (by kernel_rfl)
          go_simp
          go_at_call 26
          have z1d : wq.drew.cell? ⟨lb, 1, none⟩ = some (.string dir) := z1
          with_reducible refine (w_name (lb := lb) hd40 oz HNZ.out z1d).mono ?_
          rintro e y2 ⟨rfl, hb2⟩
          have hb02 := (Below.refl _ _).drew.trans hb2
          have kd2 := And.intro ((hb2.cell (p := ⟨lb, 0, none⟩) (World.block_lt_of_cell? _ _ z0)).trans z0) ((hb2.cell (p := ⟨lb, 4, none⟩) (World.block_lt_of_cell? _ _ z4)).trans z4)
          have hd2 := HZ.out.2.1.below hb02
          have hm2 := HMZ.out.1.tn (Tn.ofBelow (F := fun _ => False) hb02) (fun _ _ h => h)
          have H2 := Lib.hid (And.intro hb02 (And.intro hd2 hm2))
          obtain ⟨sg, hsg⟩ : ∃ sg, segN dir oz = sg := ⟨_, rfl⟩
          have hszg : sg.size ≤ 140737488351232 := by rw [← hsg, ba_size, segN_list, List.length_append, List.length_append, hexF_len, ← ba_size]; simp; omega
          have HSG := Lib.hid hsg
          rw [hsg]
          clear hb2 hb02 hd2 hm2 hsg
          refine hK.out _ _ kd2 (fun hH => ?_)
          clear hK K
          try simp only [Act.put, List.setIfInBounds_toArray, List.set_cons_zero, List.set_cons_succ]
          refine wpAnyK_one (i := 11) (by kernel_rfl) rfl (fun K hK => ?_) (by kernel_rfl)
          go_simp
          go_at_call 25
          with_reducible refine (append_any H2.out.2.1 onz acz sg fr hszg hfrs).mono ?_
          rw [← HSG.out, HLY.out.2]
          rintro e y3 ⟨rfl, hd3, ht3⟩
          simp only at hd3
          have kd3 := And.intro (ht3.cell kd2.1 glz.2) (ht3.cell kd2.2 glz.2)
          have hm3 := H2.out.2.2.tn ht3 (fun q hq h => (HG.out q hq).2 h)
          have y35 := hm3.c5
          rw [HKZ.out.2.2.2.1] at y35
          have yf5 := hm3.fz 5
          have ht03 : Tn (fun q => two db mb q ∨ G q) w y3 := HZ.out.2.2.trans (tn_two ((Tn.ofBelow H2.out.1).trans ht3))
          have H3 := Lib.hid (And.intro hd3 (And.intro hm3 ht03))
          clear hd3 ht3 hm3 ht03
          refine hK.out _ _ kd3 (fun hH => ?_)
          clear hK K
          try simp only [Act.put, List.setIfInBounds_toArray, List.set_cons_zero, List.set_cons_succ]
          refine wpAnyK_last (by kernel_rfl) rfl (fun K hK => ?_) (by kernel_rfl)
          go_simp
          refine hK.out _ _ (wpAnyK_done (by kernel_rfl) ?_ _)
          clear hK K hH kd2 kd3 z0 z1 z3 z4 z5 zf5 z1d
          by_cases h9 : kd = 0
          · subst h9
            have HLY2 : Hid (L.append D r = (0, D9, { L1 with long := L1.long + (framed r).size, m := setL L1.m L1.op (rs ++ [r]) })) := by unfold Hid; rw [HLY.out.1]; rfl
            obtain ⟨W8, hW8⟩ : ∃ W8, y3.setCell ⟨lb, 5, none⟩ (.int .i64 (lz + (fs : Int))) = W8 := ⟨_, rfl⟩
            have hm8 := H3.out.2.1.longer (n := lz + (fs : Int)) ⟨by omega, by omega⟩
            rw [hW8] at hm8
            have t38 : Tn (fun q => q = lb) y3 W8 := by rw [← hW8]; exact Tn.setCell _ _ _ rfl
            have v0 := hm8.c0
            have v3 := hm8.c3
            have v4 := hm8.c4
            have lk8 : (Instr.lookup tSeg (.map (some mp)) (.int .i64 (oz : Int)) false).run Tryz.prog W8 = .ok (.slice xa xl xc) W8 := by
              have h5 := MapL.look hm8.mpl keyZ und_seg (zero_strs _) false (oz : Int)
              rw [HMZ.out.2.2.2] at h5
              rw [← HXL.out]
              exact h5
            rw [show ({ L1 with long := lz + (fs : Int) } : Lg).op = (oz : Int) from HKZ.out.1] at v4
            have H8 := Lib.hid (And.intro hm8 (And.intro t38 hW8))
            clear hm8 t38
            go_wp2
            have vd : W8.drew.cell? ⟨lb, 3, none⟩ = some (.map (some mp)) ∧ W8.drew.cell? ⟨lb, 4, none⟩ = some (.int .i64 (oz : Int)) ∧ (Instr.lookup tSeg (.map (some mp)) (.int .i64 (oz : Int)) false).run Tryz.prog W8.drew = .ok (.slice xa xl xc) W8.drew := by
              refine ⟨v3, v4, ?_⟩
              have h5 := MapL.look (MapL.below H8.out.1.mpl (Below.refl _ _).drew) keyZ und_seg (zero_strs _) false (oz : Int)
              rw [HMZ.out.2.2.2] at h5
              rw [← HXL.out]
              exact h5
            clear hW8
            refine wp_region_K (fun w' => w'.cell? ⟨lb, 3, none⟩ = some (.map (some mp)) ∧ w'.cell? ⟨lb, 4, none⟩ = some (.int .i64 (oz : Int)) ∧ (Instr.lookup tSeg (.map (some mp)) (.int .i64 (oz : Int)) false).run Tryz.prog w' = .ok (.slice xa xl xc) w') 21 22 (by kernel_rfl) (by kernel_rfl) vd (fun hH => ?_)
            refine wpAnyK_take (i := 0) [21] (v := ?v63) rfl (by kernel_rfl) (by kernel_rfl) (by kernel_rfl) (by kernel_rfl) (fun _ _ _ h => h) (Or.inl ⟨by rfl, ?hy63⟩) hH ?rest63
            case hy63 => (intro w hSw; (try dsimp only at hSw); go_simp; with_reducible rfl)
            try simp only [Act.put, List.setIfInBounds_toArray, List.set_cons_zero, List.set_cons_succ]
            refine wpAnyK_take (i := 1) [21] (v := ?v64) rfl (by kernel_rfl) (by kernel_rfl) (by kernel_rfl) (by kernel_rfl) (fun _ _ _ h => h) (Or.inl ⟨by rfl, ?hy64⟩) hH ?rest64
            case hy64 => (intro w hSw; (try dsimp only at hSw); go_simp; with_reducible rfl)
            try simp only [Act.put, List.setIfInBounds_toArray, List.set_cons_zero, List.set_cons_succ]
            refine wpAnyK_take (i := 2) [21] (v := ?v65) rfl (by kernel_rfl) (by kernel_rfl) (by kernel_rfl) (by kernel_rfl) (fun _ _ _ h => h) (Or.inl ⟨by rfl, ?hy65⟩) hH ?rest65
            case hy65 => (intro w hSw; (try dsimp only at hSw); go_simp; with_reducible rfl)
            try simp only [Act.put, List.setIfInBounds_toArray, List.set_cons_zero, List.set_cons_succ]
            refine wpAnyK_take (i := 3) [21] (v := ?v66) rfl (by kernel_rfl) (by kernel_rfl) (by kernel_rfl) (by kernel_rfl) (fun _ _ _ h => h) (Or.inl ⟨by rfl, ?hy66⟩) hH ?rest66
            case hy66 => (intro w hSw; (try dsimp only at hSw); go_simp; with_reducible rfl)
            try simp only [Act.put, List.setIfInBounds_toArray, List.set_cons_zero, List.set_cons_succ]
            refine wpAnyK_take (i := 4) [21] (v := ?v67) rfl (by kernel_rfl) (by kernel_rfl) (by kernel_rfl) (by kernel_rfl) (fun _ _ _ h => h) (Or.inl ⟨by rfl, ?hy67⟩) hH ?rest67
            case hy67 => (intro w hSw; (try dsimp only at hSw); go_simp; with_reducible rfl)
            try simp only [Act.put, List.setIfInBounds_toArray, List.set_cons_zero, List.set_cons_succ]
            refine wpAnyK_take (i := 5) [21] (v := ?v68) rfl (by kernel_rfl) (by kernel_rfl) (by kernel_rfl) (by kernel_rfl) (fun _ _ _ h => h) (Or.inl ⟨by rfl, ?hy68⟩) hH ?rest68
            case hy68 => (intro w hSw; (try dsimp only at hSw); go_simp; with_reducible rfl)
            try simp only [Act.put, List.setIfInBounds_toArray, List.set_cons_zero, List.set_cons_succ]
            refine wpAnyK_take (i := 6) [21] (v := ?v69) rfl (by kernel_rfl) (by kernel_rfl) (by kernel_rfl) (by kernel_rfl) (fun _ _ _ h => h) (Or.inl ⟨by rfl, ?hy69⟩) hH ?rest69
            case hy69 => (intro w hSw; (try dsimp only at hSw); go_simp; with_reducible rfl)
            try simp only [Act.put, List.setIfInBounds_toArray, List.set_cons_zero, List.set_cons_succ]
            refine wpAnyK_take (i := 7) [21] (v := ?v70) rfl (by kernel_rfl) (by kernel_rfl) (by kernel_rfl) (by kernel_rfl) (fun _ _ _ h => h) (Or.inl ⟨by rfl, ?hy70⟩) hH ?rest70
            case hy70 => (intro w hSw; (try dsimp only at hSw); go_simp; with_reducible rfl)
            try simp only [Act.put, List.setIfInBounds_toArray, List.set_cons_zero, List.set_cons_succ]
            refine wpAnyK_take (i := 8) [21] (v := ?v71) rfl (by kernel_rfl) (by kernel_rfl) (by kernel_rfl) (by kernel_rfl) (fun _ _ _ h => h) (Or.inl ⟨by rfl, ?hy71⟩) hH ?rest71
            case hy71 => (intro w hSw; (try dsimp only at hSw); go_simp; with_reducible rfl)
            try simp only [Act.put, List.setIfInBounds_toArray, List.set_cons_zero, List.set_cons_succ]
            refine wpAnyK_take (i := 9) [21] (v := ?v72) rfl (by kernel_rfl) (by kernel_rfl) (by kernel_rfl) (by kernel_rfl) (fun _ _ _ h => h) (Or.inl ⟨by rfl, ?hy72⟩) hH ?rest72
            case hy72 => (intro w hSw; (try dsimp only at hSw); go_simp; with_reducible rfl)
            try simp only [Act.put, List.setIfInBounds_toArray, List.set_cons_zero, List.set_cons_succ]
            refine wpAnyK_take (i := 10) [21] (v := ?v73) rfl (by kernel_rfl) (by kernel_rfl) (by kernel_rfl) (by kernel_rfl) (fun _ _ _ h => h) (Or.inl ⟨by rfl, ?hy73⟩) hH ?rest73
            case hy73 => (intro w hSw; (try dsimp only at hSw); go_simp; with_reducible rfl)
            try simp only [Act.put, List.setIfInBounds_toArray, List.set_cons_zero, List.set_cons_succ]
            refine wpAnyK_take (i := 11) [21] (v := ?v74) rfl (by kernel_rfl) (by kernel_rfl) (by kernel_rfl) (by kernel_rfl) (fun _ _ _ h => h) (Or.inl ⟨by rfl, ?hy74⟩) hH ?rest74
            case hy74 => (intro w hSw; (try dsimp only at hSw); go_simp; with_reducible rfl)
            try simp only [Act.put, List.setIfInBounds_toArray, List.set_cons_zero, List.set_cons_succ]
            refine wpAnyK_take (i := 12) [21] (v := ?v75) rfl (by kernel_rfl) (by kernel_rfl) (by kernel_rfl) (by kernel_rfl) (fun _ _ _ h => h) (Or.inl ⟨by rfl, ?hy75⟩) hH ?rest75
            case hy75 => (intro w hSw; (try dsimp only at hSw); go_simp; with_reducible rfl)
            try simp only [Act.put, List.setIfInBounds_toArray, List.set_cons_zero, List.set_cons_succ]
            refine wpAnyK_take (i := 13) [21] (v := ?v76) rfl (by kernel_rfl) (by kernel_rfl) (by kernel_rfl) (by kernel_rfl) (fun _ _ _ h => h) (Or.inl ⟨by rfl, ?hy76⟩) hH ?rest76
            case hy76 => (intro w hSw; (try dsimp only at hSw); go_simp; with_reducible rfl)
            try simp only [Act.put, List.setIfInBounds_toArray, List.set_cons_zero, List.set_cons_succ]
            refine wpAnyK_take (i := 14) [21] (v := ?v77) rfl (by kernel_rfl) (by kernel_rfl) (by kernel_rfl) (by kernel_rfl) (fun _ _ _ h => h) (Or.inl ⟨by rfl, ?hy77⟩) hH ?rest77
            case hy77 => (intro w hSw; (try dsimp only at hSw); go_simp; with_reducible rfl)
            try simp only [Act.put, List.setIfInBounds_toArray, List.set_cons_zero, List.set_cons_succ]
            refine wpAnyK_take (i := 15) [21] (v := ?v78) rfl (by kernel_rfl) (by kernel_rfl) (by kernel_rfl) (by kernel_rfl) (fun _ _ _ h => h) (Or.inl ⟨by rfl, ?hy78⟩) hH ?rest78
            case hy78 => (intro w hSw; (try dsimp only at hSw); go_simp; with_reducible rfl)
            try simp only [Act.put, List.setIfInBounds_toArray, List.set_cons_zero, List.set_cons_succ]
            refine wpAnyK_take (i := 16) [21] (v := ?v79) rfl (by kernel_rfl) (by kernel_rfl) (by kernel_rfl) (by kernel_rfl) (fun _ _ _ h => h) (Or.inl ⟨by rfl, ?hy79⟩) hH ?rest79
            case hy79 => (intro w hSw; (try dsimp only at hSw); go_simp; with_reducible rfl)
            try simp only [Act.put, List.setIfInBounds_toArray, List.set_cons_zero, List.set_cons_succ]
            refine wpAnyK_take (i := 17) [21] (v := ?v80) rfl (by kernel_rfl) (by kernel_rfl) (by kernel_rfl) (by kernel_rfl) (fun _ _ _ h => h) (Or.inl ⟨by rfl, ?hy80⟩) hH ?rest80
            case hy80 => (intro w hSw; (try dsimp only at hSw); go_simp; with_reducible rfl)
            try simp only [Act.put, List.setIfInBounds_toArray, List.set_cons_zero, List.set_cons_succ]
            refine wpAnyK_one (i := 18) (by kernel_rfl) rfl (fun K hK => ?_) (by kernel_rfl)
            go_simp
            go_at_call 17
            with_reducible refine (clone_any _ r hrs0).mono ?_
            rintro e y4 ⟨rfl, hb4⟩
            have hb84 := (Below.refl _ _).drew.trans hb4
            have lkb : ∀ y, Below W8.heap.size W8 y → (Instr.lookup tSeg (.map (some mp)) (.int .i64 (oz : Int)) false).run Tryz.prog y = .ok (.slice xa xl xc) y := fun y hy => by
              have h5 := MapL.look (MapL.below H8.out.1.mpl hy) keyZ und_seg (zero_strs _) false (oz : Int)
              rw [HMZ.out.2.2.2] at h5
              rw [← HXL.out]
              exact h5
            have hlb8 := World.block_lt_of_cell? _ _ v3
            have vd4 := And.intro ((hb84.cell (p := ⟨lb, 3, none⟩) hlb8).trans v3) (And.intro ((hb84.cell (p := ⟨lb, 4, none⟩) hlb8).trans v4) (lkb y4 hb84))
            have H4 := Lib.hid (And.intro hb84 lkb)
            clear hb4 hb84 lkb
            refine hK.out _ _ vd4 (fun hH => ?_)
            clear hK K
            try simp only [Act.put, List.setIfInBounds_toArray, List.set_cons_zero, List.set_cons_succ]
            refine wpAnyK_one (i := 19) (by kernel_rfl) rfl (fun K hK => ?_) (by kernel_rfl)
            go_simp
            obtain ⟨y5, hy5⟩ : ∃ y5, y5 = y4.alloc (.cells #[.string r] 9) := ⟨_, rfl⟩
            have hb85 : Below W8.heap.size W8 y5 := by rw [hy5]; exact H4.out.1.alloc H4.out.1.size _
            have hsrc : Src eStr y5 (.slice (some ⟨y4.heap.size, 0, none⟩) 1 1) [r] := by rw [hy5]; exact src_one y4 r _ _ rfl 1
            have hm5 := H8.out.1.tn (Tn.ofBelow (F := fun _ => False) hb85) (fun _ _ h => h)
            have vd5 := And.intro ((hb85.cell (p := ⟨lb, 3, none⟩) hlb8).trans v3) (And.intro ((hb85.cell (p := ⟨lb, 4, none⟩) hlb8).trans v4) (H4.out.2 y5 hb85))
            have hrow5 : Own eStr y5 0 (.slice xa xl xc) rs := by
              have h5 := hm5.rows ((oz : Int), (⟨xa, xc, rs⟩ : Sg)) (by simp)
              rw [← HXL.out]
              exact h5
            have H5 := Lib.hid (And.intro hm5 (And.intro hsrc (And.intro hrow5 hb85)))
            rw [← hy5]
            clear hb85 hsrc hm5 hrow5 hy5
            refine hK.out _ _ vd5 (fun hH => ?_)
            clear hK K
            try simp only [Act.put, List.setIfInBounds_toArray, List.set_cons_zero, List.set_cons_succ]
            refine wpAnyK_one (i := 20) (by kernel_rfl) rfl (fun K hK => ?_) (by kernel_rfl)
            refine step_app2 eStr rfl _ _ rfl rfl rfl H5.out.2.2.1 H5.out.2.1 (by have := HKZ.out.2.2.1; simp; omega) (Nat.zero_le _) ?_
            rw [HXL.out]
            intro a6 cap6 y6 hap'
            have hap : Appd eStr y5 y6 0 (.slice xa xl xc) (.slice a6 (xl + 1) cap6) rs [r] := hap'
            have hx5 : ∀ q, (Value.slice xa xl xc).ownBlock = some q → q ≠ lb ∧ q ≠ mp := fun q hq => H5.out.1.off ((oz : Int), (⟨xa, xc, rs⟩ : Sg)) (by simp) q (by show (Value.slice xa rs.length xc).ownBlock = some q; rw [HXL.out]; exact hq)
            have nb5 : ¬ (Value.slice xa xl xc).ownBlock = some lb := fun e => (hx5 lb e).1 rfl
            have hmp6 := MapL.tn H5.out.1.mpl hap.tn (fun e => (hx5 mp e).2 rfl)
            have lk6 : (Instr.lookup tSeg (.map (some mp)) (.int .i64 (oz : Int)) false).run Tryz.prog y6 = .ok (.slice xa xl xc) y6 := by
              have h5 := MapL.look hmp6 keyZ und_seg (zero_strs _) false (oz : Int)
              rw [HMZ.out.2.2.2] at h5
              rw [← HXL.out]
              exact h5
            have vd6 := And.intro (hap.tn.cell vd5.1 nb5) (And.intro (hap.tn.cell vd5.2.1 nb5) lk6)
            obtain ⟨y7, hrun, hm7, ht7, hz7⟩ := MapL.put hmp6 keyZ und_seg (oz : Int) (⟨a6, cap6, rs ++ [r]⟩ : Sg)
            have hrun' : (Instr.mapUpdate tSeg (.map (some mp)) (.int .i64 (oz : Int)) (.slice a6 (xl + 1) cap6)).run Tryz.prog y6 = .ok () y7 := by
              have : cvS (⟨a6, cap6, rs ++ [r]⟩ : Sg) = .slice a6 (xl + 1) cap6 := by
                show Value.slice a6 (rs ++ [r]).length cap6 = _
                rw [List.length_append, HXL.out]; rfl
              rw [this] at hrun
              exact hrun
            have H7 := Lib.hid (And.intro hap (And.intro hm7 ht7))
            clear hap hap' hmp6 lk6 hrun hm7 ht7 hz7
            refine hK.out _ _ vd6 (fun hH => ?_)
            clear hK K
            try simp only [Act.put, List.setIfInBounds_toArray, List.set_cons_zero, List.set_cons_succ]
            refine wpAnyK_last (by kernel_rfl) rfl (fun K hK => ?_) (by kernel_rfl)
            go_simp
            refine hK.out _ _ (wpAnyK_done (by kernel_rfl) ?_ _)
            clear hK K hH vd vd4 vd5 vd6 v0 v3 v4 lk8 hrun'
            go_wp2_with fail
            go_ret
            unfold Kept
            rw [HLY2.out]
            obtain ⟨hlm, tg, hmq⟩ := LoM.lay (G := G) (xa := xa) (xc := xc) (rs := rs) (r := r) (n' := xl + 1) (a' := a6) (c' := cap6) H5.out.1 HMZ.out.2.1 HMZ.out.2.2.1 (by rw [List.length_append, HXL.out]; rfl) (by rw [HXL.out]; exact H7.out.1) H7.out.2.1 H7.out.2.2 HKZ.out.2.2.1
            have t35 : Tn (fun q => q = lb) y3 y5 := H8.out.2.1.trans (Tn.ofBelow H5.out.2.2.2)
            have h35 : y3.heap.size ≤ y5.heap.size := t35.size
            have hw3 := H3.out.2.2.size
            have gfl : ∀ q, G q → F q ∧ ¬ two db mb q := HG.out
            have hd5 := H3.out.1.frame t35 (fun q _ e => by subst e; exact ⟨glz.1, fun e => glz.2 (.inl e), fun e => glz.2 (.inr e)⟩)
            have hmore : ∀ q, more G (.slice a6 (xl + 1) cap6) q → F q ∨ y5.heap.size ≤ q := fun q hq => (hmq q hq).imp (fun h => (gfl q h).1) id
            have hd7 : DkAt (fun q => F q ∨ more G (.slice a6 (xl + 1) cap6) q) y7 db mb D9 := hd5.widen (H := G) tg (fun q _ h => gfl q h) (fun q h => .inl h) (fun q h => h.elim .inl (hmore q)) (fun q h => h.elim (fun h => Nat.lt_of_lt_of_le (hd5.lt q h) tg.size) (hlm.lt q))
            refine ⟨rfl, more G (.slice a6 (xl + 1) cap6), _, hd7, ⟨A ++ ((oz : Int), ⟨a6, cap6, rs ++ [r]⟩) :: B, ?_⟩, fun q hq => ⟨.inr hq, fun h2 => ?_⟩, fun q h => .inl h, fun q h => ?_, fun q hq => ?_, ?_⟩
            · have e1 : ({ ({ L1 with long := lz + (fs : Int) } : Lg) with m := setL ({ L1 with long := lz + (fs : Int) } : Lg).m (oz : Int) (rs ++ [r]) } : Lg) = { L1 with long := L1.long + (framed r).size, m := setL L1.m L1.op (rs ++ [r]) } := by
                rw [HKZ.out.1, HKZ.out.2.2.2.1, HKZ.out.2.2.2.2.2.1, HKZ.out.2.2.2.2.2.2]
              rw [← e1]
              exact hlm
            · rcases hmq q hq with h | h
              · exact (gfl q h).2 h2
              · have := hd5.ltd
                have := hd5.m.lt
                rcases h2 with rfl | rfl <;> omega
            · rcases h with h | h
              · exact .inl h
              · exact (hmore q h).imp id (fun h => by omega)
            · exact (hmq q hq).imp id (fun h => by omega)
            · exact H3.out.2.2.trans (((t35.mono (fun q e => by subst e; exact .inr H5.out.1.gl))).trans (tg.mono (fun q h => .inr h)))
          · have t9 : (kd != 0) = true := by simpa using h9
            have HLY2 : Hid (L.append D r = (kd, D9, L1)) := by unfold Hid; rw [HLY.out.1, if_pos h9]
            clear h9 y35 yf5
            go_wp2
            go_ret
            rw [HLY2.out]
            exact Both.kept ⟨rfl, H3.out.1, ⟨_, H3.out.2.1⟩, H3.out.2.2⟩ HG.out
      · have d2 : decide (0 < lz) = false := by simp; omega
        have HFU : Hid (L1.full r = false) := by unfold Hid; rw [HO.out.2.2.2, d1, d2]; rfl
        go_wp2_with fail
        go_quiet (fail)
        obtain ⟨wq, hwq⟩ : ∃ wq, w2.drewN nq = wq := ⟨_, rfl⟩
        have hbq : Below w2.heap.size w2 wq := by rw [← hwq]; exact below_drewN (Below.refl _ _) nq
        have hl2 := H2.out.1.below hbq
        have hd2 := H2.out.2.1.below hbq
        have H2q := Lib.hid (And.intro hl2 (And.intro hd2 (H2.out.2.2.trans (Tn.ofBelow hbq))))
        rw [hwq]
        clear H2 hbq hl2 hd2 hwq c2 c4 c5
        have H2 := H2q
        obtain ⟨rs, hrsx⟩ := HL.out.2.2.1 (by rw [HO.out.2.2.1]; omega)
        have HNZ : Hid (oz < 4294967296) := by unfold Hid; have := HOP.out; omega
        have onz := on1
        have acz : D1.acts < 1000000 := by omega
        have hrl : rs.length + 1 ≤ 1000000 := HL.out.2.2.2.1 _ (getL_mem hrsx)
        have lz0 := hlg0.1
        have HKZ := Lib.hid (And.intro (show L1.op = (oz : Int) by rw [HA.out.2.2.2.2.2.1, HO.out.2.2.1]) (And.intro (show getL L1.m L1.op = some rs by rw [HA.out.2.2.2.2.1, HA.out.2.2.2.2.2.1]; exact hrsx) (And.intro hrl (And.intro (show L1.long = lz by rw [HA.out.2.2.2.2.2.2, HO.out.1]) (And.intro (show L1.dir = dir by rw [HA.out.2.2.1]; exact HL.out.2.2.2.2.1) (And.intro HL.out.2.2.2.2.2.1 HFS.out.1))))))
        have HZ := H2
        have HAP : Hid (L.append D r = L1.lay D1 r) := append_eq1 HL.out.2.2.2.2.2.2.1 HA.out.1 HFU.out (by rw [HA.out.2.2.2.2.2.1, HO.out.2.2.1]; omega)
        have t13 : ((oz : Int) == 0) = false := beq_eq_false_iff_ne.2 (by omega)
        clear hrsx hrl
        obtain ⟨msz, hmz⟩ := HZ.out.1
        obtain ⟨A, B, xa, xc, rfl, hA, hB, hgx⟩ := hmz.split HKZ.out.2.1
        rw [HKZ.out.1] at hmz hA hB hgx
        have z0 := hmz.c0
        have z1 := hmz.c1
        have z4 := hmz.c4
        have z5 := hmz.c5
        have z3 := hmz.c3
        have zf5 := hmz.fz 5
        rw [HKZ.out.1] at z4
        rw [HKZ.out.2.2.2.1] at z5
        rw [HKZ.out.2.2.2.2.1] at z1
        obtain ⟨d, hdd⟩ : ∃ d, D1.app (segN dir oz) fr = d := ⟨_, rfl⟩
        obtain ⟨kd, D9⟩ := d
        have hlay := lay_eq (L := L1) (D := D1) (r := r) (k := kd) (D2 := D9) (nz := oz) HKZ.out.1 (by rw [HKZ.out.2.2.2.2.1, HKZ.out.2.2.2.2.2.1]; exact hdd) HKZ.out.2.1
        rw [← HAP.out] at hlay
        have HLY := Lib.hid (And.intro hlay hdd)
        have HMZ := Lib.hid (And.intro hmz (And.intro hA (And.intro hB hgx)))
        obtain ⟨xl, hxl⟩ : ∃ xl, rs.length = xl := ⟨_, rfl⟩
        have HXL := Lib.hid hxl
        have glz := HG.out lb hmz.gl
        have gmz := HG.out mp hmz.gm
        clear hlay hdd hmz hA hB hgx hxl
        go_wp2_with fail
        refine wp_region_K (fun w' => w'.cell? ⟨lb, 0, none⟩ = some (.pointer (some ⟨db, 0, none⟩)) ∧ w'.cell? ⟨lb, 4, none⟩ = some (.int .i64 (oz : Int))) 12 13 (by kernel_rfl) (by kernel_rfl) ⟨z0, z4⟩ (fun hH => ?_)
        refine wpAnyK_take (i := 0) [12] (v := ?v81) rfl (by kernel_rfl) (by kernel_rfl) (by kernel_rfl) (by kernel_rfl) (fun _ _ _ h => h) (Or.inl ⟨by rfl, ?hy81⟩) hH ?rest81
        case hy81 => (intro w hSw; (try dsimp only at hSw); go_simp; with_reducible rfl)
        try simp only [Act.put, List.setIfInBounds_toArray, List.set_cons_zero, List.set_cons_succ]
        refine wpAnyK_take (i := 1) [12] (v := ?v82) rfl (by kernel_rfl) (by kernel_rfl) (by kernel_rfl) (by kernel_rfl) (fun _ _ _ h => h) (Or.inl ⟨by rfl, ?hy82⟩) hH ?rest82
        case hy82 => (intro w hSw; (try dsimp only at hSw); go_simp; with_reducible rfl)
        try simp only [Act.put, List.setIfInBounds_toArray, List.set_cons_zero, List.set_cons_succ]
        refine wpAnyK_take (i := 2) [12] (v := ?v83) rfl (by kernel_rfl) (by kernel_rfl) (by kernel_rfl) (by kernel_rfl) (fun _ _ _ h => h) (Or.inl ⟨by rfl, ?hy83⟩) hH ?rest83
        case hy83 => (intro w hSw; (try dsimp only at hSw); go_simp; with_reducible rfl)
        try simp only [Act.put, List.setIfInBounds_toArray, List.set_cons_zero, List.set_cons_succ]
        refine wpAnyK_take (i := 3) [12] (v := ?v84) rfl (by kernel_rfl) (by kernel_rfl) (by kernel_rfl) (by kernel_rfl) (fun _ _ _ h => h) (Or.inl ⟨by rfl, ?hy84⟩) hH ?rest84
        case hy84 => (intro w hSw; (try dsimp only at hSw); go_simp; with_reducible rfl)
        try simp only [Act.put, List.setIfInBounds_toArray, List.set_cons_zero, List.set_cons_succ]
        refine wpAnyK_take (i := 4) [12] (v := ?v85) rfl (by kernel_rfl) (by kernel_rfl) (by kernel_rfl) (by kernel_rfl) (fun _ _ _ h => h) (Or.inl ⟨by rfl, ?hy85⟩) hH ?rest85
        case hy85 => (intro w hSw; (try dsimp only at hSw); go_simp; with_reducible rfl)
        try simp only [Act.put, List.setIfInBounds_toArray, List.set_cons_zero, List.set_cons_succ]
        refine wpAnyK_take (i := 5) [12] (v := ?v86) rfl (by kernel_rfl) (by kernel_rfl) (by kernel_rfl) (by kernel_rfl) (fun _ _ _ h => h) (Or.inl ⟨by rfl, ?hy86⟩) hH ?rest86
        case hy86 => (intro w hSw; (try dsimp only at hSw); go_simp; with_reducible rfl)
        try simp only [Act.put, List.setIfInBounds_toArray, List.set_cons_zero, List.set_cons_succ]
        refine wpAnyK_take (i := 6) [12] (v := ?v87) rfl (by kernel_rfl) (by kernel_rfl) (by kernel_rfl) (by kernel_rfl) (fun _ _ _ h => h) (Or.inl ⟨by rfl, ?hy87⟩) hH ?rest87
        case hy87 => (intro w hSw; (try dsimp only at hSw); go_simp; with_reducible rfl)
        try simp only [Act.put, List.setIfInBounds_toArray, List.set_cons_zero, List.set_cons_succ]
        refine wpAnyK_take (i := 7) [12] (v := ?v88) rfl (by kernel_rfl) (by kernel_rfl) (by kernel_rfl) (by kernel_rfl) (fun _ _ _ h => h) (Or.inl ⟨by rfl, ?hy88⟩) hH ?rest88
        case hy88 => (intro w hSw; (try dsimp only at hSw); go_simp; with_reducible rfl)
        try simp only [Act.put, List.setIfInBounds_toArray, List.set_cons_zero, List.set_cons_succ]
        refine wpAnyK_take (i := 8) [12] (v := ?v89) rfl (by kernel_rfl) (by kernel_rfl) (by kernel_rfl) (by kernel_rfl) (fun _ _ _ h => h) (Or.inl ⟨by rfl, ?hy89⟩) hH ?rest89
        case hy89 => (intro w hSw; (try dsimp only at hSw); go_simp; with_reducible rfl)
        try simp only [Act.put, List.setIfInBounds_toArray, List.set_cons_zero, List.set_cons_succ]
        refine wpAnyK_take (i := 10) [12] (v := ?v90) rfl (by kernel_rfl) (by kernel_rfl) (by kernel_rfl) (by kernel_rfl) (fun _ _ _ h => h) (Or.inl ⟨by rfl, ?hy90⟩) hH ?rest90
        case hy90 => (intro w hSw; (try dsimp only at hSw); go_simp; with_reducible rfl)
        try simp only [Act.put, List.setIfInBounds_toArray, List.set_cons_zero, List.set_cons_succ]
        refine wpAnyK_one (i := 9) (by kernel_rfl) rfl (fun K hK => ?_) (by kernel_rfl)
        go_simp
        go_at_call 26
        have z1d : wq.drew.cell? ⟨lb, 1, none⟩ = some (.string dir) := z1
        with_reducible refine (w_name (lb := lb) hd40 oz HNZ.out z1d).mono ?_
        rintro e y2 ⟨rfl, hb2⟩
        have hb02 := (Below.refl _ _).drew.trans hb2
        have kd2 := And.intro ((hb2.cell (p := ⟨lb, 0, none⟩) (World.block_lt_of_cell? _ _ z0)).trans z0) ((hb2.cell (p := ⟨lb, 4, none⟩) (World.block_lt_of_cell? _ _ z4)).trans z4)
        have hd2 := HZ.out.2.1.below hb02
        have hm2 := HMZ.out.1.tn (Tn.ofBelow (F := fun _ => False) hb02) (fun _ _ h => h)
        have H2 := Lib.hid (And.intro hb02 (And.intro hd2 hm2))
        obtain ⟨sg, hsg⟩ : ∃ sg, segN dir oz = sg := ⟨_, rfl⟩
        have hszg : sg.size ≤ 140737488351232 := by rw [← hsg, ba_size, segN_list, List.length_append, List.length_append, hexF_len, ← ba_size]; simp; omega
        have HSG := Lib.hid hsg
        rw [hsg]
        clear hb2 hb02 hd2 hm2 hsg
        refine hK.out _ _ kd2 (fun hH => ?_)
        clear hK K
        try simp only [Act.put, List.setIfInBounds_toArray, List.set_cons_zero, List.set_cons_succ]
        refine wpAnyK_one (i := 11) (by kernel_rfl) rfl (fun K hK => ?_) (by kernel_rfl)
        go_simp
        go_at_call 25
        with_reducible refine (append_any H2.out.2.1 onz acz sg fr hszg hfrs).mono ?_
        rw [← HSG.out, HLY.out.2]
        rintro e y3 ⟨rfl, hd3, ht3⟩
        simp only at hd3
        have kd3 := And.intro (ht3.cell kd2.1 glz.2) (ht3.cell kd2.2 glz.2)
        have hm3 := H2.out.2.2.tn ht3 (fun q hq h => (HG.out q hq).2 h)
        have y35 := hm3.c5
        rw [HKZ.out.2.2.2.1] at y35
        have yf5 := hm3.fz 5
        have ht03 : Tn (fun q => two db mb q ∨ G q) w y3 := HZ.out.2.2.trans (tn_two ((Tn.ofBelow H2.out.1).trans ht3))
        have H3 := Lib.hid (And.intro hd3 (And.intro hm3 ht03))
        clear hd3 ht3 hm3 ht03
        refine hK.out _ _ kd3 (fun hH => ?_)
        clear hK K
        try simp only [Act.put, List.setIfInBounds_toArray, List.set_cons_zero, List.set_cons_succ]
        refine wpAnyK_last (by kernel_rfl) rfl (fun K hK => ?_) (by kernel_rfl)
        go_simp
        refine hK.out _ _ (wpAnyK_done (by kernel_rfl) ?_ _)
        clear hK K hH kd2 kd3 z0 z1 z3 z4 z5 zf5 z1d
        by_cases h9 : kd = 0
        · subst h9
          have HLY2 : Hid (L.append D r = (0, D9, { L1 with long := L1.long + (framed r).size, m := setL L1.m L1.op (rs ++ [r]) })) := by unfold Hid; rw [HLY.out.1]; rfl
          obtain ⟨W8, hW8⟩ : ∃ W8, y3.setCell ⟨lb, 5, none⟩ (.int .i64 (lz + (fs : Int))) = W8 := ⟨_, rfl⟩
          have hm8 := H3.out.2.1.longer (n := lz + (fs : Int)) ⟨by omega, by omega⟩
          rw [hW8] at hm8
          have t38 : Tn (fun q => q = lb) y3 W8 := by rw [← hW8]; exact Tn.setCell _ _ _ rfl
          have v0 := hm8.c0
          have v3 := hm8.c3
          have v4 := hm8.c4
          have lk8 : (Instr.lookup tSeg (.map (some mp)) (.int .i64 (oz : Int)) false).run Tryz.prog W8 = .ok (.slice xa xl xc) W8 := by
            have h5 := MapL.look hm8.mpl keyZ und_seg (zero_strs _) false (oz : Int)
            rw [HMZ.out.2.2.2] at h5
            rw [← HXL.out]
            exact h5
          rw [show ({ L1 with long := lz + (fs : Int) } : Lg).op = (oz : Int) from HKZ.out.1] at v4
          have H8 := Lib.hid (And.intro hm8 (And.intro t38 hW8))
          clear hm8 t38
          go_wp2
          have vd : W8.drew.cell? ⟨lb, 3, none⟩ = some (.map (some mp)) ∧ W8.drew.cell? ⟨lb, 4, none⟩ = some (.int .i64 (oz : Int)) ∧ (Instr.lookup tSeg (.map (some mp)) (.int .i64 (oz : Int)) false).run Tryz.prog W8.drew = .ok (.slice xa xl xc) W8.drew := by
            refine ⟨v3, v4, ?_⟩
            have h5 := MapL.look (MapL.below H8.out.1.mpl (Below.refl _ _).drew) keyZ und_seg (zero_strs _) false (oz : Int)
            rw [HMZ.out.2.2.2] at h5
            rw [← HXL.out]
            exact h5
          clear hW8
          refine wp_region_K (fun w' => w'.cell? ⟨lb, 3, none⟩ = some (.map (some mp)) ∧ w'.cell? ⟨lb, 4, none⟩ = some (.int .i64 (oz : Int)) ∧ (Instr.lookup tSeg (.map (some mp)) (.int .i64 (oz : Int)) false).run Tryz.prog w' = .ok (.slice xa xl xc) w') 21 22 (by kernel_rfl) (by kernel_rfl) vd (fun hH => ?_)
          refine wpAnyK_take (i := 0) [21] (v := ?v91) rfl (by kernel_rfl) (by kernel_rfl) (by kernel_rfl) (by kernel_rfl) (fun _ _ _ h => h) (Or.inl ⟨by rfl, ?hy91⟩) hH ?rest91
          case hy91 => (intro w hSw; (try dsimp only at hSw); go_simp; with_reducible rfl)
          try simp only [Act.put, List.setIfInBounds_toArray, List.set_cons_zero, List.set_cons_succ]
          refine wpAnyK_take (i := 1) [21] (v := ?v92) rfl (by kernel_rfl) (by kernel_rfl) (by kernel_rfl) (by kernel_rfl) (fun _ _ _ h => h) (Or.inl ⟨by rfl, ?hy92⟩) hH ?rest92
          case hy92 => (intro w hSw; (try dsimp only at hSw); go_simp; with_reducible rfl)
          try simp only [Act.put, List.setIfInBounds_toArray, List.set_cons_zero, List.set_cons_succ]
          refine wpAnyK_take (i := 2) [21] (v := ?v93) rfl (by kernel_rfl) (by kernel_rfl) (by kernel_rfl) (by kernel_rfl) (fun _ _ _ h => h) (Or.inl ⟨by rfl, ?hy93⟩) hH ?rest93
          case hy93 => (intro w hSw; (try dsimp only at hSw); go_simp; with_reducible rfl)
          try simp only [Act.put, List.setIfInBounds_toArray, List.set_cons_zero, List.set_cons_succ]
          refine wpAnyK_take (i := 3) [21] (v := ?v94) rfl (by kernel_rfl) (by kernel_rfl) (by kernel_rfl) (by kernel_rfl) (fun _ _ _ h => h) (Or.inl ⟨by rfl, ?hy94⟩) hH ?rest94
          case hy94 => (intro w hSw; (try dsimp only at hSw); go_simp; with_reducible rfl)
          try simp only [Act.put, List.setIfInBounds_toArray, List.set_cons_zero, List.set_cons_succ]
          refine wpAnyK_take (i := 4) [21] (v := ?v95) rfl (by kernel_rfl) (by kernel_rfl) (by kernel_rfl) (by kernel_rfl) (fun _ _ _ h => h) (Or.inl ⟨by rfl, ?hy95⟩) hH ?rest95
          case hy95 => (intro w hSw; (try dsimp only at hSw); go_simp; with_reducible rfl)
          try simp only [Act.put, List.setIfInBounds_toArray, List.set_cons_zero, List.set_cons_succ]
          refine wpAnyK_take (i := 5) [21] (v := ?v96) rfl (by kernel_rfl) (by kernel_rfl) (by kernel_rfl) (by kernel_rfl) (fun _ _ _ h => h) (Or.inl ⟨by rfl, ?hy96⟩) hH ?rest96
          case hy96 => (intro w hSw; (try dsimp only at hSw); go_simp; with_reducible rfl)
          try simp only [Act.put, List.setIfInBounds_toArray, List.set_cons_zero, List.set_cons_succ]
          refine wpAnyK_take (i := 6) [21] (v := ?v97) rfl (by kernel_rfl) (by kernel_rfl) (by kernel_rfl) (by kernel_rfl) (fun _ _ _ h => h) (Or.inl ⟨by rfl, ?hy97⟩) hH ?rest97
          case hy97 => (intro w hSw; (try dsimp only at hSw); go_simp; with_reducible rfl)
          try simp only [Act.put, List.setIfInBounds_toArray, List.set_cons_zero, List.set_cons_succ]
          refine wpAnyK_take (i := 7) [21] (v := ?v98) rfl (by kernel_rfl) (by kernel_rfl) (by kernel_rfl) (by kernel_rfl) (fun _ _ _ h => h) (Or.inl ⟨by rfl, ?hy98⟩) hH ?rest98
          case hy98 => (intro w hSw; (try dsimp only at hSw); go_simp; with_reducible rfl)
          try simp only [Act.put, List.setIfInBounds_toArray, List.set_cons_zero, List.set_cons_succ]
          refine wpAnyK_take (i := 8) [21] (v := ?v99) rfl (by kernel_rfl) (by kernel_rfl) (by kernel_rfl) (by kernel_rfl) (fun _ _ _ h => h) (Or.inl ⟨by rfl, ?hy99⟩) hH ?rest99
          case hy99 => (intro w hSw; (try dsimp only at hSw); go_simp; with_reducible rfl)
          try simp only [Act.put, List.setIfInBounds_toArray, List.set_cons_zero, List.set_cons_succ]
          refine wpAnyK_take (i := 9) [21] (v := ?v100) rfl (by kernel_rfl) (by kernel_rfl) (by kernel_rfl) (by kernel_rfl) (fun _ _ _ h => h) (Or.inl ⟨by rfl, ?hy100⟩) hH ?rest100
          case hy100 => (intro w hSw; (try dsimp only at hSw); go_simp; with_reducible rfl)
          try simp only [Act.put, List.setIfInBounds_toArray, List.set_cons_zero, List.set_cons_succ]
          refine wpAnyK_take (i := 10) [21] (v := ?v101) rfl (by kernel_rfl) (by kernel_rfl) (by kernel_rfl) (by kernel_rfl) (fun _ _ _ h => h) (Or.inl ⟨by rfl, ?hy101⟩) hH ?rest101
          case hy101 => (intro w hSw; (try dsimp only at hSw); go_simp; with_reducible rfl)
          try simp only [Act.put, List.setIfInBounds_toArray, List.set_cons_zero, List.set_cons_succ]
          refine wpAnyK_take (i := 11) [21] (v := ?v102) rfl (by kernel_rfl) (by kernel_rfl) (by kernel_rfl) (by kernel_rfl) (fun _ _ _ h => h) (Or.inl ⟨by rfl, ?hy102⟩) hH ?rest102
          case hy102 => (intro w hSw; (try dsimp only at hSw); go_simp; with_reducible rfl)
          try simp only [Act.put, List.setIfInBounds_toArray, List.set_cons_zero, List.set_cons_succ]
          refine wpAnyK_take (i := 12) [21] (v := ?v103) rfl (by kernel_rfl) (by kernel_rfl) (by kernel_rfl) (by kernel_rfl) (fun _ _ _ h => h) (Or.inl ⟨by rfl, ?hy103⟩) hH ?rest103
          case hy103 => (intro w hSw; (try dsimp only at hSw); go_simp; with_reducible rfl)
          try simp only [Act.put, List.setIfInBounds_toArray, List.set_cons_zero, List.set_cons_succ]
          refine wpAnyK_take (i := 13) [21] (v := ?v104) rfl (by kernel_rfl) (by kernel_rfl) (by kernel_rfl) (by kernel_rfl) (fun _ _ _ h => h) (Or.inl ⟨by rfl, ?hy104⟩) hH ?rest104
          case hy104 => (intro w hSw; (try dsimp only at hSw); go_simp; with_reducible rfl)
          try simp only [Act.put, List.setIfInBounds_toArray, List.set_cons_zero, List.set_cons_succ]
          refine wpAnyK_take (i := 14) [21] (v := ?v105) rfl (by kernel_rfl) (by kernel_rfl) (by kernel_rfl) (by kernel_rfl) (fun _ _ _ h => h) (Or.inl ⟨by rfl, ?hy105⟩) hH ?rest105
          case hy105 => (intro w hSw; (try dsimp only at hSw); go_simp; with_reducible rfl)
          try simp only [Act.put, List.setIfInBounds_toArray, List.set_cons_zero, List.set_cons_succ]
          refine wpAnyK_take (i := 15) [21] (v := ?v106) rfl (by kernel_rfl) (by kernel_rfl) (by kernel_rfl) (by kernel_rfl) (fun _ _ _ h => h) (Or.inl ⟨by rfl, ?hy106⟩) hH ?rest106
          case hy106 => (intro w hSw; (try dsimp only at hSw); go_simp; with_reducible rfl)
          try simp only [Act.put, List.setIfInBounds_toArray, List.set_cons_zero, List.set_cons_succ]
          refine wpAnyK_take (i := 16) [21] (v := ?v107) rfl (by kernel_rfl) (by kernel_rfl) (by kernel_rfl) (by kernel_rfl) (fun _ _ _ h => h) (Or.inl ⟨by rfl, ?hy107⟩) hH ?rest107
          case hy107 => (intro w hSw; (try dsimp only at hSw); go_simp; with_reducible rfl)
          try simp only [Act.put, List.setIfInBounds_toArray, List.set_cons_zero, List.set_cons_succ]
          refine wpAnyK_take (i := 17) [21] (v := ?v108) rfl (by kernel_rfl) (by kernel_rfl) (by kernel_rfl) (by kernel_rfl) (fun _ _ _ h => h) (Or.inl ⟨by rfl, ?hy108⟩) hH ?rest108
          case hy108 => (intro w hSw; (try dsimp only at hSw); go_simp; with_reducible rfl)
          try simp only [Act.put, List.setIfInBounds_toArray, List.set_cons_zero, List.set_cons_succ]
          refine wpAnyK_one (i := 18) (by kernel_rfl) rfl (fun K hK => ?_) (by kernel_rfl)
          go_simp
          go_at_call 17
          with_reducible refine (clone_any _ r hrs0).mono ?_
          rintro e y4 ⟨rfl, hb4⟩
          have hb84 := (Below.refl _ _).drew.trans hb4
          have lkb : ∀ y, Below W8.heap.size W8 y → (Instr.lookup tSeg (.map (some mp)) (.int .i64 (oz : Int)) false).run Tryz.prog y = .ok (.slice xa xl xc) y := fun y hy => by
            have h5 := MapL.look (MapL.below H8.out.1.mpl hy) keyZ und_seg (zero_strs _) false (oz : Int)
            rw [HMZ.out.2.2.2] at h5
            rw [← HXL.out]
            exact h5
          have hlb8 := World.block_lt_of_cell? _ _ v3
          have vd4 := And.intro ((hb84.cell (p := ⟨lb, 3, none⟩) hlb8).trans v3) (And.intro ((hb84.cell (p := ⟨lb, 4, none⟩) hlb8).trans v4) (lkb y4 hb84))
          have H4 := Lib.hid (And.intro hb84 lkb)
          clear hb4 hb84 lkb
          refine hK.out _ _ vd4 (fun hH => ?_)
          clear hK K
          try simp only [Act.put, List.setIfInBounds_toArray, List.set_cons_zero, List.set_cons_succ]
          refine wpAnyK_one (i := 19) (by kernel_rfl) rfl (fun K hK => ?_) (by kernel_rfl)
          go_simp
          obtain ⟨y5, hy5⟩ : ∃ y5, y5 = y4.alloc (.cells #[.string r] 9) := ⟨_, rfl⟩
          have hb85 : Below W8.heap.size W8 y5 := by rw [hy5]; exact H4.out.1.alloc H4.out.1.size _
          have hsrc : Src eStr y5 (.slice (some ⟨y4.heap.size, 0, none⟩) 1 1) [r] := by rw [hy5]; exact src_one y4 r _ _ rfl 1
          have hm5 := H8.out.1.tn (Tn.ofBelow (F := fun _ => False) hb85) (fun _ _ h => h)
          have vd5 := And.intro ((hb85.cell (p := ⟨lb, 3, none⟩) hlb8).trans v3) (And.intro ((hb85.cell (p := ⟨lb, 4, none⟩) hlb8).trans v4) (H4.out.2 y5 hb85))
          have hrow5 : Own eStr y5 0 (.slice xa xl xc) rs := by
            have h5 := hm5.rows ((oz : Int), (⟨xa, xc, rs⟩ : Sg)) (by simp)
            rw [← HXL.out]
            exact h5
          have H5 := Lib.hid (And.intro hm5 (And.intro hsrc (And.intro hrow5 hb85)))
          rw [← hy5]
          clear hb85 hsrc hm5 hrow5 hy5
          refine hK.out _ _ vd5 (fun hH => ?_)
          clear hK K
          try simp only [Act.put, List.setIfInBounds_toArray, List.set_cons_zero, List.set_cons_succ]
          refine wpAnyK_one (i := 20) (by kernel_rfl) rfl (fun K hK => ?_) (by kernel_rfl)
          refine step_app2 eStr rfl _ _ rfl rfl rfl H5.out.2.2.1 H5.out.2.1 (by have := HKZ.out.2.2.1; simp; omega) (Nat.zero_le _) ?_
          rw [HXL.out]
          intro a6 cap6 y6 hap'
          have hap : Appd eStr y5 y6 0 (.slice xa xl xc) (.slice a6 (xl + 1) cap6) rs [r] := hap'
          have hx5 : ∀ q, (Value.slice xa xl xc).ownBlock = some q → q ≠ lb ∧ q ≠ mp := fun q hq => H5.out.1.off ((oz : Int), (⟨xa, xc, rs⟩ : Sg)) (by simp) q (by show (Value.slice xa rs.length xc).ownBlock = some q; rw [HXL.out]; exact hq)
          have nb5 : ¬ (Value.slice xa xl xc).ownBlock = some lb := fun e => (hx5 lb e).1 rfl
          have hmp6 := MapL.tn H5.out.1.mpl hap.tn (fun e => (hx5 mp e).2 rfl)
          have lk6 : (Instr.lookup tSeg (.map (some mp)) (.int .i64 (oz : Int)) false).run Tryz.prog y6 = .ok (.slice xa xl xc) y6 := by
            have h5 := MapL.look hmp6 keyZ und_seg (zero_strs _) false (oz : Int)
            rw [HMZ.out.2.2.2] at h5
            rw [← HXL.out]
            exact h5
          have vd6 := And.intro (hap.tn.cell vd5.1 nb5) (And.intro (hap.tn.cell vd5.2.1 nb5) lk6)
          obtain ⟨y7, hrun, hm7, ht7, hz7⟩ := MapL.put hmp6 keyZ und_seg (oz : Int) (⟨a6, cap6, rs ++ [r]⟩ : Sg)
          have hrun' : (Instr.mapUpdate tSeg (.map (some mp)) (.int .i64 (oz : Int)) (.slice a6 (xl + 1) cap6)).run Tryz.prog y6 = .ok () y7 := by
            have : cvS (⟨a6, cap6, rs ++ [r]⟩ : Sg) = .slice a6 (xl + 1) cap6 := by
              show Value.slice a6 (rs ++ [r]).length cap6 = _
              rw [List.length_append, HXL.out]; rfl
            rw [this] at hrun
            exact hrun
          have H7 := Lib.hid (And.intro hap (And.intro hm7 ht7))
          clear hap hap' hmp6 lk6 hrun hm7 ht7 hz7
          refine hK.out _ _ vd6 (fun hH => ?_)
          clear hK K
          try simp only [Act.put, List.setIfInBounds_toArray, List.set_cons_zero, List.set_cons_succ]
          refine wpAnyK_last (by kernel_rfl) rfl (fun K hK => ?_) (by kernel_rfl)
          go_simp
          refine hK.out _ _ (wpAnyK_done (by kernel_rfl) ?_ _)
          clear hK K hH vd vd4 vd5 vd6 v0 v3 v4 lk8 hrun'
          go_wp2_with fail
          go_ret
          unfold Kept
          rw [HLY2.out]
          obtain ⟨hlm, tg, hmq⟩ := LoM.lay (G := G) (xa := xa) (xc := xc) (rs := rs) (r := r) (n' := xl + 1) (a' := a6) (c' := cap6) H5.out.1 HMZ.out.2.1 HMZ.out.2.2.1 (by rw [List.length_append, HXL.out]; rfl) (by rw [HXL.out]; exact H7.out.1) H7.out.2.1 H7.out.2.2 HKZ.out.2.2.1
          have t35 : Tn (fun q => q = lb) y3 y5 := H8.out.2.1.trans (Tn.ofBelow H5.out.2.2.2)
          have h35 : y3.heap.size ≤ y5.heap.size := t35.size
          have hw3 := H3.out.2.2.size
          have gfl : ∀ q, G q → F q ∧ ¬ two db mb q := HG.out
          have hd5 := H3.out.1.frame t35 (fun q _ e => by subst e; exact ⟨glz.1, fun e => glz.2 (.inl e), fun e => glz.2 (.inr e)⟩)
          have hmore : ∀ q, more G (.slice a6 (xl + 1) cap6) q → F q ∨ y5.heap.size ≤ q := fun q hq => (hmq q hq).imp (fun h => (gfl q h).1) id
          have hd7 : DkAt (fun q => F q ∨ more G (.slice a6 (xl + 1) cap6) q) y7 db mb D9 := hd5.widen (H := G) tg (fun q _ h => gfl q h) (fun q h => .inl h) (fun q h => h.elim .inl (hmore q)) (fun q h => h.elim (fun h => Nat.lt_of_lt_of_le (hd5.lt q h) tg.size) (hlm.lt q))
          refine ⟨rfl, more G (.slice a6 (xl + 1) cap6), _, hd7, ⟨A ++ ((oz : Int), ⟨a6, cap6, rs ++ [r]⟩) :: B, ?_⟩, fun q hq => ⟨.inr hq, fun h2 => ?_⟩, fun q h => .inl h, fun q h => ?_, fun q hq => ?_, ?_⟩
          · have e1 : ({ ({ L1 with long := lz + (fs : Int) } : Lg) with m := setL ({ L1 with long := lz + (fs : Int) } : Lg).m (oz : Int) (rs ++ [r]) } : Lg) = { L1 with long := L1.long + (framed r).size, m := setL L1.m L1.op (rs ++ [r]) } := by
              rw [HKZ.out.1, HKZ.out.2.2.2.1, HKZ.out.2.2.2.2.2.1, HKZ.out.2.2.2.2.2.2]
            rw [← e1]
            exact hlm
          · rcases hmq q hq with h | h
            · exact (gfl q h).2 h2
            · have := hd5.ltd
              have := hd5.m.lt
              rcases h2 with rfl | rfl <;> omega
          · rcases h with h | h
            · exact .inl h
            · exact (hmore q h).imp id (fun h => by omega)
          · exact (hmq q hq).imp id (fun h => by omega)
          · exact H3.out.2.2.trans (((t35.mono (fun q e => by subst e; exact .inr H5.out.1.gl))).trans (tg.mono (fun q h => .inr h)))
        · have t9 : (kd != 0) = true := by simpa using h9
          have HLY2 : Hid (L.append D r = (kd, D9, L1)) := by unfold Hid; rw [HLY.out.1, if_pos h9]
          clear h9 y35 yf5
          go_wp2
          go_ret
          rw [HLY2.out]
          exact Both.kept ⟨rfl, H3.out.1, ⟨_, H3.out.2.1⟩, H3.out.2.2⟩ HG.out
    · have d1 : decide (0 < (oz : Int)) = false := by simp; omega
      have HFU : Hid (L1.full r = false) := by unfold Hid; rw [HO.out.2.2.2, d1]; rfl
      have hoz0 : oz = 0 := by omega
      go_wp2_with fail
      go_quiet (fail)
      obtain ⟨wq, hwq⟩ : ∃ wq, w2.drewN nq = wq := ⟨_, rfl⟩
      have hbq : Below w2.heap.size w2 wq := by rw [← hwq]; exact below_drewN (Below.refl _ _) nq
      have hl2 := H2.out.1.below hbq
      have hd2 := H2.out.2.1.below hbq
      have H3x := Lib.hid (And.intro hl2 (And.intro hd2 (H2.out.2.2.trans (Tn.ofBelow hbq))))
      have c4z : wq.cell? ⟨lb, 4, none⟩ = some (.int .i64 0) := by
        obtain ⟨msx, hmx⟩ := hl2
        have := hmx.c4
        rw [HA.out.2.2.2.2.2.1, HO.out.2.2.1, hoz0] at this
        exact this
      have HO1 : Hid (L1.op = 0) := by unfold Hid; rw [HA.out.2.2.2.2.2.1, HO.out.2.2.1, hoz0]; rfl
      have LST : Hid (L1.last = (n : Int) ∧ L1.m.length < 20000) := by
        refine ⟨?_, ?_⟩
        · unfold Lg.last; rw [HA.out.2.2.2.2.1]; exact HL.out.1
        · rw [HA.out.2.2.2.2.1]; exact HL.out.2.1
      have LDR : Hid (L1.dir = dir) := by unfold Hid; rw [HA.out.2.2.1]; exact HL.out.2.2.2.2.1
      have onb := on1
      rw [hwq]
      clear hbq hl2 hd2 hwq c2 c4 c5 hoz0
      obtain ⟨bg, hbg⟩ : ∃ bg, L1.begin_ D1 = bg := ⟨_, rfl⟩
      have hbok := begin_ok (L := L1) (D := D1) onb
      have hbw := w_begin H3x.out.1 H3x.out.2.1 HG.out onb (by omega) HN.out LST.out.1 LST.out.2
      rw [hbg] at hbw hbok
      obtain ⟨kb, D4, L4⟩ := bg
      simp only at hbok
      have HBW := Lib.hid hbw
      have HBG := Lib.hid (And.intro hbg hbok)
      clear hbw hbg hbok
      go_wp2_with fail
      refine HBW.out.mono ?_
      rintro e w4 ⟨rfl, hd4, hl4, ht4⟩
      simp only at hd4 hl4
      have ht04 : Tn (fun q => two db mb q ∨ G q) w w4 := H3x.out.2.2.trans ht4
      have HZ := Lib.hid (And.intro hl4 (And.intro hd4 ht04))
      clear hd4 hl4 ht4 ht04
      by_cases hb0 : kb = 0
      · subst hb0
        obtain ⟨hL4, onz, acz0, hmx⟩ := HBG.out.2 rfl
        have HAP : Hid (L.append D r = L4.lay D4 r) := by
          unfold Hid
          rw [append_eq2 HL.out.2.2.2.2.2.2.1 HA.out.1 HFU.out HO1.out HBG.out.1]
          rfl
        obtain ⟨nz, hnz⟩ : ∃ nz : Nat, nz = n + 1 := ⟨_, rfl⟩
        have HNZ : Hid (nz < 4294967296) := by unfold Hid; rw [LST.out.1] at hmx; omega
        obtain ⟨rs, hrsx⟩ : ∃ rs : List ByteArray, rs = [] := ⟨_, rfl⟩
        obtain ⟨lz2, hlz2⟩ : ∃ lz2 : Int, lz2 = 0 := ⟨_, rfl⟩
        have lz0 : 0 ≤ lz2 := by omega
        have lz1 : lz2 ≤ 900000 := by omega
        have acz : D4.acts < 1000000 := by omega
        have o4 : L4.op = (nz : Int) := by rw [hL4]; show L1.last + 1 = _; rw [LST.out.1, hnz]; rfl
        have hne4 : ∀ p ∈ L1.m, p.1 ≠ L1.last + 1 := by
          obtain ⟨msx, hmx2⟩ := H3x.out.1
          intro p hp e
          have := last_most hmx2.ok p hp
          omega
        have g4 : getL L4.m L4.op = some rs := by
          rw [hL4]
          show getL (setL L1.m (L1.last + 1) []) (L1.last + 1) = some rs
          rw [setL_new' hne4, getL_app_right hne4, getL_one, hrsx]
        have HKZ := Lib.hid (And.intro o4 (And.intro g4 (And.intro (show rs.length + 1 ≤ 1000000 by rw [hrsx]; decide) (And.intro (show L4.long = lz2 by rw [hL4, hlz2]) (And.intro (show L4.dir = dir by rw [hL4]; exact LDR.out) (And.intro HL.out.2.2.2.2.2.1 HFS.out.1))))))
        clear hL4 o4 g4 hne4 hmx hnz hrsx hlz2 c4z
        obtain ⟨msz, hmz⟩ := HZ.out.1
        obtain ⟨A, B, xa, xc, rfl, hA, hB, hgx⟩ := hmz.split HKZ.out.2.1
        rw [HKZ.out.1] at hmz hA hB hgx
        have z0 := hmz.c0
        have z1 := hmz.c1
        have z4 := hmz.c4
        have z5 := hmz.c5
        have z3 := hmz.c3
        have zf5 := hmz.fz 5
        rw [HKZ.out.1] at z4
        rw [HKZ.out.2.2.2.1] at z5
        rw [HKZ.out.2.2.2.2.1] at z1
        obtain ⟨d, hdd⟩ : ∃ d, D4.app (segN dir nz) fr = d := ⟨_, rfl⟩
        obtain ⟨kd, D9⟩ := d
        have hlay := lay_eq (L := L4) (D := D4) (r := r) (k := kd) (D2 := D9) (nz := nz) HKZ.out.1 (by rw [HKZ.out.2.2.2.2.1, HKZ.out.2.2.2.2.2.1]; exact hdd) HKZ.out.2.1
        rw [← HAP.out] at hlay
        have HLY := Lib.hid (And.intro hlay hdd)
        have HMZ := Lib.hid (And.intro hmz (And.intro hA (And.intro hB hgx)))
        obtain ⟨xl, hxl⟩ : ∃ xl, rs.length = xl := ⟨_, rfl⟩
        have HXL := Lib.hid hxl
        have glz := HG.out lb hmz.gl
        have gmz := HG.out mp hmz.gm
        clear hlay hdd hmz hA hB hgx hxl
        go_wp2_with fail
        refine wp_region_K (fun w' => w'.cell? ⟨lb, 0, none⟩ = some (.pointer (some ⟨db, 0, none⟩)) ∧ w'.cell? ⟨lb, 4, none⟩ = some (.int .i64 (nz : Int))) 12 13 (by kernel_rfl) (by kernel_rfl) ⟨z0, z4⟩ (fun hH => ?_)
        refine wpAnyK_take (i := 0) [12] (v := ?v109) rfl (by kernel_rfl) (by kernel_rfl) (by kernel_rfl) (by kernel_rfl) (fun _ _ _ h => h) (Or.inl ⟨by rfl, ?hy109⟩) hH ?rest109
        case hy109 => (intro w hSw; (try dsimp only at hSw); go_simp; with_reducible rfl)
        try simp only [Act.put, List.setIfInBounds_toArray, List.set_cons_zero, List.set_cons_succ]
        refine wpAnyK_take (i := 1) [12] (v := ?v110) rfl (by kernel_rfl) (by kernel_rfl) (by kernel_rfl) (by kernel_rfl) (fun _ _ _ h => h) (Or.inl ⟨by rfl, ?hy110⟩) hH ?rest110
        case hy110 => (intro w hSw; (try dsimp only at hSw); go_simp; with_reducible rfl)
        try simp only [Act.put, List.setIfInBounds_toArray, List.set_cons_zero, List.set_cons_succ]
        refine wpAnyK_take (i := 2) [12] (v := ?v111) rfl (by kernel_rfl) (by kernel_rfl) (by kernel_rfl) (by kernel_rfl) (fun _ _ _ h => h) (Or.inl ⟨by rfl, ?hy111⟩) hH ?rest111
        case hy111 => (intro w hSw; (try dsimp only at hSw); go_simp; with_reducible rfl)
        try simp only [Act.put, List.setIfInBounds_toArray, List.set_cons_zero, List.set_cons_succ]
        refine wpAnyK_take (i := 3) [12] (v := ?v112) rfl (by kernel_rfl) (by kernel_rfl) (by kernel_rfl) (by kernel_rfl) (fun _ _ _ h => h) (Or.inl ⟨by rfl, ?hy112⟩) hH ?rest112
        case hy112 => (intro w hSw; (try dsimp only at hSw); go_simp; with_reducible rfl)
        try simp only [Act.put, List.setIfInBounds_toArray, List.set_cons_zero, List.set_cons_succ]
        refine wpAnyK_take (i := 4) [12] (v := ?v113) rfl (by kernel_rfl) (by kernel_rfl) (by kernel_rfl) (by kernel_rfl) (fun _ _ _ h => h) (Or.inl ⟨by rfl, ?hy113⟩) hH ?rest113
        case hy113 => (intro w hSw; (try dsimp only at hSw); go_simp; with_reducible rfl)
        try simp only [Act.put, List.setIfInBounds_toArray, List.set_cons_zero, List.set_cons_succ]
        refine wpAnyK_take (i := 5) [12] (v := ?v114) rfl (by kernel_rfl) (by kernel_rfl) (by kernel_rfl) (by kernel_rfl) (fun _ _ _ h => h) (Or.inl ⟨by rfl, ?hy114⟩) hH ?rest114
        case hy114 => (intro w hSw; (try dsimp only at hSw); go_simp; with_reducible rfl)
        try simp only [Act.put, List.setIfInBounds_toArray, List.set_cons_zero, List.set_cons_succ]
        refine wpAnyK_take (i := 6) [12] (v := ?v115) rfl (by kernel_rfl) (by kernel_rfl) (by kernel_rfl) (by kernel_rfl) (fun _ _ _ h => h) (Or.inl ⟨by rfl, ?hy115⟩) hH ?rest115
        case hy115 => (intro w hSw; (try dsimp only at hSw); go_simp; with_reducible rfl)
        try simp only [Act.put, List.setIfInBounds_toArray, List.set_cons_zero, List.set_cons_succ]
        refine wpAnyK_take (i := 7) [12] (v := ?v116) rfl (by kernel_rfl) (by kernel_rfl) (by kernel_rfl) (by kernel_rfl) (fun _ _ _ h => h) (Or.inl ⟨by rfl, ?hy116⟩) hH ?rest116
        case hy116 => (intro w hSw; (try dsimp only at hSw); go_simp; with_reducible rfl)
        try simp only [Act.put, List.setIfInBounds_toArray, List.set_cons_zero, List.set_cons_succ]
        refine wpAnyK_take (i := 8) [12] (v := ?v117) rfl (by kernel_rfl) (by kernel_rfl) (by kernel_rfl) (by kernel_rfl) (fun _ _ _ h => h) (Or.inl ⟨by rfl, ?hy117⟩) hH ?rest117
        case hy117 => (intro w hSw; (try dsimp only at hSw); go_simp; with_reducible rfl)
        try simp only [Act.put, List.setIfInBounds_toArray, List.set_cons_zero, List.set_cons_succ]
        refine wpAnyK_take (i := 10) [12] (v := ?v118) rfl (by kernel_rfl) (by kernel_rfl) (by kernel_rfl) (by kernel_rfl) (fun _ _ _ h => h) (Or.inl ⟨by rfl, ?hy118⟩) hH ?rest118
        case hy118 => (intro w hSw; (try dsimp only at hSw); go_simp; with_reducible rfl)
        try simp only [Act.put, List.setIfInBounds_toArray, List.set_cons_zero, List.set_cons_succ]
        refine wpAnyK_one (i := 9) (by kernel_rfl) rfl (fun K hK => ?_) (by kernel_rfl)
        go_simp
        go_at_call 26
        have z1d : w4.drew.cell? ⟨lb, 1, none⟩ = some (.string dir) := z1
        with_reducible refine (w_name (lb := lb) hd40 nz HNZ.out z1d).mono ?_
        rintro e y2 ⟨rfl, hb2⟩
        have hb02 := (Below.refl _ _).drew.trans hb2
        have kd2 := And.intro ((hb2.cell (p := ⟨lb, 0, none⟩) (World.block_lt_of_cell? _ _ z0)).trans z0) ((hb2.cell (p := ⟨lb, 4, none⟩) (World.block_lt_of_cell? _ _ z4)).trans z4)
        have hd2 := HZ.out.2.1.below hb02
        have hm2 := HMZ.out.1.tn (Tn.ofBelow (F := fun _ => False) hb02) (fun _ _ h => h)
        have H2 := Lib.hid (And.intro hb02 (And.intro hd2 hm2))
        obtain ⟨sg, hsg⟩ : ∃ sg, segN dir nz = sg := ⟨_, rfl⟩
        have hszg : sg.size ≤ 140737488351232 := by rw [← hsg, ba_size, segN_list, List.length_append, List.length_append, hexF_len, ← ba_size]; simp; omega
        have HSG := Lib.hid hsg
        rw [hsg]
        clear hb2 hb02 hd2 hm2 hsg
        refine hK.out _ _ kd2 (fun hH => ?_)
        clear hK K
        try simp only [Act.put, List.setIfInBounds_toArray, List.set_cons_zero, List.set_cons_succ]
        refine wpAnyK_one (i := 11) (by kernel_rfl) rfl (fun K hK => ?_) (by kernel_rfl)
        go_simp
        go_at_call 25
        with_reducible refine (append_any H2.out.2.1 onz acz sg fr hszg hfrs).mono ?_
        rw [← HSG.out, HLY.out.2]
        rintro e y3 ⟨rfl, hd3, ht3⟩
        simp only at hd3
        have kd3 := And.intro (ht3.cell kd2.1 glz.2) (ht3.cell kd2.2 glz.2)
        have hm3 := H2.out.2.2.tn ht3 (fun q hq h => (HG.out q hq).2 h)
        have y35 := hm3.c5
        rw [HKZ.out.2.2.2.1] at y35
        have yf5 := hm3.fz 5
        have ht03 : Tn (fun q => two db mb q ∨ G q) w y3 := HZ.out.2.2.trans (tn_two ((Tn.ofBelow H2.out.1).trans ht3))
        have H3 := Lib.hid (And.intro hd3 (And.intro hm3 ht03))
        clear hd3 ht3 hm3 ht03
        refine hK.out _ _ kd3 (fun hH => ?_)
        clear hK K
        try simp only [Act.put, List.setIfInBounds_toArray, List.set_cons_zero, List.set_cons_succ]
        refine wpAnyK_last (by kernel_rfl) rfl (fun K hK => ?_) (by kernel_rfl)
        go_simp
        refine hK.out _ _ (wpAnyK_done (by kernel_rfl) ?_ _)
        clear hK K hH kd2 kd3 z0 z1 z3 z4 z5 zf5 z1d
        by_cases h9 : kd = 0
        · subst h9
          have HLY2 : Hid (L.append D r = (0, D9, { L4 with long := L4.long + (framed r).size, m := setL L4.m L4.op (rs ++ [r]) })) := by unfold Hid; rw [HLY.out.1]; rfl
          obtain ⟨W8, hW8⟩ : ∃ W8, y3.setCell ⟨lb, 5, none⟩ (.int .i64 (lz2 + (fs : Int))) = W8 := ⟨_, rfl⟩
          have hm8 := H3.out.2.1.longer (n := lz2 + (fs : Int)) ⟨by omega, by omega⟩
          rw [hW8] at hm8
          have t38 : Tn (fun q => q = lb) y3 W8 := by rw [← hW8]; exact Tn.setCell _ _ _ rfl
          have v0 := hm8.c0
          have v3 := hm8.c3
          have v4 := hm8.c4
          have lk8 : (Instr.lookup tSeg (.map (some mp)) (.int .i64 (nz : Int)) false).run Tryz.prog W8 = .ok (.slice xa xl xc) W8 := by
            have h5 := MapL.look hm8.mpl keyZ und_seg (zero_strs _) false (nz : Int)
            rw [HMZ.out.2.2.2] at h5
            rw [← HXL.out]
            exact h5
          rw [show ({ L4 with long := lz2 + (fs : Int) } : Lg).op = (nz : Int) from HKZ.out.1] at v4
          have H8 := Lib.hid (And.intro hm8 (And.intro t38 hW8))
          clear hm8 t38
          go_wp2
          have vd : W8.drew.cell? ⟨lb, 3, none⟩ = some (.map (some mp)) ∧ W8.drew.cell? ⟨lb, 4, none⟩ = some (.int .i64 (nz : Int)) ∧ (Instr.lookup tSeg (.map (some mp)) (.int .i64 (nz : Int)) false).run Tryz.prog W8.drew = .ok (.slice xa xl xc) W8.drew := by
            refine ⟨v3, v4, ?_⟩
            have h5 := MapL.look (MapL.below H8.out.1.mpl (Below.refl _ _).drew) keyZ und_seg (zero_strs _) false (nz : Int)
            rw [HMZ.out.2.2.2] at h5
            rw [← HXL.out]
            exact h5
          clear hW8
          refine wp_region_K (fun w' => w'.cell? ⟨lb, 3, none⟩ = some (.map (some mp)) ∧ w'.cell? ⟨lb, 4, none⟩ = some (.int .i64 (nz : Int)) ∧ (Instr.lookup tSeg (.map (some mp)) (.int .i64 (nz : Int)) false).run Tryz.prog w' = .ok (.slice xa xl xc) w') 21 22 (by kernel_rfl) (by kernel_rfl) vd (fun hH => ?_)
          refine wpAnyK_take (i := 0) [21] (v := ?v119) rfl (by kernel_rfl) (by kernel_rfl) (by kernel_rfl) (by kernel_rfl) (fun _ _ _ h => h) (Or.inl ⟨by rfl, ?hy119⟩) hH ?rest119
          case hy119 => (intro w hSw; (try dsimp only at hSw); go_simp; with_reducible rfl)
          try simp only [Act.put, List.setIfInBounds_toArray, List.set_cons_zero, List.set_cons_succ]
          refine wpAnyK_take (i := 1) [21] (v := ?v120) rfl (by kernel_rfl) (by kernel_rfl) (by kernel_rfl) (by kernel_rfl) (fun _ _ _ h => h) (Or.inl ⟨by rfl, ?hy120⟩) hH ?rest120
          case hy120 => (intro w hSw; (try dsimp only at hSw); go_simp; with_reducible rfl)
          try simp only [Act.put, List.setIfInBounds_toArray, List.set_cons_zero, List.set_cons_succ]
          refine wpAnyK_take (i := 2) [21] (v := ?v121) rfl (by kernel_rfl) (by kernel_rfl) (by kernel_rfl) (by kernel_rfl) (fun _ _ _ h => h) (Or.inl ⟨by rfl, ?hy121⟩) hH ?rest121
          case hy121 => (intro w hSw; (try dsimp only at hSw); go_simp; with_reducible rfl)
          try simp only [Act.put, List.setIfInBounds_toArray, List.set_cons_zero, List.set_cons_succ]
          refine wpAnyK_take (i := 3) [21] (v := ?v122) rfl (by kernel_rfl) (by kernel_rfl) (by kernel_rfl) (by kernel_rfl) (fun _ _ _ h => h) (Or.inl ⟨by rfl, ?hy122⟩) hH ?rest122
          case hy122 => (intro w hSw; (try dsimp only at hSw); go_simp; with_reducible rfl)
          try simp only [Act.put, List.setIfInBounds_toArray, List.set_cons_zero, List.set_cons_succ]
          refine wpAnyK_take (i := 4) [21] (v := ?v123) rfl (by kernel_rfl) (by kernel_rfl) (by kernel_rfl) (by kernel_rfl) (fun _ _ _ h => h) (Or.inl ⟨by rfl, ?hy123⟩) hH ?rest123
          case hy123 => (intro w hSw; (try dsimp only at hSw); go_simp; with_reducible rfl)
          try simp only [Act.put, List.setIfInBounds_toArray, List.set_cons_zero, List.set_cons_succ]
          refine wpAnyK_take (i := 5) [21] (v := ?v124) rfl (by kernel_rfl) (by kernel_rfl) (by kernel_rfl) (by kernel_rfl) (fun _ _ _ h => h) (Or.inl ⟨by rfl, ?hy124⟩) hH ?rest124
          case hy124 => (intro w hSw; (try dsimp only at hSw); go_simp; with_reducible rfl)
          try simp only [Act.put, List.setIfInBounds_toArray, List.set_cons_zero, List.set_cons_succ]
          refine wpAnyK_take (i := 6) [21] (v := ?v125) rfl (by kernel_rfl) (by kernel_rfl) (by kernel_rfl) (by kernel_rfl) (fun _ _ _ h => h) (Or.inl ⟨by rfl, ?hy125⟩) hH ?rest125
          case hy125 => (intro w hSw; (try dsimp only at hSw); go_simp; with_reducible rfl)
          try simp only [Act.put, List.setIfInBounds_toArray, List.set_cons_zero, List.set_cons_succ]
          refine wpAnyK_take (i := 7) [21] (v := ?v126) rfl (by kernel_rfl) (by kernel_rfl) (by kernel_rfl) (by kernel_rfl) (fun _ _ _ h => h) (Or.inl ⟨by rfl, ?hy126⟩) hH ?rest126
          case hy126 => (intro w hSw; (try dsimp only at hSw); go_simp; with_reducible rfl)
          try simp only [Act.put, List.setIfInBounds_toArray, List.set_cons_zero, List.set_cons_succ]
          refine wpAnyK_take (i := 8) [21] (v := ?v127) rfl (by kernel_rfl) (by kernel_rfl) (by kernel_rfl) (by kernel_rfl) (fun _ _ _ h => h) (Or.inl ⟨by rfl, ?hy127⟩) hH ?rest127
          case hy127 => (intro w hSw; (try dsimp only at hSw); go_simp; with_reducible rfl)
          try simp only [Act.put, List.setIfInBounds_toArray, List.set_cons_zero, List.set_cons_succ]
          refine wpAnyK_take (i := 9) [21] (v := ?v128) rfl (by kernel_rfl) (by kernel_rfl) (by kernel_rfl) (by kernel_rfl) (fun _ _ _ h => h) (Or.inl ⟨by rfl, ?hy128⟩) hH ?rest128
          case hy128 => (intro w hSw; (try dsimp only at hSw); go_simp; with_reducible rfl)
          try simp only [Act.put, List.setIfInBounds_toArray, List.set_cons_zero, List.set_cons_succ]
          refine wpAnyK_take (i := 10) [21] (v := ?v129) rfl (by kernel_rfl) (by kernel_rfl) (by kernel_rfl) (by kernel_rfl) (fun _ _ _ h => h) (Or.inl ⟨by rfl, ?hy129⟩) hH ?rest129
          case hy129 => (intro w hSw; (try dsimp only at hSw); go_simp; with_reducible rfl)
          try simp only [Act.put, List.setIfInBounds_toArray, List.set_cons_zero, List.set_cons_succ]
          refine wpAnyK_take (i := 11) [21] (v := ?v130) rfl (by kernel_rfl) (by kernel_rfl) (by kernel_rfl) (by kernel_rfl) (fun _ _ _ h => h) (Or.inl ⟨by rfl, ?hy130⟩) hH ?rest130
          case hy130 => (intro w hSw; (try dsimp only at hSw); go_simp; with_reducible rfl)
          try simp only [Act.put, List.setIfInBounds_toArray, List.set_cons_zero, List.set_cons_succ]
          refine wpAnyK_take (i := 12) [21] (v := ?v131) rfl (by kernel_rfl) (by kernel_rfl) (by kernel_rfl) (by kernel_rfl) (fun _ _ _ h => h) (Or.inl ⟨by rfl, ?hy131⟩) hH ?rest131
          case hy131 => (intro w hSw; (try dsimp only at hSw); go_simp; with_reducible rfl)
          try simp only [Act.put, List.setIfInBounds_toArray, List.set_cons_zero, List.set_cons_succ]
          refine wpAnyK_take (i := 13) [21] (v := ?v132) rfl (by kernel_rfl) (by kernel_rfl) (by kernel_rfl) (by kernel_rfl) (fun _ _ _ h => h) (Or.inl ⟨by rfl, ?hy132⟩) hH ?rest132
          case hy132 => (intro w hSw; (try dsimp only at hSw); go_simp; with_reducible rfl)
          try simp only [Act.put, List.setIfInBounds_toArray, List.set_cons_zero, List.set_cons_succ]
          refine wpAnyK_take (i := 14) [21] (v := ?v133) rfl (by kernel_rfl) (by kernel_rfl) (by kernel_rfl) (by kernel_rfl) (fun _ _ _ h => h) (Or.inl ⟨by rfl, ?hy133⟩) hH ?rest133
          case hy133 => (intro w hSw; (try dsimp only at hSw); go_simp; with_reducible rfl)
          try simp only [Act.put, List.setIfInBounds_toArray, List.set_cons_zero, List.set_cons_succ]
          refine wpAnyK_take (i := 15) [21] (v := ?v134) rfl (by kernel_rfl) (by kernel_rfl) (by kernel_rfl) (by kernel_rfl) (fun _ _ _ h => h) (Or.inl ⟨by rfl, ?hy134⟩) hH ?rest134
          case hy134 => (intro w hSw; (try dsimp only at hSw); go_simp; with_reducible rfl)
          try simp only [Act.put, List.setIfInBounds_toArray, List.set_cons_zero, List.set_cons_succ]
          refine wpAnyK_take (i := 16) [21] (v := ?v135) rfl (by kernel_rfl) (by kernel_rfl) (by kernel_rfl) (by kernel_rfl) (fun _ _ _ h => h) (Or.inl ⟨by rfl, ?hy135⟩) hH ?rest135
          case hy135 => (intro w hSw; (try dsimp only at hSw); go_simp; with_reducible rfl)
          try simp only [Act.put, List.setIfInBounds_toArray, List.set_cons_zero, List.set_cons_succ]
          refine wpAnyK_take (i := 17) [21] (v := ?v136) rfl (by kernel_rfl) (by kernel_rfl) (by kernel_rfl) (by kernel_rfl) (fun _ _ _ h => h) (Or.inl ⟨by rfl, ?hy136⟩) hH ?rest136
          case hy136 => (intro w hSw; (try dsimp only at hSw); go_simp; with_reducible rfl)
          try simp only [Act.put, List.setIfInBounds_toArray, List.set_cons_zero, List.set_cons_succ]
          refine wpAnyK_one (i := 18) (by kernel_rfl) rfl (fun K hK => ?_) (by kernel_rfl)
          go_simp
          go_at_call 17
          with_reducible refine (clone_any _ r hrs0).mono ?_
          rintro e y4 ⟨rfl, hb4⟩
          have hb84 := (Below.refl _ _).drew.trans hb4
          have lkb : ∀ y, Below W8.heap.size W8 y → (Instr.lookup tSeg (.map (some mp)) (.int .i64 (nz : Int)) false).run Tryz.prog y = .ok (.slice xa xl xc) y := fun y hy => by
            have h5 := MapL.look (MapL.below H8.out.1.mpl hy) keyZ und_seg (zero_strs _) false (nz : Int)
            rw [HMZ.out.2.2.2] at h5
            rw [← HXL.out]
            exact h5
          have hlb8 := World.block_lt_of_cell? _ _ v3
          have vd4 := And.intro ((hb84.cell (p := ⟨lb, 3, none⟩) hlb8).trans v3) (And.intro ((hb84.cell (p := ⟨lb, 4, none⟩) hlb8).trans v4) (lkb y4 hb84))
          have H4 := Lib.hid (And.intro hb84 lkb)
          clear hb4 hb84 lkb
          refine hK.out _ _ vd4 (fun hH => ?_)
          clear hK K
          try simp only [Act.put, List.setIfInBounds_toArray, List.set_cons_zero, List.set_cons_succ]
          refine wpAnyK_one (i := 19) (by kernel_rfl) rfl (fun K hK => ?_) (by kernel_rfl)
          go_simp
          obtain ⟨y5, hy5⟩ : ∃ y5, y5 = y4.alloc (.cells #[.string r] 9) := ⟨_, rfl⟩
          have hb85 : Below W8.heap.size W8 y5 := by rw [hy5]; exact H4.out.1.alloc H4.out.1.size _
          have hsrc : Src eStr y5 (.slice (some ⟨y4.heap.size, 0, none⟩) 1 1) [r] := by rw [hy5]; exact src_one y4 r _ _ rfl 1
          have hm5 := H8.out.1.tn (Tn.ofBelow (F := fun _ => False) hb85) (fun _ _ h => h)
          have vd5 := And.intro ((hb85.cell (p := ⟨lb, 3, none⟩) hlb8).trans v3) (And.intro ((hb85.cell (p := ⟨lb, 4, none⟩) hlb8).trans v4) (H4.out.2 y5 hb85))
          have hrow5 : Own eStr y5 0 (.slice xa xl xc) rs := by
            have h5 := hm5.rows ((nz : Int), (⟨xa, xc, rs⟩ : Sg)) (by simp)
            rw [← HXL.out]
            exact h5
          have H5 := Lib.hid (And.intro hm5 (And.intro hsrc (And.intro hrow5 hb85)))
          rw [← hy5]
          clear hb85 hsrc hm5 hrow5 hy5
          refine hK.out _ _ vd5 (fun hH => ?_)
          clear hK K
          try simp only [Act.put, List.setIfInBounds_toArray, List.set_cons_zero, List.set_cons_succ]
          refine wpAnyK_one (i := 20) (by kernel_rfl) rfl (fun K hK => ?_) (by kernel_rfl)
          refine step_app2 eStr rfl _ _ rfl rfl rfl H5.out.2.2.1 H5.out.2.1 (by have := HKZ.out.2.2.1; simp; omega) (Nat.zero_le _) ?_
          rw [HXL.out]
          intro a6 cap6 y6 hap'
          have hap : Appd eStr y5 y6 0 (.slice xa xl xc) (.slice a6 (xl + 1) cap6) rs [r] := hap'
          have hx5 : ∀ q, (Value.slice xa xl xc).ownBlock = some q → q ≠ lb ∧ q ≠ mp := fun q hq => H5.out.1.off ((nz : Int), (⟨xa, xc, rs⟩ : Sg)) (by simp) q (by show (Value.slice xa rs.length xc).ownBlock = some q; rw [HXL.out]; exact hq)
          have nb5 : ¬ (Value.slice xa xl xc).ownBlock = some lb := fun e => (hx5 lb e).1 rfl
          have hmp6 := MapL.tn H5.out.1.mpl hap.tn (fun e => (hx5 mp e).2 rfl)
          have lk6 : (Instr.lookup tSeg (.map (some mp)) (.int .i64 (nz : Int)) false).run Tryz.prog y6 = .ok (.slice xa xl xc) y6 := by
            have h5 := MapL.look hmp6 keyZ und_seg (zero_strs _) false (nz : Int)
            rw [HMZ.out.2.2.2] at h5
            rw [← HXL.out]
            exact h5
          have vd6 := And.intro (hap.tn.cell vd5.1 nb5) (And.intro (hap.tn.cell vd5.2.1 nb5) lk6)
          obtain ⟨y7, hrun, hm7, ht7, hz7⟩ := MapL.put hmp6 keyZ und_seg (nz : Int) (⟨a6, cap6, rs ++ [r]⟩ : Sg)
          have hrun' : (Instr.mapUpdate tSeg (.map (some mp)) (.int .i64 (nz : Int)) (.slice a6 (xl + 1) cap6)).run Tryz.prog y6 = .ok () y7 := by
            have : cvS (⟨a6, cap6, rs ++ [r]⟩ : Sg) = .slice a6 (xl + 1) cap6 := by
              show Value.slice a6 (rs ++ [r]).length cap6 = _
              rw [List.length_append, HXL.out]; rfl
            rw [this] at hrun
            exact hrun
          have H7 := Lib.hid (And.intro hap (And.intro hm7 ht7))
          clear hap hap' hmp6 lk6 hrun hm7 ht7 hz7
          refine hK.out _ _ vd6 (fun hH => ?_)
          clear hK K
          try simp only [Act.put, List.setIfInBounds_toArray, List.set_cons_zero, List.set_cons_succ]
          refine wpAnyK_last (by kernel_rfl) rfl (fun K hK => ?_) (by kernel_rfl)
          go_simp
          refine hK.out _ _ (wpAnyK_done (by kernel_rfl) ?_ _)
          clear hK K hH vd vd4 vd5 vd6 v0 v3 v4 lk8 hrun'
          go_wp2_with fail
          go_ret
          unfold Kept
          rw [HLY2.out]
          obtain ⟨hlm, tg, hmq⟩ := LoM.lay (G := G) (xa := xa) (xc := xc) (rs := rs) (r := r) (n' := xl + 1) (a' := a6) (c' := cap6) H5.out.1 HMZ.out.2.1 HMZ.out.2.2.1 (by rw [List.length_append, HXL.out]; rfl) (by rw [HXL.out]; exact H7.out.1) H7.out.2.1 H7.out.2.2 HKZ.out.2.2.1
          have t35 : Tn (fun q => q = lb) y3 y5 := H8.out.2.1.trans (Tn.ofBelow H5.out.2.2.2)
          have h35 : y3.heap.size ≤ y5.heap.size := t35.size
          have hw3 := H3.out.2.2.size
          have gfl : ∀ q, G q → F q ∧ ¬ two db mb q := HG.out
          have hd5 := H3.out.1.frame t35 (fun q _ e => by subst e; exact ⟨glz.1, fun e => glz.2 (.inl e), fun e => glz.2 (.inr e)⟩)
          have hmore : ∀ q, more G (.slice a6 (xl + 1) cap6) q → F q ∨ y5.heap.size ≤ q := fun q hq => (hmq q hq).imp (fun h => (gfl q h).1) id
          have hd7 : DkAt (fun q => F q ∨ more G (.slice a6 (xl + 1) cap6) q) y7 db mb D9 := hd5.widen (H := G) tg (fun q _ h => gfl q h) (fun q h => .inl h) (fun q h => h.elim .inl (hmore q)) (fun q h => h.elim (fun h => Nat.lt_of_lt_of_le (hd5.lt q h) tg.size) (hlm.lt q))
          refine ⟨rfl, more G (.slice a6 (xl + 1) cap6), _, hd7, ⟨A ++ ((nz : Int), ⟨a6, cap6, rs ++ [r]⟩) :: B, ?_⟩, fun q hq => ⟨.inr hq, fun h2 => ?_⟩, fun q h => .inl h, fun q h => ?_, fun q hq => ?_, ?_⟩
          · have e1 : ({ ({ L4 with long := lz2 + (fs : Int) } : Lg) with m := setL ({ L4 with long := lz2 + (fs : Int) } : Lg).m (nz : Int) (rs ++ [r]) } : Lg) = { L4 with long := L4.long + (framed r).size, m := setL L4.m L4.op (rs ++ [r]) } := by
              rw [HKZ.out.1, HKZ.out.2.2.2.1, HKZ.out.2.2.2.2.2.1, HKZ.out.2.2.2.2.2.2]
            rw [← e1]
            exact hlm
          · rcases hmq q hq with h | h
            · exact (gfl q h).2 h2
            · have := hd5.ltd
              have := hd5.m.lt
              rcases h2 with rfl | rfl <;> omega
          · rcases h with h | h
            · exact .inl h
            · exact (hmore q h).imp id (fun h => by omega)
          · exact (hmq q hq).imp id (fun h => by omega)
          · exact H3.out.2.2.trans (((t35.mono (fun q e => by subst e; exact .inr H5.out.1.gl))).trans (tg.mono (fun q h => .inr h)))
        · have t9 : (kd != 0) = true := by simpa using h9
          have HLY2 : Hid (L.append D r = (kd, D9, L4)) := by unfold Hid; rw [HLY.out.1, if_pos h9]
          clear h9 y35 yf5
          go_wp2
          go_ret
          rw [HLY2.out]
          exact Both.kept ⟨rfl, H3.out.1, ⟨_, H3.out.2.1⟩, H3.out.2.2⟩ HG.out
      · have tb : (kb != 0) = true := by simpa using hb0
        have HAP : Hid (L.append D r = (kb, D4, L4)) := by
          unfold Hid
          rw [append_eq2 HL.out.2.2.2.2.2.2.1 HA.out.1 HFU.out HO1.out HBG.out.1, if_pos hb0]
        clear hb0
        go_wp2
        go_ret
        rw [HAP.out]
        exact Both.kept ⟨rfl, HZ.out.2.1, HZ.out.1, HZ.out.2.2⟩ HG.out
  · have t0 : (k != 0) = true := by simpa using h0
    have HAP : Hid (L.append D r = (k, D1, L1)) := append_eq0 HL.out.2.2.2.2.2.2.1 HA.out.1 h0
    have H1 := Lib.hid (And.intro hl1 (And.intro hd1 ht1))
    clear h0 hd1 hl1 ht1 hF
    go_wp2
    go_ret
    rw [HAP.out]
    exact Both.kept ⟨rfl, H1.out.2.1, H1.out.1, H1.out.2.2⟩ HG.out
end Go.Proofs.YtohigcpcbonaeaaGreatDoor
