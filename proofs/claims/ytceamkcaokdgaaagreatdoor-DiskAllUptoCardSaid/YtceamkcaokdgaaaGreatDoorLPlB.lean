/-
  DiskPlays: step. (Printed by genlpb.py.)
-/
import Derived.Test.YtceamkcaokdgaaaGreatDoorLPlA
import Derived.Test.YtceamkcaokdgaaaGreatDoorDm7
import Derived.Deep.CutBlock
import Derived.Deep.CutRange
set_option linter.unusedSimpArgs false
set_option linter.unusedVariables false
namespace Go.Proofs.YtceamkcaokdgaaaGreatDoor
open Go.RowKit
variable {F G H K K' : Nat → Prop} {w w' w0 : World} {bk : Nat} {x y : PV}

theorem acts_act {D : Dk} {m : Nat} {f : Fm → Fm} (h : D.acts ≤ m) : (D.act f).2.acts ≤ m + 1 := Nat.le_trans (act_acts D f) (by omega)
theorem acts_create (D : Dk) (s : ByteArray) : (D.create s).2.acts ≤ D.acts + 1 := by
  unfold Dk.create
  repeat' split
  all_goals first | exact act_acts _ _ | exact Nat.le_succ _
theorem acts_app (D : Dk) (s t : ByteArray) : (D.app s t).2.acts ≤ D.acts + 1 := by
  unfold Dk.app
  repeat' split
  all_goals first | exact act_acts _ _ | exact Nat.le_succ _
theorem acts_sync (D : Dk) (s : ByteArray) : (D.sync s).2.acts ≤ D.acts + 1 := by
  unfold Dk.sync
  repeat' split
  all_goals first | exact act_acts _ _ | exact Nat.le_succ _
theorem acts_remove (D : Dk) (s : ByteArray) : (D.remove s).2.acts ≤ D.acts + 1 := by
  unfold Dk.remove
  repeat' split
  all_goals first | exact act_acts _ _ | exact Nat.le_succ _
theorem acts_rename (D : Dk) (s t : ByteArray) : (D.rename s t).2.acts ≤ D.acts + 1 := by
  unfold Dk.rename
  repeat' split
  all_goals first | exact act_acts _ _ | exact Nat.le_succ _
theorem acts_crash (D : Dk) (c : List Int) (f : Int) : (D.crash c f).acts = D.acts := by
  unfold Dk.crash
  split <;> rfl

theorem flat_int (l : List Int) : l.flatMap (fun k : Int => [Value.int .i64 k]) = l.map (Value.int .i64) := by
  induction l with
  | nil => rfl
  | cons a l ih => rw [List.flatMap_cons, ih]; rfl
/-- The cuts of a script's step, in the world that came in. -/
structure CutsAt (w : World) (a : Option Addr) (n c : Nat) (l : List Int) : Prop where
  len : l.length = n
  cap : a = none → c = 0
  at_ : n = 0 ∨ ∃ b off, a = some ⟨b, off, none⟩ ∧ b < w.heap.size ∧ ∀ i (hi : i < l.length), w.cell? ⟨b, off + i, none⟩ = some (.int .i64 l[i])
variable {ca : Option Addr} {n cc : Nat} {cuts : List Int}
theorem CutsAt.src (h : CutsAt w0 ca n cc cuts) (hb : Below w0.heap.size w0 w) : Src eI w (.slice ca n cc) cuts := by
  have hl := h.len
  cases ca with
  | none =>
    have h0 : n = 0 := by
      rcases h.at_ with h | ⟨b, off, h, _⟩
      · exact h
      · cases h
    subst h0
    rw [h.cap rfl]
    exact .inl ⟨rfl, List.eq_nil_of_length_eq_zero hl⟩
  | some ad =>
    refine .inr ⟨ad, cc, by rw [hl], fun j u hj => ?_⟩
    rw [flat_int, List.getElem?_map] at hj
    obtain ⟨hjl, hje⟩ : ∃ hjl : j < cuts.length, u = .int .i64 cuts[j] := by
      rcases Nat.lt_or_ge j cuts.length with h1 | h1
      · rw [List.getElem?_eq_getElem h1] at hj
        exact ⟨h1, by simpa using hj.symm⟩
      · rw [List.getElem?_eq_none h1] at hj
        cases hj
    rcases h.at_ with h0 | ⟨b, off, e, hbl, hc⟩
    · omega
    · injection e with e
      subst e
      rw [add_off, hje]
      exact (hb.cell (p := ⟨b, off + j, none⟩) hbl).trans (hc j hjl)
theorem CutsAt.rdI (h : CutsAt w0 ca n cc cuts) (hb : Below w0.heap.size w0 w) : RdI w (.slice ca n cc) cuts := by
  refine ⟨ca, cc, by rw [h.len], ?_⟩
  rcases h.at_ with h0 | ⟨b, off, e, hbl, hc⟩
  · exact .inl (List.eq_nil_of_length_eq_zero (h.len.trans h0))
  · exact .inr ⟨b, off, e, Nat.lt_of_lt_of_le hbl hb.size, fun i hi => (hb.cell (p := ⟨b, off + i, none⟩) hbl).trans (hc i hi)⟩
theorem CutsAt.rdC (h : CutsAt w0 ca n cc cuts) (hb : Below w0.heap.size w0 w) : RdC (fun q => ¬ q < w0.heap.size) w (.slice ca n cc) cuts := by
  refine ⟨ca, cc, by rw [h.len], ?_⟩
  rcases h.at_ with h0 | ⟨b, off, e, hbl, hc⟩
  · exact .inl (List.eq_nil_of_length_eq_zero (h.len.trans h0))
  · exact .inr ⟨b, off, e, fun hn => hn hbl, Nat.lt_of_lt_of_le hbl hb.size, fun i hi => (hb.cell (p := ⟨b, off + i, none⟩) hbl).trans (hc i hi)⟩
/-- The cuts that are handed on: a copy, one number behind it. -/
structure Copy (w : World) (cb n ccap : Nat) (l : List Int) : Prop where
  len : l.length = n
  lt : cb < w.heap.size
  fz : w.frozen? ⟨cb, 0, none⟩ = false
  at_ : ∀ i (hi : i < l.length), w.cell? ⟨cb, i, none⟩ = some (.int .i64 l[i])
  last : w.cell? ⟨cb, n, none⟩ = some (.int .i64 (-77))
variable {cb ccap : Nat}
theorem Copy.tn (h : Copy w cb n ccap cuts) (ht : Tn G w w') (hG : ¬ G cb) : Copy w' cb n ccap cuts :=
  ⟨h.len, Nat.lt_of_lt_of_le h.lt ht.size, (ht.frozen (p := ⟨cb, 0, none⟩) h.lt hG).trans h.fz, fun i hi => ht.cell (h.at_ i hi) hG, ht.cell h.last hG⟩
theorem Copy.rdI (h : Copy w cb n ccap cuts) : RdI w (.slice (some ⟨cb, 0, none⟩) n ccap) cuts :=
  ⟨_, ccap, by rw [h.len], .inr ⟨cb, 0, rfl, h.lt, fun i hi => by rw [Nat.zero_add]; exact h.at_ i hi⟩⟩
theorem Copy.rdC (h : Copy w cb n ccap cuts) (hF : ¬ F cb) : RdC F w (.slice (some ⟨cb, 0, none⟩) n ccap) cuts :=
  ⟨_, ccap, by rw [h.len], .inr ⟨cb, 0, rfl, hF, h.lt, fun i hi => by rw [Nat.zero_add]; exact h.at_ i hi⟩⟩
theorem copy_own {B m : Nat} {a : Option Addr} (h : Own eI w B (.slice a m ccap) (cuts ++ [-77])) (hl : cuts.length = n) (hm : m = n + 1) : ∃ cb, a = some ⟨cb, 0, none⟩ ∧ B ≤ cb ∧ n + 1 ≤ ccap ∧ ccap ≤ 9223372036854775807 ∧ Copy w cb n ccap cuts := by
  have hle : (cuts ++ [-77]).length = n + 1 := by simp [hl]
  rw [← hle] at hm
  subst hm
  have h0 := h
  obtain ⟨h1, h2⟩ := h
  rcases h2 with ⟨_, h3⟩ | ⟨g, cap', cur, hv2, hg, hh, hn', hc, hcl, htk⟩
  · omega
  · injection hv2 with e1 e2 e3
    subst e1
    have hcell : ∀ i (hi : i < (cuts ++ [-77]).length), w.cell? ⟨g, i, none⟩ = some (.int .i64 (cuts ++ [-77])[i]) := fun i hi => by
      have := h0.cellAt i (by omega)
      rw [this]
      have h4 := eI.get (cuts ++ [-77]) i 0 hi (by omega)
      rw [Nat.mul_one, Nat.add_zero] at h4
      rw [h4]
      rfl
    refine ⟨g, rfl, hg, by omega, by subst e3; exact hc, hl, (Array.getElem?_eq_some_iff.1 hh).1, by unfold World.frozen?; simp only [hh]; simp, fun i hi => ?_, ?_⟩
    · rw [hcell i (by omega), List.getElem_append_left hi]
    · rw [hcell n (by omega), List.getElem_append_right (by omega)]
      simp [hl]
theorem pst_rfuse2 (h : PSt K w0 w x y bk) (hc : CutsAt w0 ca n cc cuts) (A : Int) (hA : A ≤ 9223372036854775807) (hl : cuts.length ≤ 1000000) (B : Int) : Calls Tryz.prog 40 #[.pointer (some ⟨x.rb, 0, none⟩), .int .i64 A, .slice ca n cc, .int .i64 B] w fun e w' => e = .returned (.tuple #[]) ∧ PGo K w0 w w' { x with R := x.R.setFuse A cuts B } y bk := by
  have hs := hc.src h.bel
  have hn := hc.len
  subst hn
  exact pst_rfuse h A hA hs hl B
theorem below_of_drewN {w w' : World} {a : Nat} (h : w' = w.drewN a) : Below w.heap.size w w' := by rw [h]; exact below_drewN (Below.refl _ _) a
section
variable {P : Program} {ops : Array Oper} {Q : Exit → Act → World → Prop} {md : Region.Mode} {S : World → Prop} {k : Nat}
/-- One that may come up, and is not k, comes up. -/
theorem wpOp_K {i : Nat} {t : Option Tmp} {op : Op} {ty : TypeId} {pos : String} {aft : Array Edge} {gd : Option (Nat × Bool)} {fuel : Nat} {listed : Array Bool} {a : Act} {w : World} (hi : ops[i]? = some ⟨t, op, ty, pos, aft, gd⟩)
    (h : ∀ K' : Act → World → Prop, Shut (∀ a w, S w → (S w → wpAnyK P md ops Q S k fuel (listed.setIfInBounds i true) a w) → K' a w) →
      if Region.wanted ⟨t, op, ty, pos, aft, gd⟩ (yielded ops a.tmps) = true then Oper.wp P ⟨t, op, ty, pos, aft, gd⟩ a w K' Q else K' (a.put t undef) w)
    (hk : (listed.setIfInBounds i true).getD k true = false) : wpOp P ops Q i (fun a' w' => ((listed.setIfInBounds i true).getD k true = false → S w') ∧ wpAnyK P md ops Q S k fuel (listed.setIfInBounds i true) a' w') a w :=
  wpOp_step hi (fun K' hK => h K' (fun a w hS hW => hK a w ⟨fun _ => hS, hW hS⟩))
end

set_option maxRecDepth 100000 in
set_option maxHeartbeats 8000000 in
theorem step_any {Kp : Nat → Prop} (h : PSt Kp w0 w x y bk) (hs : Sim x.D x.R) (hk : x.D.acts < 1000000) {kd wh A B : Int} {nm dt : ByteArray} (hc : CutsAt w0 ca n cc cuts) (hn : n ≤ 60) (hnm : nm.size ≤ 140737488351232) (hdt : dt.size ≤ 9000) (hA : A ≤ 9223372036854775807) :
    Calls Tryz.prog 11 #[.pointer (some ⟨x.db, 0, none⟩), .pointer (some ⟨x.rb, 0, none⟩), .agg #[.int .i64 kd, .int .i64 wh, .int .i64 A, .int .i64 B, .slice ca n cc, .string nm, .string dt], .pointer (some ⟨bk, 0, none⟩)] w fun e w' =>
      e = .returned (.bool true) ∧ ∃ D' R', PGo Kp w0 w w' ⟨x.db, x.rb, D', R'⟩ y bk ∧ Sim D' R' ∧ D'.acts ≤ x.D.acts + 1 := by
  obtain ⟨db, rb, D, R⟩ := x
  simp only at hs hk ⊢
  have H := Lib.hid h
  have HS := Lib.hid hs
  have HC := Lib.hid hc
  have HLEN : Hid (([] : List Int).length + cuts.length = n) := by unfold Hid; rw [hc.len]; simp
  have hbel := h.bel
  obtain ⟨w1, hw1⟩ : ∃ w1, w.alloc (.cells #[.int .i64 kd, .int .i64 wh, .int .i64 A, .int .i64 B, .slice ca n cc, .string nm, .string dt] 51) = w1 := ⟨_, rfl⟩
  have hb1 : Below w.heap.size w w1 := by rw [← hw1]; exact (Below.refl _ _).alloc (Nat.le_refl _) _
  have c0 : w1.cell? ⟨w.heap.size, 0, none⟩ = some (.int .i64 kd) := by rw [← hw1, World.cell?_alloc_mark]; rfl
  have c2 : w1.cell? ⟨w.heap.size, 2, none⟩ = some (.int .i64 A) := by rw [← hw1, World.cell?_alloc_mark]; rfl
  have c3 : w1.cell? ⟨w.heap.size, 3, none⟩ = some (.int .i64 B) := by rw [← hw1, World.cell?_alloc_mark]; rfl
  have c4 : w1.cell? ⟨w.heap.size, 4, none⟩ = some (.slice ca n cc) := by rw [← hw1, World.cell?_alloc_mark]; rfl
  have c5 : w1.cell? ⟨w.heap.size, 5, none⟩ = some (.string nm) := by rw [← hw1, World.cell?_alloc_mark]; rfl
  have c6 : w1.cell? ⟨w.heap.size, 6, none⟩ = some (.string dt) := by rw [← hw1, World.cell?_alloc_mark]; rfl
  have hob1 : w.heap.size < w1.heap.size := World.block_lt_of_cell? _ _ c0
  have HSRC : Hid (∀ W, Below w1.heap.size w1 W → Src eI W (.slice ca n cc) cuts) := fun W hW => HC.out.src ((hbel.trans (hb1.mono hbel.size)).trans (hW.mono (Nat.le_trans hbel.size hb1.size)))
  have HB1 := Lib.hid hb1
  have HBEL := Lib.hid hbel
  clear h hs hc hb1 hbel
  go_enter Tryz.func11, Tryz.ntmps11
  go_upto_region 1 with fail
  clear hw1
  go_cut [9] from 15 (fun x9 wx => ∃ cb ccap, x9 = .slice (some ⟨cb, 0, none⟩) n ccap ∧ n + 1 ≤ ccap ∧ ccap ≤ 9223372036854775807 ∧ Copy wx cb n ccap cuts ∧ w1.heap.size ≤ cb ∧ Below w1.heap.size w1 wx)
  case first =>
    have k4 : w1.drew.cell? ⟨w.heap.size, 4, none⟩ = some (.slice ca n cc) := c4
    have HBW := Lib.hid (Below.refl w1.heap.size w1).drew
    have HBA := HBW
    refine wp_region_K (fun w' => w'.cell? ⟨w.heap.size, 4, none⟩ = some (.slice ca n cc)) 9 10 (by kernel_rfl) (by kernel_rfl) k4 (fun hH => ?_)
    refine wpAnyK_take (i := 0) [9] (v := ?v1) rfl (by kernel_rfl) (by kernel_rfl) (by kernel_rfl) (by kernel_rfl) (fun _ _ _ h => h) (Or.inl ⟨by rfl, ?hy1⟩) hH ?rest1
    case hy1 => (intro w hSw; (try dsimp only at hSw); go_simp; with_reducible rfl)
    try simp only [Act.put, List.setIfInBounds_toArray, List.set_cons_zero, List.set_cons_succ]
    refine wpAnyK_take (i := 1) [9] (v := ?v2) rfl (by kernel_rfl) (by kernel_rfl) (by kernel_rfl) (by kernel_rfl) (fun _ _ _ h => h) (Or.inl ⟨by rfl, ?hy2⟩) hH ?rest2
    case hy2 => (intro w hSw; (try dsimp only at hSw); go_simp; with_reducible rfl)
    try simp only [Act.put, List.setIfInBounds_toArray, List.set_cons_zero, List.set_cons_succ]
    refine wpAnyK_take (i := 5) [9] (v := ?v3) rfl (by kernel_rfl) (by kernel_rfl) (by kernel_rfl) (by kernel_rfl) (fun _ _ _ h => h) (Or.inl ⟨by rfl, ?hy3⟩) hH ?rest3
    case hy3 => (intro w hSw; (try dsimp only at hSw); go_simp; with_reducible rfl)
    try simp only [Act.put, List.setIfInBounds_toArray, List.set_cons_zero, List.set_cons_succ]
    refine wpAnyK_take (i := 6) [9] (v := ?v4) rfl (by kernel_rfl) (by kernel_rfl) (by kernel_rfl) (by kernel_rfl) (fun _ _ _ h => h) (Or.inl ⟨by rfl, ?hy4⟩) hH ?rest4
    case hy4 => (intro w hSw; (try dsimp only at hSw); go_simp; with_reducible rfl)
    try simp only [Act.put, List.setIfInBounds_toArray, List.set_cons_zero, List.set_cons_succ]
    refine wpAnyK_take (i := 7) [9] (v := ?v5) rfl (by kernel_rfl) (by kernel_rfl) (by kernel_rfl) (by kernel_rfl) (fun _ _ _ h => h) (Or.inl ⟨by rfl, ?hy5⟩) hH ?rest5
    case hy5 => (intro w hSw; (try dsimp only at hSw); go_simp; with_reducible rfl)
    try simp only [Act.put, List.setIfInBounds_toArray, List.set_cons_zero, List.set_cons_succ]
    obtain ⟨W0, hW0⟩ : ∃ W0, w1.drew = W0 := ⟨_, rfl⟩
    rw [hW0] at hH HBW HBA ⊢
    clear hW0 k4
    refine wpAnyK_all (rs := [2, 3]) (by kernel_rfl) (by simp) (fun i hi => ?_)
    rcases List.mem_cons.1 hi with rfl | hi2
    · refine wpOp_K rfl (fun K0 hK => ?_) (by kernel_rfl)
      refine step_app eI rfl (.const (.slice none 0 0)) (.tmp 16) rfl (v := .slice none 0 0) (xv := .slice ca n cc) (l := []) (l2 := cuts) (B := W0.heap.size) rfl rfl (World.ownsRow_nil _ _ _ _) (HSRC.out _ HBW.out) (by rw [HLEN.out]; omega) (Nat.le_refl _) ?_
      rw [HLEN.out, List.nil_append]
      intro a5 c5 w5 ho5 hb5 _ _
      have hs5 := (hb5.cell (p := ⟨w.heap.size, 4, none⟩) (Nat.lt_of_lt_of_le hob1 HBW.out.size)).trans hH
      have HO5 := Lib.hid (row_mono ho5 HBW.out.size)
      have HBW := Lib.hid (HBW.out.trans (hb5.mono HBW.out.size))
      refine hK.out _ _ hs5 (fun hH => ?_)
      clear hK K0 hs5
      try simp only [Act.put, List.setIfInBounds_toArray, List.set_cons_zero, List.set_cons_succ]
      clear ho5
      refine wpAnyK_one (i := 3) (by kernel_rfl) rfl (fun K0 hK => ?_) (by kernel_rfl)
      go_simp
      obtain ⟨w6, hw6⟩ : ∃ w6, w5.alloc (.cells #[.int .i64 (-77)] 3) = w6 := ⟨_, rfl⟩
      rw [hw6]
      have hba : Below w5.heap.size w5 w6 := by rw [← hw6]; exact (Below.refl _ _).alloc (Nat.le_refl _) _
      have hsza : w6.heap.size = w5.heap.size + 1 := by rw [← hw6]; simp
      have HS3 := Lib.hid (show Src eI w6 (.slice (some ⟨w5.heap.size, 0, none⟩) 1 1) [-77] from by rw [← hw6]; exact src_one (e := eI) _ (-77 : Int) _ _ rfl 1)
      have hs5 := (hba.cell (p := ⟨w.heap.size, 4, none⟩) (Nat.lt_of_lt_of_le hob1 HBW.out.size)).trans hH
      have HBW := Lib.hid (HBW.out.trans (hba.mono HBW.out.size))
      refine hK.out _ _ hs5 (fun hH => ?_)
      clear hK K0 hs5
      try simp only [Act.put, List.setIfInBounds_toArray, List.set_cons_zero, List.set_cons_succ]
      have ho5 := row_below HO5.out hba
      clear hba
      refine wpAnyK_one (i := 4) (by kernel_rfl) rfl (fun K0 hK => ?_) (by kernel_rfl)
      refine step_app eI rfl (.tmp 17) (.tmp 18) rfl (l := cuts) (l2 := [-77]) (B := w1.heap.size) rfl rfl ho5 HS3.out (by rw [HC.out.len]; simp; omega) HBW.out.size ?_
      intro a8 c8 w8 ho8 hb8 _ _
      obtain ⟨n8, hn8⟩ : ∃ n8, n8 = cuts.length + ([-77] : List Int).length := ⟨_, rfl⟩
      rw [← hn8] at ho8 ⊢
      have hn8b : n8 = n + 1 := by rw [hn8, HC.out.len]; rfl
      clear hn8 ho5
      have hbw := HBW.out.trans hb8
      obtain ⟨cb, e8, hcb, hc8, hc9, hcp⟩ := copy_own ho8 HC.out.len hn8b
      have HR := Lib.hid (And.intro hcb (And.intro hcp hbw))
      subst e8 hn8b
      have hs8 := (hb8.cell (p := ⟨w.heap.size, 4, none⟩) hob1).trans hH
      refine hK.out _ _ hs8 (fun hH => ?_)
      clear hK K0 hs8 ho8 hb8 hbw hcb hcp
      have hc8n : n ≤ c8 := by omega
      have hc8i : (n : Int) ≤ (c8 : Int) := by omega
      try simp only [Act.put, List.setIfInBounds_toArray, List.set_cons_zero, List.set_cons_succ]
      refine wpAnyK_one (i := 8) (by kernel_rfl) rfl (fun K hK => ?_) (by kernel_rfl)
      go_simp
      refine hK.out _ _ hH (fun _ => ?_)
      clear hK K
      try simp only [Act.put, List.setIfInBounds_toArray, List.set_cons_zero, List.set_cons_succ]
      refine wpAnyK_last (by kernel_rfl) rfl (fun K hK => ?_) (by kernel_rfl)
      go_simp
      refine hK.out _ _ (wpAnyK_done (by kernel_rfl) ?_ _)
      clear hK K hH
      go_wp2
      go_meet
      case rel => exact ⟨cb, c8, rfl, hc8, hc9, HR.out.2.1, HR.out.1, HR.out.2.2⟩
    · obtain rfl := List.mem_singleton.1 hi2
      refine wpOp_K rfl (fun K0 hK => ?_) (by kernel_rfl)
      go_simp
      obtain ⟨w5, hw5⟩ : ∃ w5, W0.alloc (.cells #[.int .i64 (-77)] 3) = w5 := ⟨_, rfl⟩
      rw [hw5]
      have hba : Below W0.heap.size W0 w5 := by rw [← hw5]; exact (Below.refl _ _).alloc (Nat.le_refl _) _
      have hsza : w5.heap.size = W0.heap.size + 1 := by rw [← hw5]; simp
      have HS3 := Lib.hid (show Src eI w5 (.slice (some ⟨W0.heap.size, 0, none⟩) 1 1) [-77] from by rw [← hw5]; exact src_one (e := eI) _ (-77 : Int) _ _ rfl 1)
      have hs5 := (hba.cell (p := ⟨w.heap.size, 4, none⟩) (Nat.lt_of_lt_of_le hob1 HBW.out.size)).trans hH
      have HBW := Lib.hid (HBW.out.trans (hba.mono HBW.out.size))
      refine hK.out _ _ hs5 (fun hH => ?_)
      clear hK K0 hs5
      try simp only [Act.put, List.setIfInBounds_toArray, List.set_cons_zero, List.set_cons_succ]
      refine wpAnyK_one (i := 2) (by kernel_rfl) rfl (fun K0 hK => ?_) (by kernel_rfl)
      refine step_app eI rfl (.const (.slice none 0 0)) (.tmp 16) rfl (v := .slice none 0 0) (xv := .slice ca n cc) (l := []) (l2 := cuts) (B := w5.heap.size) rfl rfl (World.ownsRow_nil _ _ _ _) (HSRC.out _ HBW.out) (by rw [HLEN.out]; omega) (Nat.le_refl _) ?_
      rw [HLEN.out, List.nil_append]
      intro a5 c5 w6 ho5 hb5 _ _
      have hs5 := (hb5.cell (p := ⟨w.heap.size, 4, none⟩) (Nat.lt_of_lt_of_le hob1 HBW.out.size)).trans hH
      have HO5 := Lib.hid (row_mono ho5 HBW.out.size)
      have HBW := Lib.hid (HBW.out.trans (hb5.mono HBW.out.size))
      refine hK.out _ _ hs5 (fun hH => ?_)
      clear hK K0 hs5
      try simp only [Act.put, List.setIfInBounds_toArray, List.set_cons_zero, List.set_cons_succ]
      clear ho5
      have HS3 := Lib.hid (HS3.out.below hb5 (fun b hb => by have e := Option.some.inj (show some W0.heap.size = some b from hb); omega))
      have ho5 := HO5.out
      clear hb5
      refine wpAnyK_one (i := 4) (by kernel_rfl) rfl (fun K0 hK => ?_) (by kernel_rfl)
      refine step_app eI rfl (.tmp 17) (.tmp 18) rfl (l := cuts) (l2 := [-77]) (B := w1.heap.size) rfl rfl ho5 HS3.out (by rw [HC.out.len]; simp; omega) HBW.out.size ?_
      intro a8 c8 w8 ho8 hb8 _ _
      obtain ⟨n8, hn8⟩ : ∃ n8, n8 = cuts.length + ([-77] : List Int).length := ⟨_, rfl⟩
      rw [← hn8] at ho8 ⊢
      have hn8b : n8 = n + 1 := by rw [hn8, HC.out.len]; rfl
      clear hn8 ho5
      have hbw := HBW.out.trans hb8
      obtain ⟨cb, e8, hcb, hc8, hc9, hcp⟩ := copy_own ho8 HC.out.len hn8b
      have HR := Lib.hid (And.intro hcb (And.intro hcp hbw))
      subst e8 hn8b
      have hs8 := (hb8.cell (p := ⟨w.heap.size, 4, none⟩) hob1).trans hH
      refine hK.out _ _ hs8 (fun hH => ?_)
      clear hK K0 hs8 ho8 hb8 hbw hcb hcp
      have hc8n : n ≤ c8 := by omega
      have hc8i : (n : Int) ≤ (c8 : Int) := by omega
      try simp only [Act.put, List.setIfInBounds_toArray, List.set_cons_zero, List.set_cons_succ]
      refine wpAnyK_one (i := 8) (by kernel_rfl) rfl (fun K hK => ?_) (by kernel_rfl)
      go_simp
      refine hK.out _ _ hH (fun _ => ?_)
      clear hK K
      try simp only [Act.put, List.setIfInBounds_toArray, List.set_cons_zero, List.set_cons_succ]
      refine wpAnyK_last (by kernel_rfl) rfl (fun K hK => ?_) (by kernel_rfl)
      go_simp
      refine hK.out _ _ (wpAnyK_done (by kernel_rfl) ?_ _)
      clear hK K hH
      go_wp2
      go_meet
      case rel => exact ⟨cb, c8, rfl, hc8, hc9, HR.out.2.1, HR.out.1, HR.out.2.2⟩
  case rest =>
    obtain ⟨cb, ccap, hx9, hcc, hcm, hcp, hcb, hbc⟩ := hcut
    subst hx9
    have hbw : Below w.heap.size w wc := HB1.out.trans (hbc.mono HB1.out.size)
    have hcbl := hcp.lt
    obtain ⟨K1, hK1⟩ : ∃ K1 : Nat → Prop, K1 = fun q => Kp q ∨ (w.heap.size ≤ q ∧ q < wc.heap.size) := ⟨_, rfl⟩
    have hm := PSt.more H.out hbw
    rw [← hK1] at hm
    have HM := Lib.hid hm
    have HKK := Lib.hid (show ∀ q, Kp q → K1 q from fun q hq => by rw [hK1]; exact .inl hq)
    have ko : K1 w.heap.size := by rw [hK1]; exact .inr ⟨Nat.le_refl _, Nat.lt_of_lt_of_le hob1 hbc.size⟩
    have kc : K1 cb := by rw [hK1]; exact .inr ⟨Nat.le_trans HB1.out.size hcb, hcbl⟩
    have HK1 := Lib.hid (And.intro ko kc)
    have HBW := Lib.hid hbw
    have HCM := Lib.hid hcp
    have k0 := (hbc.cell (p := ⟨w.heap.size, 0, none⟩) hob1).trans c0
    have k2 := (hbc.cell (p := ⟨w.heap.size, 2, none⟩) hob1).trans c2
    have k3 := (hbc.cell (p := ⟨w.heap.size, 3, none⟩) hob1).trans c3
    have k4 := (hbc.cell (p := ⟨w.heap.size, 4, none⟩) hob1).trans c4
    have k5 := (hbc.cell (p := ⟨w.heap.size, 5, none⟩) hob1).trans c5
    have k6 := (hbc.cell (p := ⟨w.heap.size, 6, none⟩) hob1).trans c6
    have holt : w.heap.size < wc.heap.size := Nat.lt_of_lt_of_le hob1 hbc.size
    have HFIN := Lib.hid (show ∀ w9 X, PSt K1 w0 w9 X y bk → Tn (fun q => ¬ K1 q) wc w9 → PGo Kp w0 w w9 X y bk from fun w9 X h1 h2 => ⟨h1.weak HKK.out, Tn.gone HBW.out h2 HKK.out⟩)
    have hkr : R.acts < 1000000 := by rw [← HS.out.acts]; exact hk
    have HLC := Lib.hid (show cuts.length ≤ 1000000 from by rw [HC.out.len]; omega)
    have hcc1 : (n : Int) + 1 ≤ (ccap : Int) := by omega
    have hccn : n ≤ ccap := by omega
    obtain ⟨ob, hob⟩ : ∃ ob, ob = w.heap.size := ⟨_, rfl⟩
    rw [← hob] at k0 k2 k3 k4 k5 k6 holt HK1 ⊢
    have HNEW := Lib.hid (show ¬ Kp cb from fun hq => by have := H.out.klt cb hq; have := HB1.out.size; omega)
    clear hbw hcbl hm hK1 ko kc hcp hcb hbc c0 c2 c3 c4 c5 c6 hob1 HSRC HLEN hob
    rcases (by omega : kd = 1 ∨ kd = 2 ∨ kd = 3 ∨ kd = 4 ∨ kd = 5 ∨ kd = 6 ∨ kd = 7 ∨ kd = 8 ∨ kd = 9 ∨ kd = 10 ∨ kd = 11 ∨ (kd ≠ 1 ∧ kd ≠ 2 ∧ kd ≠ 3 ∧ kd ≠ 4 ∧ kd ≠ 5 ∧ kd ≠ 6 ∧ kd ≠ 7 ∧ kd ≠ 8 ∧ kd ≠ 9 ∧ kd ≠ 10 ∧ kd ≠ 11)) with rfl | rfl | rfl | rfl | rfl | rfl | rfl | rfl | rfl | rfl | rfl | hkd
    · obtain ⟨pe, hpe⟩ : ∃ pe, (D.create nm).1 = pe := ⟨_, rfl⟩
      have hS := HS.out.create nm
      have HPE := Lib.hid (And.intro hpe (hS.1.symm.trans hpe))
      have HSS := Lib.hid hS.2
      have HAC := Lib.hid (acts_create D nm)
      have t5 : (pe == pe) = true := by simp
      clear hpe hS
      go_wp2_with fail
      have kd5 : wc.drew.cell? ⟨ob, 5, none⟩ = some (.string nm) := k5
      have kd6 : wc.drew.cell? ⟨ob, 6, none⟩ = some (.string dt) := k6
      refine wp_region_K (fun w' => w'.cell? ⟨ob, 5, none⟩ = some (.string nm)) 9 10 (by kernel_rfl) (by kernel_rfl) kd5 (fun hH => ?_)
      refine wpAnyK_take (i := 0) [9] (v := ?v6) rfl (by kernel_rfl) (by kernel_rfl) (by kernel_rfl) (by kernel_rfl) (fun _ _ _ h => h) (Or.inl ⟨by rfl, ?hy6⟩) hH ?rest6
      case hy6 => (intro w hSw; (try dsimp only at hSw); go_simp; with_reducible rfl)
      try simp only [Act.put, List.setIfInBounds_toArray, List.set_cons_zero, List.set_cons_succ]
      refine wpAnyK_take (i := 1) [9] (v := ?v7) rfl (by kernel_rfl) (by kernel_rfl) (by kernel_rfl) (by kernel_rfl) (fun _ _ _ h => h) (Or.inl ⟨by rfl, ?hy7⟩) hH ?rest7
      case hy7 => (intro w hSw; (try dsimp only at hSw); go_simp; with_reducible rfl)
      try simp only [Act.put, List.setIfInBounds_toArray, List.set_cons_zero, List.set_cons_succ]
      refine wpAnyK_take (i := 2) [9] (v := ?v8) rfl (by kernel_rfl) (by kernel_rfl) (by kernel_rfl) (by kernel_rfl) (fun _ _ _ h => h) (Or.inl ⟨by rfl, ?hy8⟩) hH ?rest8
      case hy8 => (intro w hSw; (try dsimp only at hSw); go_simp; with_reducible rfl)
      try simp only [Act.put, List.setIfInBounds_toArray, List.set_cons_zero, List.set_cons_succ]
      refine wpAnyK_take (i := 4) [9] (v := ?v9) rfl (by kernel_rfl) (by kernel_rfl) (by kernel_rfl) (by kernel_rfl) (fun _ _ _ h => h) (Or.inl ⟨by rfl, ?hy9⟩) hH ?rest9
      case hy9 => (intro w hSw; (try dsimp only at hSw); go_simp; with_reducible rfl)
      try simp only [Act.put, List.setIfInBounds_toArray, List.set_cons_zero, List.set_cons_succ]
      refine wpAnyK_take (i := 5) [9] (v := ?v10) rfl (by kernel_rfl) (by kernel_rfl) (by kernel_rfl) (by kernel_rfl) (fun _ _ _ h => h) (Or.inl ⟨by rfl, ?hy10⟩) hH ?rest10
      case hy10 => (intro w hSw; (try dsimp only at hSw); go_simp; with_reducible rfl)
      try simp only [Act.put, List.setIfInBounds_toArray, List.set_cons_zero, List.set_cons_succ]
      refine wpAnyK_take (i := 6) [9] (v := ?v11) rfl (by kernel_rfl) (by kernel_rfl) (by kernel_rfl) (by kernel_rfl) (fun _ _ _ h => h) (Or.inl ⟨by rfl, ?hy11⟩) hH ?rest11
      case hy11 => (intro w hSw; (try dsimp only at hSw); go_simp; with_reducible rfl)
      try simp only [Act.put, List.setIfInBounds_toArray, List.set_cons_zero, List.set_cons_succ]
      refine wpAnyK_one (i := 3) (by kernel_rfl) rfl (fun K hK => ?_) (by kernel_rfl)
      go_simp
      go_at_call 15
      refine (pst_create (HM.out.below (Below.refl _ wc).drew) hk nm hnm).mono ?_
      rintro _ w6 ⟨rfl, hp6, ht6⟩
      simp only []
      rw [HPE.out.1]
      have HP6 := Lib.hid hp6
      have HT6 := Lib.hid ((Tn.ofBelow (Below.refl _ wc).drew).trans ht6)
      have e5 := ht6.cell kd5 (fun h => h HK1.out.1)
      have e6 := ht6.cell kd6 (fun h => h HK1.out.1)
      clear hp6 ht6
      refine hK.out _ _ e5 (fun hH => ?_)
      clear hK K
      try simp only [Act.put, List.setIfInBounds_toArray, List.set_cons_zero, List.set_cons_succ]
      refine wpAnyK_one (i := 7) (by kernel_rfl) rfl (fun K hK => ?_) (by kernel_rfl)
      go_simp
      go_at_call 22
      refine (pst_rcreate HP6.out hkr nm hnm).mono ?_
      rintro _ w7 ⟨rfl, hp7, ht7⟩
      simp only []
      rw [HPE.out.2]
      have HP7 := Lib.hid hp7
      have HT7 := Lib.hid (HT6.out.trans ht7)
      have g5 := ht7.cell e5 (fun h => h HK1.out.1)
      have g6 := ht7.cell e6 (fun h => h HK1.out.1)
      clear hp7 ht7
      refine hK.out _ _ g5 (fun hH => ?_)
      clear hK K
      try simp only [Act.put, List.setIfInBounds_toArray, List.set_cons_zero, List.set_cons_succ]
      refine wpAnyK_take (i := 8) [9] (v := ?v12) rfl (by kernel_rfl) (by kernel_rfl) (by kernel_rfl) (by kernel_rfl) (fun _ _ _ h => h) (Or.inl ⟨by rfl, ?hy12⟩) hH ?rest12
      case hy12 => (intro w hSw; (try dsimp only at hSw); go_simp; with_reducible rfl)
      try simp only [Act.put, List.setIfInBounds_toArray, List.set_cons_zero, List.set_cons_succ]
      refine wpAnyK_last (by kernel_rfl) rfl (fun K hK => ?_) (by kernel_rfl)
      go_simp
      refine hK.out _ _ (wpAnyK_done (by kernel_rfl) ?_ _)
      clear hK K hH kd5 kd6 e5 e6 g5 g6
      go_wp2
      go_ret
      exact ⟨rfl, _, _, HFIN.out _ _ HP7.out HT7.out, HSS.out, HAC.out⟩
    · obtain ⟨pe, hpe⟩ : ∃ pe, (D.app nm dt).1 = pe := ⟨_, rfl⟩
      have hS := HS.out.app nm dt
      have HPE := Lib.hid (And.intro hpe (hS.1.symm.trans hpe))
      have HSS := Lib.hid hS.2
      have HAC := Lib.hid (acts_app D nm dt)
      have t5 : (pe == pe) = true := by simp
      clear hpe hS
      go_wp2_with fail
      have kd5 : wc.drew.cell? ⟨ob, 5, none⟩ = some (.string nm) := k5
      have kd6 : wc.drew.cell? ⟨ob, 6, none⟩ = some (.string dt) := k6
      refine wp_region_K (fun w' => w'.cell? ⟨ob, 5, none⟩ = some (.string nm) ∧ w'.cell? ⟨ob, 6, none⟩ = some (.string dt)) 13 14 (by kernel_rfl) (by kernel_rfl) ⟨kd5, kd6⟩ (fun hH => ?_)
      refine wpAnyK_take (i := 0) [13] (v := ?v13) rfl (by kernel_rfl) (by kernel_rfl) (by kernel_rfl) (by kernel_rfl) (fun _ _ _ h => h) (Or.inl ⟨by rfl, ?hy13⟩) hH ?rest13
      case hy13 => (intro w hSw; (try dsimp only at hSw); go_simp; with_reducible rfl)
      try simp only [Act.put, List.setIfInBounds_toArray, List.set_cons_zero, List.set_cons_succ]
      refine wpAnyK_take (i := 1) [13] (v := ?v14) rfl (by kernel_rfl) (by kernel_rfl) (by kernel_rfl) (by kernel_rfl) (fun _ _ _ h => h) (Or.inl ⟨by rfl, ?hy14⟩) hH ?rest14
      case hy14 => (intro w hSw; (try dsimp only at hSw); go_simp; with_reducible rfl)
      try simp only [Act.put, List.setIfInBounds_toArray, List.set_cons_zero, List.set_cons_succ]
      refine wpAnyK_take (i := 2) [13] (v := ?v15) rfl (by kernel_rfl) (by kernel_rfl) (by kernel_rfl) (by kernel_rfl) (fun _ _ _ h => h) (Or.inl ⟨by rfl, ?hy15⟩) hH ?rest15
      case hy15 => (intro w hSw; (try dsimp only at hSw); go_simp; with_reducible rfl)
      try simp only [Act.put, List.setIfInBounds_toArray, List.set_cons_zero, List.set_cons_succ]
      refine wpAnyK_take (i := 3) [13] (v := ?v16) rfl (by kernel_rfl) (by kernel_rfl) (by kernel_rfl) (by kernel_rfl) (fun _ _ _ h => h) (Or.inl ⟨by rfl, ?hy16⟩) hH ?rest16
      case hy16 => (intro w hSw; (try dsimp only at hSw); go_simp; with_reducible rfl)
      try simp only [Act.put, List.setIfInBounds_toArray, List.set_cons_zero, List.set_cons_succ]
      refine wpAnyK_take (i := 4) [13] (v := ?v17) rfl (by kernel_rfl) (by kernel_rfl) (by kernel_rfl) (by kernel_rfl) (fun _ _ _ h => h) (Or.inl ⟨by rfl, ?hy17⟩) hH ?rest17
      case hy17 => (intro w hSw; (try dsimp only at hSw); go_simp; with_reducible rfl)
      try simp only [Act.put, List.setIfInBounds_toArray, List.set_cons_zero, List.set_cons_succ]
      refine wpAnyK_take (i := 6) [13] (v := ?v18) rfl (by kernel_rfl) (by kernel_rfl) (by kernel_rfl) (by kernel_rfl) (fun _ _ _ h => h) (Or.inl ⟨by rfl, ?hy18⟩) hH ?rest18
      case hy18 => (intro w hSw; (try dsimp only at hSw); go_simp; with_reducible rfl)
      try simp only [Act.put, List.setIfInBounds_toArray, List.set_cons_zero, List.set_cons_succ]
      refine wpAnyK_take (i := 7) [13] (v := ?v19) rfl (by kernel_rfl) (by kernel_rfl) (by kernel_rfl) (by kernel_rfl) (fun _ _ _ h => h) (Or.inl ⟨by rfl, ?hy19⟩) hH ?rest19
      case hy19 => (intro w hSw; (try dsimp only at hSw); go_simp; with_reducible rfl)
      try simp only [Act.put, List.setIfInBounds_toArray, List.set_cons_zero, List.set_cons_succ]
      refine wpAnyK_take (i := 8) [13] (v := ?v20) rfl (by kernel_rfl) (by kernel_rfl) (by kernel_rfl) (by kernel_rfl) (fun _ _ _ h => h) (Or.inl ⟨by rfl, ?hy20⟩) hH ?rest20
      case hy20 => (intro w hSw; (try dsimp only at hSw); go_simp; with_reducible rfl)
      try simp only [Act.put, List.setIfInBounds_toArray, List.set_cons_zero, List.set_cons_succ]
      refine wpAnyK_take (i := 9) [13] (v := ?v21) rfl (by kernel_rfl) (by kernel_rfl) (by kernel_rfl) (by kernel_rfl) (fun _ _ _ h => h) (Or.inl ⟨by rfl, ?hy21⟩) hH ?rest21
      case hy21 => (intro w hSw; (try dsimp only at hSw); go_simp; with_reducible rfl)
      try simp only [Act.put, List.setIfInBounds_toArray, List.set_cons_zero, List.set_cons_succ]
      refine wpAnyK_take (i := 10) [13] (v := ?v22) rfl (by kernel_rfl) (by kernel_rfl) (by kernel_rfl) (by kernel_rfl) (fun _ _ _ h => h) (Or.inl ⟨by rfl, ?hy22⟩) hH ?rest22
      case hy22 => (intro w hSw; (try dsimp only at hSw); go_simp; with_reducible rfl)
      try simp only [Act.put, List.setIfInBounds_toArray, List.set_cons_zero, List.set_cons_succ]
      refine wpAnyK_one (i := 5) (by kernel_rfl) rfl (fun K hK => ?_) (by kernel_rfl)
      go_simp
      go_at_call 14
      refine (pst_app (HM.out.below (Below.refl _ wc).drew) hk nm dt hnm (by omega)).mono ?_
      rintro _ w6 ⟨rfl, hp6, ht6⟩
      simp only []
      rw [HPE.out.1]
      have HP6 := Lib.hid hp6
      have HT6 := Lib.hid ((Tn.ofBelow (Below.refl _ wc).drew).trans ht6)
      have e5 := ht6.cell kd5 (fun h => h HK1.out.1)
      have e6 := ht6.cell kd6 (fun h => h HK1.out.1)
      clear hp6 ht6
      refine hK.out _ _ ⟨e5, e6⟩ (fun hH => ?_)
      clear hK K
      try simp only [Act.put, List.setIfInBounds_toArray, List.set_cons_zero, List.set_cons_succ]
      refine wpAnyK_one (i := 11) (by kernel_rfl) rfl (fun K hK => ?_) (by kernel_rfl)
      go_simp
      go_at_call 23
      refine (pst_rapp HP6.out hkr nm dt hnm (by omega)).mono ?_
      rintro _ w7 ⟨rfl, hp7, ht7⟩
      simp only []
      rw [HPE.out.2]
      have HP7 := Lib.hid hp7
      have HT7 := Lib.hid (HT6.out.trans ht7)
      have g5 := ht7.cell e5 (fun h => h HK1.out.1)
      have g6 := ht7.cell e6 (fun h => h HK1.out.1)
      clear hp7 ht7
      refine hK.out _ _ ⟨g5, g6⟩ (fun hH => ?_)
      clear hK K
      try simp only [Act.put, List.setIfInBounds_toArray, List.set_cons_zero, List.set_cons_succ]
      refine wpAnyK_take (i := 12) [13] (v := ?v23) rfl (by kernel_rfl) (by kernel_rfl) (by kernel_rfl) (by kernel_rfl) (fun _ _ _ h => h) (Or.inl ⟨by rfl, ?hy23⟩) hH ?rest23
      case hy23 => (intro w hSw; (try dsimp only at hSw); go_simp; with_reducible rfl)
      try simp only [Act.put, List.setIfInBounds_toArray, List.set_cons_zero, List.set_cons_succ]
      refine wpAnyK_last (by kernel_rfl) rfl (fun K hK => ?_) (by kernel_rfl)
      go_simp
      refine hK.out _ _ (wpAnyK_done (by kernel_rfl) ?_ _)
      clear hK K hH kd5 kd6 e5 e6 g5 g6
      go_wp2
      go_ret
      exact ⟨rfl, _, _, HFIN.out _ _ HP7.out HT7.out, HSS.out, HAC.out⟩
    · obtain ⟨pe, hpe⟩ : ∃ pe, (D.sync nm).1 = pe := ⟨_, rfl⟩
      have hS := HS.out.sync nm
      have HPE := Lib.hid (And.intro hpe (hS.1.symm.trans hpe))
      have HSS := Lib.hid hS.2
      have HAC := Lib.hid (acts_sync D nm)
      have t5 : (pe == pe) = true := by simp
      clear hpe hS
      go_wp2_with fail
      have kd5 : wc.drew.cell? ⟨ob, 5, none⟩ = some (.string nm) := k5
      have kd6 : wc.drew.cell? ⟨ob, 6, none⟩ = some (.string dt) := k6
      refine wp_region_K (fun w' => w'.cell? ⟨ob, 5, none⟩ = some (.string nm)) 9 10 (by kernel_rfl) (by kernel_rfl) kd5 (fun hH => ?_)
      refine wpAnyK_take (i := 0) [9] (v := ?v24) rfl (by kernel_rfl) (by kernel_rfl) (by kernel_rfl) (by kernel_rfl) (fun _ _ _ h => h) (Or.inl ⟨by rfl, ?hy24⟩) hH ?rest24
      case hy24 => (intro w hSw; (try dsimp only at hSw); go_simp; with_reducible rfl)
      try simp only [Act.put, List.setIfInBounds_toArray, List.set_cons_zero, List.set_cons_succ]
      refine wpAnyK_take (i := 1) [9] (v := ?v25) rfl (by kernel_rfl) (by kernel_rfl) (by kernel_rfl) (by kernel_rfl) (fun _ _ _ h => h) (Or.inl ⟨by rfl, ?hy25⟩) hH ?rest25
      case hy25 => (intro w hSw; (try dsimp only at hSw); go_simp; with_reducible rfl)
      try simp only [Act.put, List.setIfInBounds_toArray, List.set_cons_zero, List.set_cons_succ]
      refine wpAnyK_take (i := 2) [9] (v := ?v26) rfl (by kernel_rfl) (by kernel_rfl) (by kernel_rfl) (by kernel_rfl) (fun _ _ _ h => h) (Or.inl ⟨by rfl, ?hy26⟩) hH ?rest26
      case hy26 => (intro w hSw; (try dsimp only at hSw); go_simp; with_reducible rfl)
      try simp only [Act.put, List.setIfInBounds_toArray, List.set_cons_zero, List.set_cons_succ]
      refine wpAnyK_take (i := 4) [9] (v := ?v27) rfl (by kernel_rfl) (by kernel_rfl) (by kernel_rfl) (by kernel_rfl) (fun _ _ _ h => h) (Or.inl ⟨by rfl, ?hy27⟩) hH ?rest27
      case hy27 => (intro w hSw; (try dsimp only at hSw); go_simp; with_reducible rfl)
      try simp only [Act.put, List.setIfInBounds_toArray, List.set_cons_zero, List.set_cons_succ]
      refine wpAnyK_take (i := 5) [9] (v := ?v28) rfl (by kernel_rfl) (by kernel_rfl) (by kernel_rfl) (by kernel_rfl) (fun _ _ _ h => h) (Or.inl ⟨by rfl, ?hy28⟩) hH ?rest28
      case hy28 => (intro w hSw; (try dsimp only at hSw); go_simp; with_reducible rfl)
      try simp only [Act.put, List.setIfInBounds_toArray, List.set_cons_zero, List.set_cons_succ]
      refine wpAnyK_take (i := 6) [9] (v := ?v29) rfl (by kernel_rfl) (by kernel_rfl) (by kernel_rfl) (by kernel_rfl) (fun _ _ _ h => h) (Or.inl ⟨by rfl, ?hy29⟩) hH ?rest29
      case hy29 => (intro w hSw; (try dsimp only at hSw); go_simp; with_reducible rfl)
      try simp only [Act.put, List.setIfInBounds_toArray, List.set_cons_zero, List.set_cons_succ]
      refine wpAnyK_one (i := 3) (by kernel_rfl) rfl (fun K hK => ?_) (by kernel_rfl)
      go_simp
      go_at_call 24
      refine (pst_sync (HM.out.below (Below.refl _ wc).drew) hk nm hnm).mono ?_
      rintro _ w6 ⟨rfl, hp6, ht6⟩
      simp only []
      rw [HPE.out.1]
      have HP6 := Lib.hid hp6
      have HT6 := Lib.hid ((Tn.ofBelow (Below.refl _ wc).drew).trans ht6)
      have e5 := ht6.cell kd5 (fun h => h HK1.out.1)
      have e6 := ht6.cell kd6 (fun h => h HK1.out.1)
      clear hp6 ht6
      refine hK.out _ _ e5 (fun hH => ?_)
      clear hK K
      try simp only [Act.put, List.setIfInBounds_toArray, List.set_cons_zero, List.set_cons_succ]
      refine wpAnyK_one (i := 7) (by kernel_rfl) rfl (fun K hK => ?_) (by kernel_rfl)
      go_simp
      go_at_call 25
      refine (pst_rsync HP6.out hkr nm hnm).mono ?_
      rintro _ w7 ⟨rfl, hp7, ht7⟩
      simp only []
      rw [HPE.out.2]
      have HP7 := Lib.hid hp7
      have HT7 := Lib.hid (HT6.out.trans ht7)
      have g5 := ht7.cell e5 (fun h => h HK1.out.1)
      have g6 := ht7.cell e6 (fun h => h HK1.out.1)
      clear hp7 ht7
      refine hK.out _ _ g5 (fun hH => ?_)
      clear hK K
      try simp only [Act.put, List.setIfInBounds_toArray, List.set_cons_zero, List.set_cons_succ]
      refine wpAnyK_take (i := 8) [9] (v := ?v30) rfl (by kernel_rfl) (by kernel_rfl) (by kernel_rfl) (by kernel_rfl) (fun _ _ _ h => h) (Or.inl ⟨by rfl, ?hy30⟩) hH ?rest30
      case hy30 => (intro w hSw; (try dsimp only at hSw); go_simp; with_reducible rfl)
      try simp only [Act.put, List.setIfInBounds_toArray, List.set_cons_zero, List.set_cons_succ]
      refine wpAnyK_last (by kernel_rfl) rfl (fun K hK => ?_) (by kernel_rfl)
      go_simp
      refine hK.out _ _ (wpAnyK_done (by kernel_rfl) ?_ _)
      clear hK K hH kd5 kd6 e5 e6 g5 g6
      go_wp2
      go_ret
      exact ⟨rfl, _, _, HFIN.out _ _ HP7.out HT7.out, HSS.out, HAC.out⟩
    · obtain ⟨pe, hpe⟩ : ∃ pe, (D.rename nm dt).1 = pe := ⟨_, rfl⟩
      have hS := HS.out.rename nm dt
      have HPE := Lib.hid (And.intro hpe (hS.1.symm.trans hpe))
      have HSS := Lib.hid hS.2
      have HAC := Lib.hid (acts_rename D nm dt)
      have t5 : (pe == pe) = true := by simp
      clear hpe hS
      go_wp2_with fail
      have kd5 : wc.drew.cell? ⟨ob, 5, none⟩ = some (.string nm) := k5
      have kd6 : wc.drew.cell? ⟨ob, 6, none⟩ = some (.string dt) := k6
      refine wp_region_K (fun w' => w'.cell? ⟨ob, 5, none⟩ = some (.string nm) ∧ w'.cell? ⟨ob, 6, none⟩ = some (.string dt)) 13 14 (by kernel_rfl) (by kernel_rfl) ⟨kd5, kd6⟩ (fun hH => ?_)
      refine wpAnyK_take (i := 0) [13] (v := ?v31) rfl (by kernel_rfl) (by kernel_rfl) (by kernel_rfl) (by kernel_rfl) (fun _ _ _ h => h) (Or.inl ⟨by rfl, ?hy31⟩) hH ?rest31
      case hy31 => (intro w hSw; (try dsimp only at hSw); go_simp; with_reducible rfl)
      try simp only [Act.put, List.setIfInBounds_toArray, List.set_cons_zero, List.set_cons_succ]
      refine wpAnyK_take (i := 1) [13] (v := ?v32) rfl (by kernel_rfl) (by kernel_rfl) (by kernel_rfl) (by kernel_rfl) (fun _ _ _ h => h) (Or.inl ⟨by rfl, ?hy32⟩) hH ?rest32
      case hy32 => (intro w hSw; (try dsimp only at hSw); go_simp; with_reducible rfl)
      try simp only [Act.put, List.setIfInBounds_toArray, List.set_cons_zero, List.set_cons_succ]
      refine wpAnyK_take (i := 2) [13] (v := ?v33) rfl (by kernel_rfl) (by kernel_rfl) (by kernel_rfl) (by kernel_rfl) (fun _ _ _ h => h) (Or.inl ⟨by rfl, ?hy33⟩) hH ?rest33
      case hy33 => (intro w hSw; (try dsimp only at hSw); go_simp; with_reducible rfl)
      try simp only [Act.put, List.setIfInBounds_toArray, List.set_cons_zero, List.set_cons_succ]
      refine wpAnyK_take (i := 3) [13] (v := ?v34) rfl (by kernel_rfl) (by kernel_rfl) (by kernel_rfl) (by kernel_rfl) (fun _ _ _ h => h) (Or.inl ⟨by rfl, ?hy34⟩) hH ?rest34
      case hy34 => (intro w hSw; (try dsimp only at hSw); go_simp; with_reducible rfl)
      try simp only [Act.put, List.setIfInBounds_toArray, List.set_cons_zero, List.set_cons_succ]
      refine wpAnyK_take (i := 4) [13] (v := ?v35) rfl (by kernel_rfl) (by kernel_rfl) (by kernel_rfl) (by kernel_rfl) (fun _ _ _ h => h) (Or.inl ⟨by rfl, ?hy35⟩) hH ?rest35
      case hy35 => (intro w hSw; (try dsimp only at hSw); go_simp; with_reducible rfl)
      try simp only [Act.put, List.setIfInBounds_toArray, List.set_cons_zero, List.set_cons_succ]
      refine wpAnyK_take (i := 6) [13] (v := ?v36) rfl (by kernel_rfl) (by kernel_rfl) (by kernel_rfl) (by kernel_rfl) (fun _ _ _ h => h) (Or.inl ⟨by rfl, ?hy36⟩) hH ?rest36
      case hy36 => (intro w hSw; (try dsimp only at hSw); go_simp; with_reducible rfl)
      try simp only [Act.put, List.setIfInBounds_toArray, List.set_cons_zero, List.set_cons_succ]
      refine wpAnyK_take (i := 7) [13] (v := ?v37) rfl (by kernel_rfl) (by kernel_rfl) (by kernel_rfl) (by kernel_rfl) (fun _ _ _ h => h) (Or.inl ⟨by rfl, ?hy37⟩) hH ?rest37
      case hy37 => (intro w hSw; (try dsimp only at hSw); go_simp; with_reducible rfl)
      try simp only [Act.put, List.setIfInBounds_toArray, List.set_cons_zero, List.set_cons_succ]
      refine wpAnyK_take (i := 8) [13] (v := ?v38) rfl (by kernel_rfl) (by kernel_rfl) (by kernel_rfl) (by kernel_rfl) (fun _ _ _ h => h) (Or.inl ⟨by rfl, ?hy38⟩) hH ?rest38
      case hy38 => (intro w hSw; (try dsimp only at hSw); go_simp; with_reducible rfl)
      try simp only [Act.put, List.setIfInBounds_toArray, List.set_cons_zero, List.set_cons_succ]
      refine wpAnyK_take (i := 9) [13] (v := ?v39) rfl (by kernel_rfl) (by kernel_rfl) (by kernel_rfl) (by kernel_rfl) (fun _ _ _ h => h) (Or.inl ⟨by rfl, ?hy39⟩) hH ?rest39
      case hy39 => (intro w hSw; (try dsimp only at hSw); go_simp; with_reducible rfl)
      try simp only [Act.put, List.setIfInBounds_toArray, List.set_cons_zero, List.set_cons_succ]
      refine wpAnyK_take (i := 10) [13] (v := ?v40) rfl (by kernel_rfl) (by kernel_rfl) (by kernel_rfl) (by kernel_rfl) (fun _ _ _ h => h) (Or.inl ⟨by rfl, ?hy40⟩) hH ?rest40
      case hy40 => (intro w hSw; (try dsimp only at hSw); go_simp; with_reducible rfl)
      try simp only [Act.put, List.setIfInBounds_toArray, List.set_cons_zero, List.set_cons_succ]
      refine wpAnyK_one (i := 5) (by kernel_rfl) rfl (fun K hK => ?_) (by kernel_rfl)
      go_simp
      go_at_call 26
      refine (pst_rename (HM.out.below (Below.refl _ wc).drew) hk nm dt hnm (by omega)).mono ?_
      rintro _ w6 ⟨rfl, hp6, ht6⟩
      simp only []
      rw [HPE.out.1]
      have HP6 := Lib.hid hp6
      have HT6 := Lib.hid ((Tn.ofBelow (Below.refl _ wc).drew).trans ht6)
      have e5 := ht6.cell kd5 (fun h => h HK1.out.1)
      have e6 := ht6.cell kd6 (fun h => h HK1.out.1)
      clear hp6 ht6
      refine hK.out _ _ ⟨e5, e6⟩ (fun hH => ?_)
      clear hK K
      try simp only [Act.put, List.setIfInBounds_toArray, List.set_cons_zero, List.set_cons_succ]
      refine wpAnyK_one (i := 11) (by kernel_rfl) rfl (fun K hK => ?_) (by kernel_rfl)
      go_simp
      go_at_call 27
      refine (pst_rrename HP6.out hkr nm dt hnm (by omega)).mono ?_
      rintro _ w7 ⟨rfl, hp7, ht7⟩
      simp only []
      rw [HPE.out.2]
      have HP7 := Lib.hid hp7
      have HT7 := Lib.hid (HT6.out.trans ht7)
      have g5 := ht7.cell e5 (fun h => h HK1.out.1)
      have g6 := ht7.cell e6 (fun h => h HK1.out.1)
      clear hp7 ht7
      refine hK.out _ _ ⟨g5, g6⟩ (fun hH => ?_)
      clear hK K
      try simp only [Act.put, List.setIfInBounds_toArray, List.set_cons_zero, List.set_cons_succ]
      refine wpAnyK_take (i := 12) [13] (v := ?v41) rfl (by kernel_rfl) (by kernel_rfl) (by kernel_rfl) (by kernel_rfl) (fun _ _ _ h => h) (Or.inl ⟨by rfl, ?hy41⟩) hH ?rest41
      case hy41 => (intro w hSw; (try dsimp only at hSw); go_simp; with_reducible rfl)
      try simp only [Act.put, List.setIfInBounds_toArray, List.set_cons_zero, List.set_cons_succ]
      refine wpAnyK_last (by kernel_rfl) rfl (fun K hK => ?_) (by kernel_rfl)
      go_simp
      refine hK.out _ _ (wpAnyK_done (by kernel_rfl) ?_ _)
      clear hK K hH kd5 kd6 e5 e6 g5 g6
      go_wp2
      go_ret
      exact ⟨rfl, _, _, HFIN.out _ _ HP7.out HT7.out, HSS.out, HAC.out⟩
    · obtain ⟨pe, hpe⟩ : ∃ pe, (D.remove nm).1 = pe := ⟨_, rfl⟩
      have hS := HS.out.remove nm
      have HPE := Lib.hid (And.intro hpe (hS.1.symm.trans hpe))
      have HSS := Lib.hid hS.2
      have HAC := Lib.hid (acts_remove D nm)
      have t5 : (pe == pe) = true := by simp
      clear hpe hS
      go_wp2_with fail
      have kd5 : wc.drew.cell? ⟨ob, 5, none⟩ = some (.string nm) := k5
      have kd6 : wc.drew.cell? ⟨ob, 6, none⟩ = some (.string dt) := k6
      refine wp_region_K (fun w' => w'.cell? ⟨ob, 5, none⟩ = some (.string nm)) 9 10 (by kernel_rfl) (by kernel_rfl) kd5 (fun hH => ?_)
      refine wpAnyK_take (i := 0) [9] (v := ?v42) rfl (by kernel_rfl) (by kernel_rfl) (by kernel_rfl) (by kernel_rfl) (fun _ _ _ h => h) (Or.inl ⟨by rfl, ?hy42⟩) hH ?rest42
      case hy42 => (intro w hSw; (try dsimp only at hSw); go_simp; with_reducible rfl)
      try simp only [Act.put, List.setIfInBounds_toArray, List.set_cons_zero, List.set_cons_succ]
      refine wpAnyK_take (i := 1) [9] (v := ?v43) rfl (by kernel_rfl) (by kernel_rfl) (by kernel_rfl) (by kernel_rfl) (fun _ _ _ h => h) (Or.inl ⟨by rfl, ?hy43⟩) hH ?rest43
      case hy43 => (intro w hSw; (try dsimp only at hSw); go_simp; with_reducible rfl)
      try simp only [Act.put, List.setIfInBounds_toArray, List.set_cons_zero, List.set_cons_succ]
      refine wpAnyK_take (i := 2) [9] (v := ?v44) rfl (by kernel_rfl) (by kernel_rfl) (by kernel_rfl) (by kernel_rfl) (fun _ _ _ h => h) (Or.inl ⟨by rfl, ?hy44⟩) hH ?rest44
      case hy44 => (intro w hSw; (try dsimp only at hSw); go_simp; with_reducible rfl)
      try simp only [Act.put, List.setIfInBounds_toArray, List.set_cons_zero, List.set_cons_succ]
      refine wpAnyK_take (i := 4) [9] (v := ?v45) rfl (by kernel_rfl) (by kernel_rfl) (by kernel_rfl) (by kernel_rfl) (fun _ _ _ h => h) (Or.inl ⟨by rfl, ?hy45⟩) hH ?rest45
      case hy45 => (intro w hSw; (try dsimp only at hSw); go_simp; with_reducible rfl)
      try simp only [Act.put, List.setIfInBounds_toArray, List.set_cons_zero, List.set_cons_succ]
      refine wpAnyK_take (i := 5) [9] (v := ?v46) rfl (by kernel_rfl) (by kernel_rfl) (by kernel_rfl) (by kernel_rfl) (fun _ _ _ h => h) (Or.inl ⟨by rfl, ?hy46⟩) hH ?rest46
      case hy46 => (intro w hSw; (try dsimp only at hSw); go_simp; with_reducible rfl)
      try simp only [Act.put, List.setIfInBounds_toArray, List.set_cons_zero, List.set_cons_succ]
      refine wpAnyK_take (i := 6) [9] (v := ?v47) rfl (by kernel_rfl) (by kernel_rfl) (by kernel_rfl) (by kernel_rfl) (fun _ _ _ h => h) (Or.inl ⟨by rfl, ?hy47⟩) hH ?rest47
      case hy47 => (intro w hSw; (try dsimp only at hSw); go_simp; with_reducible rfl)
      try simp only [Act.put, List.setIfInBounds_toArray, List.set_cons_zero, List.set_cons_succ]
      refine wpAnyK_one (i := 3) (by kernel_rfl) rfl (fun K hK => ?_) (by kernel_rfl)
      go_simp
      go_at_call 28
      refine (pst_remove (HM.out.below (Below.refl _ wc).drew) hk nm hnm).mono ?_
      rintro _ w6 ⟨rfl, hp6, ht6⟩
      simp only []
      rw [HPE.out.1]
      have HP6 := Lib.hid hp6
      have HT6 := Lib.hid ((Tn.ofBelow (Below.refl _ wc).drew).trans ht6)
      have e5 := ht6.cell kd5 (fun h => h HK1.out.1)
      have e6 := ht6.cell kd6 (fun h => h HK1.out.1)
      clear hp6 ht6
      refine hK.out _ _ e5 (fun hH => ?_)
      clear hK K
      try simp only [Act.put, List.setIfInBounds_toArray, List.set_cons_zero, List.set_cons_succ]
      refine wpAnyK_one (i := 7) (by kernel_rfl) rfl (fun K hK => ?_) (by kernel_rfl)
      go_simp
      go_at_call 29
      refine (pst_rremove HP6.out hkr nm hnm).mono ?_
      rintro _ w7 ⟨rfl, hp7, ht7⟩
      simp only []
      rw [HPE.out.2]
      have HP7 := Lib.hid hp7
      have HT7 := Lib.hid (HT6.out.trans ht7)
      have g5 := ht7.cell e5 (fun h => h HK1.out.1)
      have g6 := ht7.cell e6 (fun h => h HK1.out.1)
      clear hp7 ht7
      refine hK.out _ _ g5 (fun hH => ?_)
      clear hK K
      try simp only [Act.put, List.setIfInBounds_toArray, List.set_cons_zero, List.set_cons_succ]
      refine wpAnyK_take (i := 8) [9] (v := ?v48) rfl (by kernel_rfl) (by kernel_rfl) (by kernel_rfl) (by kernel_rfl) (fun _ _ _ h => h) (Or.inl ⟨by rfl, ?hy48⟩) hH ?rest48
      case hy48 => (intro w hSw; (try dsimp only at hSw); go_simp; with_reducible rfl)
      try simp only [Act.put, List.setIfInBounds_toArray, List.set_cons_zero, List.set_cons_succ]
      refine wpAnyK_last (by kernel_rfl) rfl (fun K hK => ?_) (by kernel_rfl)
      go_simp
      refine hK.out _ _ (wpAnyK_done (by kernel_rfl) ?_ _)
      clear hK K hH kd5 kd6 e5 e6 g5 g6
      go_wp2
      go_ret
      exact ⟨rfl, _, _, HFIN.out _ _ HP7.out HT7.out, HSS.out, HAC.out⟩
    · obtain ⟨gv, hgv⟩ : ∃ gv, (D.read nm).1 = gv := ⟨_, rfl⟩
      obtain ⟨ge, hge⟩ : ∃ ge, (D.read nm).2 = ge := ⟨_, rfl⟩
      have HG := Lib.hid (And.intro hgv (And.intro hge (HS.out.read nm)))
      have t5 := strEq gv
      have t6 : (ge == ge) = true := by simp
      clear hgv hge
      go_wp2_with (first
        | (go_at_call 30; refine (pst_rread (HM.out.below HB6.out) nm hnm).mono ?_; rintro _ w7 ⟨rfl, rfl⟩; simp only []; rw [← HG.out.2.2, HG.out.1, HG.out.2.1])
        | (go_at_call 16; refine (pst_read HM.out nm hnm).mono ?_; rintro _ w6 ⟨rfl, hb6⟩; simp only []; rw [HG.out.1, HG.out.2.1]; have HB6 := Lib.hid hb6; have e5 := (hb6.cell (p := ⟨ob, 5, none⟩) holt).trans k5; clear hb6))
      go_ret
      exact ⟨rfl, _, _, HFIN.out _ _ (HM.out.below HB6.out) (Tn.ofBelow HB6.out), HS.out, Nat.le_succ _⟩
    · obtain ⟨l, hl⟩ : ∃ l, D.list nm = l := ⟨_, rfl⟩
      have hlr : R.list nm = l := by rw [← HS.out.list]; exact hl
      have hl1 : l.length ≤ 20000 := by rw [← hl]; exact Nat.le_trans (list_le _ _) (pst_files HM.out)
      obtain ⟨m, hmm⟩ : ∃ m, l.length = m := ⟨_, rfl⟩
      rw [hmm] at hl1
      have HL := Lib.hid (And.intro hl (And.intro hlr hmm))
      clear hl hlr hmm
      go_wp2_with fail
      refine (pst_list HM.out nm).mono ?_
      rw [HL.out.1]
      rintro _ w6 ⟨⟨sa, sn, sc⟩, rfl, ho6, hb6⟩
      obtain ⟨a6, c6, e1, hle1, hle2⟩ := row_form ho6
      rw [HL.out.2.2] at e1 hle1
      injection e1 with e1 e2 e3
      subst e1 e2 e3
      have HO6 := Lib.hid ho6
      have HLT := Lib.hid (fun q hq => ho6.lt q hq)
      have HM6 := Lib.hid (PSt.more HM.out hb6)
      have HB6 := Lib.hid hb6
      have e5 := (hb6.cell (p := ⟨ob, 5, none⟩) holt).trans k5
      clear ho6 hb6
      simp only [Sl.val]
      go_wp2_with fail
      refine (pst_texts (s := ⟨sa, sn, sc⟩) HM6.out HO6.out (fun q hq => ⟨.inr (HLT.out q hq), Nat.lt_of_lt_of_le HM.out.bklt (HLT.out q hq).1⟩) (by rw [HL.out.2.2]; exact hl1)).mono ?_
      rintro _ w7 ⟨rfl, hp7, ho7, ht7⟩
      have hp7' : PSt K1 w0 w7 ⟨db, rb, D, R⟩ y bk := hp7.weak (fun q hq => ⟨.inl hq, fun e => by have := (HLT.out q e).1; have := HM.out.klt q hq; omega⟩)
      have HP7 := Lib.hid hp7'
      have HO7 := Lib.hid ho7
      have HT7 := Lib.hid (Tn.gone HB6.out ht7 (fun q hq => .inl hq))
      have g5 := ht7.cell e5 (fun h => h (.inl HK1.out.1))
      clear hp7 hp7' ho7 ht7
      go_wp2_with fail
      refine (pst_rlist HP7.out nm).mono ?_
      rw [HL.out.2.1, HL.out.2.2]
      rintro _ w8 ⟨a8, c8, rfl, ho8, hb8⟩
      have HO8 := Lib.hid (And.intro ho8 hb8)
      clear ho8 hb8
      go_wp2_with fail
      refine (same_Texts (rdTx_own (row_below HO7.out HO8.out.2)) (rdTx_own HO8.out.1) (by rw [HL.out.2.2]; omega)).mono ?_
      rintro _ w9 ⟨rfl, a9, hw9⟩
      have hb9 : Below w7.heap.size w7 w9 := by rw [hw9]; exact below_drewN HO8.out.2 _
      have HB9 := Lib.hid hb9
      clear hb9 hw9
      go_wp2
      go_ret
      exact ⟨rfl, _, _, HFIN.out _ _ (HP7.out.below HB9.out) (HT7.out.trans (Tn.ofBelow HB9.out)), HS.out, Nat.le_succ _⟩
    · have HSS := Lib.hid (HS.out.crash cuts B)
      have HAC := Lib.hid (show (D.crash cuts B).acts ≤ D.acts + 1 from by rw [acts_crash]; omega)
      go_wp2_with (first
        | (go_at_call 41; refine (same_Ints HCX.out.rdI (HC.out.rdI HP.out.bel) HLC.out).mono ?_; rintro _ w9 ⟨rfl, a9, hw9⟩; have hb9 := below_of_drewN hw9; have HB9 := Lib.hid hb9; have kl := (hb9.cell (p := ⟨cb, n, none⟩) HCX.out.lt).trans HCX.out.last; clear hb9 hw9; simp only [])
        | (go_at_call 35; refine (pst_rcrash HP6.out (HC.out.rdC HP6.out.bel) HLC.out B).mono ?_; rintro _ w7 ⟨rfl, hp7, ht7⟩; have HP := Lib.hid hp7; have HT := Lib.hid (HT6.out.trans ht7); have HCX := Lib.hid (HC6.out.tn ht7 (fun h => h HK1.out.2)); have g4 := ht7.cell e4 (fun h => h HK1.out.1); clear hp7 ht7; simp only [])
        | (go_at_call 34; refine (pst_crash HM.out (HCM.out.rdC (fun h => h (.inl HK1.out.2))) HLC.out B).mono ?_; rintro _ w6 ⟨rfl, hp6, ht6⟩; have HP6 := Lib.hid hp6; have HT6 := Lib.hid ht6; have HC6 := Lib.hid (HCM.out.tn ht6 (fun h => h HK1.out.2)); have e3 := ht6.cell k3 (fun h => h HK1.out.1); have e4 := ht6.cell k4 (fun h => h HK1.out.1); clear hp6 ht6; simp only []))
      go_ret
      exact ⟨rfl, _, _, HFIN.out _ _ (HP.out.below HB9.out) (HT.out.trans (Tn.ofBelow HB9.out)), HSS.out, HAC.out⟩
    · have HSS := Lib.hid HS.out.restore
      have HAC := Lib.hid (show D.restore.acts ≤ D.acts + 1 from Nat.le_succ _)
      go_wp2_with fail
      refine (pst_restore HM.out).mono ?_
      rintro _ w6 ⟨rfl, hp6, ht6⟩
      have HC6 := Lib.hid (HCM.out.tn ht6 (fun h => h HK1.out.2))
      obtain ⟨q1, _, q3, _⟩ := pst_rcells hp6
      simp only at q1 q3
      obtain ⟨hp7, ht7⟩ := pst_rrestore hp6
      simp only at hp7 ht7
      obtain ⟨w7, hw7⟩ : ∃ w7, w6.setCell ⟨rb, 1, none⟩ (.bool false) = w7 := ⟨_, rfl⟩
      rw [hw7] at hp7 ht7
      have HP := Lib.hid hp7
      have HT := Lib.hid (ht6.trans ht7)
      have HCX := Lib.hid (HC6.out.tn ht7 (fun h => h HK1.out.2))
      have e4 := ht6.cell k4 (fun h => h HK1.out.1)
      have g4 := ht7.cell e4 (fun h => h HK1.out.1)
      clear hp6 ht6 hp7 ht7
      go_wp2_with (first | (go_at_call 41; refine (same_Ints HCX.out.rdI (HC.out.rdI HP.out.bel) HLC.out).mono ?_; rintro _ w9 ⟨rfl, a9, hw9⟩; have hb9 := below_of_drewN hw9; have HB9 := Lib.hid hb9; have kl := (hb9.cell (p := ⟨cb, n, none⟩) HCX.out.lt).trans HCX.out.last; clear hb9 hw9; simp only []))
      go_ret
      exact ⟨rfl, _, _, HFIN.out _ _ (HP.out.below HB9.out) (HT.out.trans (Tn.ofBelow HB9.out)), HSS.out, HAC.out⟩
    · have HSS := Lib.hid (HS.out.setQuota A)
      have HAC := Lib.hid (show (D.setQuota A).acts ≤ D.acts + 1 from Nat.le_succ _)
      go_wp2_with (first
        | (go_at_call 41; refine (same_Ints HCX.out.rdI (HC.out.rdI HP.out.bel) HLC.out).mono ?_; rintro _ w9 ⟨rfl, a9, hw9⟩; have hb9 := below_of_drewN hw9; have HB9 := Lib.hid hb9; have kl := (hb9.cell (p := ⟨cb, n, none⟩) HCX.out.lt).trans HCX.out.last; clear hb9 hw9; simp only [])
        | (go_at_call 38; refine (pst_rquota HP6.out A hA).mono ?_; rintro _ w7 ⟨rfl, hp7, ht7⟩; have HP := Lib.hid hp7; have HT := Lib.hid (HT6.out.trans ht7); have HCX := Lib.hid (HC6.out.tn ht7 (fun h => h HK1.out.2)); have g4 := ht7.cell e4 (fun h => h HK1.out.1); clear hp7 ht7; simp only [])
        | (go_at_call 37; refine (pst_quota HM.out A hA).mono ?_; rintro _ w6 ⟨rfl, hp6, ht6⟩; have HP6 := Lib.hid hp6; have HT6 := Lib.hid ht6; have HC6 := Lib.hid (HCM.out.tn ht6 (fun h => h HK1.out.2)); have e2 := ht6.cell k2 (fun h => h HK1.out.1); have e4 := ht6.cell k4 (fun h => h HK1.out.1); clear hp6 ht6; simp only []))
      go_ret
      exact ⟨rfl, _, _, HFIN.out _ _ (HP.out.below HB9.out) (HT.out.trans (Tn.ofBelow HB9.out)), HSS.out, HAC.out⟩
    · have HSS := Lib.hid (HS.out.setFuse A cuts B)
      have HAC := Lib.hid (show (D.setFuse A cuts B).acts ≤ D.acts + 1 from Nat.le_succ _)
      rcases Nat.eq_zero_or_pos n with h0 | h0
      · subst h0
        have hcc1 : 1 ≤ ccap := by omega
        have hcci : (1 : Int) ≤ (ccap : Int) := by omega
        go_wp2_with (first
          | (go_at_call 41; refine (same_Ints HCX.out.rdI (HC.out.rdI HP.out.bel) HLC.out).mono ?_; rintro _ w9 ⟨rfl, a9, hw9⟩; have hb9 := below_of_drewN hw9; have HB9 := Lib.hid hb9; have kl := (hb9.cell (p := ⟨cb, 0, none⟩) HCX.out.lt).trans HCX.out.last; clear hb9 hw9; simp only [])
          | (go_at_call 40; refine (pst_rfuse2 HP6.out HC.out A hA HLC.out B).mono ?_; rintro _ w7 ⟨rfl, hp7, ht7⟩; have HP := Lib.hid hp7; have HT := Lib.hid (HT6.out.trans ht7); have HCX := Lib.hid (HC6.out.tn ht7 (fun h => h HK1.out.2)); have g4 := ht7.cell e4 (fun h => h HK1.out.1); clear hp7 ht7; simp only [])
          | (go_at_call 39; refine (pst_fuse HM.out A hA (HCM.out.rdC (fun h => h (.inl HK1.out.2))) HLC.out B).mono ?_; rintro _ w6 ⟨rfl, hp6, ht6⟩; have HP6 := Lib.hid hp6; have HT6 := Lib.hid ht6; have HC6 := Lib.hid (HCM.out.tn ht6 (fun h => h HK1.out.2)); have e2 := ht6.cell k2 (fun h => h HK1.out.1); have e3 := ht6.cell k3 (fun h => h HK1.out.1); have e4 := ht6.cell k4 (fun h => h HK1.out.1); clear hp6 ht6; simp only []))
        go_ret
        exact ⟨rfl, _, _, HFIN.out _ _ (HP.out.below HB9.out) (HT.out.trans (Tn.ofBelow HB9.out)), HSS.out, HAC.out⟩
      · have t7 : (0 : Int) < (n : Int) := by omega
        go_wp2_with (first
          | (go_at_call 40; refine (pst_rfuse2 HP6.out HC.out A hA HLC.out B).mono ?_; rintro _ w7 ⟨rfl, hp7, ht7⟩; have HP := Lib.hid hp7; have HT := Lib.hid (HT6.out.trans ht7); have HCX := Lib.hid (HC6.out.tn ht7 (fun h => h HK1.out.2)); have z7 := HCX.out.fz; have y7 := HCX.out.at_ 0 (by rw [HC.out.len]; exact h0); clear hp7 ht7; simp only [])
          | (go_at_call 39; refine (pst_fuse HM.out A hA (HCM.out.rdC (fun h => h (.inl HK1.out.2))) HLC.out B).mono ?_; rintro _ w6 ⟨rfl, hp6, ht6⟩; have HP6 := Lib.hid hp6; have HT6 := Lib.hid ht6; have HC6 := Lib.hid (HCM.out.tn ht6 (fun h => h HK1.out.2)); have e2 := ht6.cell k2 (fun h => h HK1.out.1); have e3 := ht6.cell k3 (fun h => h HK1.out.1); have e4 := ht6.cell k4 (fun h => h HK1.out.1); clear hp6 ht6; simp only []))
        go_ret
        have hst : Tn K1 w7 (w7.setCell ⟨cb, 0, none⟩ (.int .i64 0)) := Tn.setCell _ _ _ HK1.out.2
        have hst2 : Tn (fun q => ¬ Kp q) w7 (w7.setCell ⟨cb, 0, none⟩ (.int .i64 0)) := Tn.setCell _ _ _ (fun h => HNEW.out h)
        exact ⟨rfl, _, _, ⟨(HP.out.kept hst).weak HKK.out, (Tn.gone HBW.out HT.out HKK.out).trans hst2⟩, HSS.out, HAC.out⟩
    · obtain ⟨n1, n2, n3, n4, n5, n6, n7, n8, n9, n10, n11⟩ := hkd
      have f1 : (kd == 1) = false := by simpa using n1
      have f2 : (kd == 2) = false := by simpa using n2
      have f3 : (kd == 3) = false := by simpa using n3
      have f4 : (kd == 4) = false := by simpa using n4
      have f5 : (kd == 5) = false := by simpa using n5
      have f6 : (kd == 6) = false := by simpa using n6
      have f7 : (kd == 7) = false := by simpa using n7
      have f8 : (kd == 8) = false := by simpa using n8
      have f9 : (kd == 9) = false := by simpa using n9
      have f10 : (kd == 10) = false := by simpa using n10
      have f11 : (kd == 11) = false := by simpa using n11
      clear n1 n2 n3 n4 n5 n6 n7 n8 n9 n10 n11
      go_wp2_with (go_at_call 12; refine (looks_any HM.out HS.out).mono ?_; rintro _ w6 ⟨rfl, hp6, ht6⟩; have HP := Lib.hid hp6; have HT := Lib.hid ht6; clear hp6 ht6; simp only [])
      go_ret
      exact ⟨rfl, _, _, HFIN.out _ _ HP.out HT.out, HS.out, Nat.le_succ _⟩
end Go.Proofs.YtceamkcaokdgaaaGreatDoor
