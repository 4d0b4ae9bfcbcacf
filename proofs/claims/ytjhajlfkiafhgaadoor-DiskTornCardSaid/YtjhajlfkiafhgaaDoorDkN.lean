/-
  Disk: Append.
-/
import Derived.Test.YtjhajlfkiafhgaaDoorDkM
namespace Go.Proofs.YtjhajlfkiafhgaaDoor
open Go.RowKit
variable {F G : Nat → Prop} {w w' : World} {db mb : Nat} {D D' : Dk}

set_option maxRecDepth 100000 in
set_option maxHeartbeats 4000000 in
theorem append_any (h : DkAt F w db mb D) (hon : D.on = true) (ha : D.acts < 1000000) (s : ByteArray) (data : ByteArray) (hs : s.size ≤ 140737488351232) (hdata : data.size ≤ 140737488351232) :
    Calls Tryd.prog 14 #[.pointer (some ⟨db, 0, none⟩), .string s, .string data] w fun e w' => e = .returned (.int .i64 (D.app s data).1) ∧ DkAt F w' db mb (D.app s data).2 ∧ Tn (two db mb) w w' := by
  have hask : D.asked [s] = askE true [s] := by unfold Dk.asked askE; rw [hon]
  have c1 := h.c1
  rw [hon] at c1
  have hlt := h.ltd
  have hmf : ∀ (fn : Fn) (first cap : Array Value) (w : World), (Instr.makeFunc fn first cap).run Tryd.prog w = .ok (.func fn first cap) w := fun _ _ _ _ => rfl
  have H := Lib.hid (And.intro h (And.intro hon hask))
  clear h hon hask
  obtain ⟨W1, hW1⟩ : ∃ W1, ((w.alloc (.cells #[.pointer (some ⟨db, 0, none⟩)] 23)).alloc (.cells #[.string s] 9)).alloc (.cells #[.string data] 9) = W1 := ⟨_, rfl⟩
  have b1 : Below w.heap.size w W1 := by rw [← hW1]; exact (((Below.refl _ _).alloc (Nat.le_refl _) _).alloc (by simp) _).alloc (by simp; omega) _
  have z1 : W1.heap.size = w.heap.size + 3 := by rw [← hW1]; simp
  have dD : W1.cell? ⟨w.heap.size, 0, none⟩ = some (.pointer (some ⟨db, 0, none⟩)) := by rw [← hW1]; simp [go_sem]
  have dN : W1.cell? ⟨w.heap.size + 1, 0, none⟩ = some (.string s) := by rw [← hW1]; simp [go_sem]
  have dA : W1.cell? ⟨w.heap.size + 2, 0, none⟩ = some (.string data) := by rw [← hW1]; simp [go_sem]
  have on1 : OnAt W1 (some ⟨db, 0, none⟩) true := .inr ⟨db, rfl, (b1.cell (p := ⟨db, 1, none⟩) hlt).trans c1⟩
  have hr1 : RdT (W1.alloc (.cells #[.string s] 9)) (.slice (some ⟨W1.heap.size, 0, none⟩) 1 1) [s] := rdT_one (by simp [go_sem]) 1
  have hA := asked_any (on1.below ((Below.refl _ _).alloc (Nat.le_refl _) _)) hr1 (by simp) (fun x hx => by rw [List.mem_singleton] at hx; subst hx; omega)
  have H1 := Lib.hid (And.intro b1 z1)
  clear on1 hr1 b1 z1
  cases hnm : [s].all nmB
  · have he : askE true [s] = 21 := by simp only [askE, hnm]; rfl
    rw [he] at hA
    have hres : D.app s data = (21, D) := by
      unfold Dk.app
      rw [H.out.2.2, he, if_pos (by decide)]
    rw [hres]
    clear he hres hnm
    go_enter Tryd.func14, Tryd.ntmps14
    go_wp2_with (go_at_call 28; refine hA.mono ?_; rintro e w2 ⟨rfl, hb2⟩; have H2 := Lib.hid hb2; clear hb2)
    go_ret
    have hb : Below w.heap.size w w2 := H1.out.1.trans ((((Below.refl _ _).alloc (Nat.le_refl _) _).trans (H2.out.mono (by simp))).mono H1.out.1.size)
    exact ⟨rfl, H.out.1.below hb, Tn.ofBelow hb⟩
  · have he : askE true [s] = 0 := by simp only [askE, hnm]; rfl
    rw [he] at hA
    simp only [List.all_cons, List.all_nil, Bool.and_true, Bool.and_eq_true] at hnm
    have hl64 := nm_le hnm
    have HE := Lib.hid (And.intro he hl64)
    clear he hnm hl64
    go_enter Tryd.func14, Tryd.ntmps14
    go_wp2_with (go_at_call 28; refine hA.mono ?_; rintro e w2 ⟨rfl, hb2⟩; have H2 := Lib.hid hb2; clear hb2)
    have hb12 : Below w.heap.size w w2 := H1.out.1.trans ((((Below.refl _ _).alloc (Nat.le_refl _) _).trans (H2.out.mono (by simp))).mono H1.out.1.size)
    have hb2' : Below W1.heap.size W1 w2 := ((Below.refl _ _).alloc (Nat.le_refl _) _).trans (H2.out.mono (by simp))
    have g1 : w2.cell? ⟨w.heap.size, 0, none⟩ = some (.pointer (some ⟨db, 0, none⟩)) := (hb2'.cell (p := ⟨w.heap.size, 0, none⟩) (by have := H1.out.2; simp; omega)).trans dD
    have gN : w2.cell? ⟨w.heap.size + 1, 0, none⟩ = some (.string s) := (hb2'.cell (p := ⟨w.heap.size + 1, 0, none⟩) (by have := H1.out.2; simp; omega)).trans dN
    have gA : w2.cell? ⟨w.heap.size + 2, 0, none⟩ = some (.string data) := (hb2'.cell (p := ⟨w.heap.size + 2, 0, none⟩) (by have := H1.out.2; simp; omega)).trans dA
    have h2 := H.out.1.below hb12
    have g3 := h2.c0
    have hz2 : w.heap.size + 3 ≤ w2.heap.size := by have := hb2'.size; have := H1.out.2; omega
    have H22 := Lib.hid (And.intro hb12 (And.intro hb2' (And.intro h2 hz2)))
    clear dD dN dA hb12 hb2' h2 hA hW1
    have kd1 : w2.drew.cell? ⟨w.heap.size, 0, none⟩ = some (.pointer (some ⟨db, 0, none⟩)) := g1
    have kd2 : w2.drew.cell? ⟨w.heap.size + 1, 0, none⟩ = some (.string s) := gN
    have kd3 : w2.drew.cell? ⟨db, 0, none⟩ = some (.map (some mb)) := g3
    cases hg : getL D.m s with
    | none =>
      have hlk : (Instr.lookup 44 (.map (some mb)) (.string s) true).run Tryd.prog w2.drew = .ok (.tuple #[.agg #[.string ByteArray.empty, .int .i64 0], .bool false]) w2.drew := by
        have h5 := MapL.look (H22.out.2.2.1.below (Below.refl _ _).drew).m keyN und_map (z := .agg #[.string ByteArray.empty, .int .i64 0]) (Tryd.zeroValue51 _) true s
        rw [hg] at h5
        exact h5
      refine wp_region_K (fun w' => w'.cell? ⟨w.heap.size, 0, none⟩ = some (.pointer (some ⟨db, 0, none⟩)) ∧ w'.cell? ⟨w.heap.size + 1, 0, none⟩ = some (.string s) ∧ w'.cell? ⟨db, 0, none⟩ = some (.map (some mb)) ∧ (Instr.lookup 44 (.map (some mb)) (.string s) true).run Tryd.prog w' = .ok (.tuple #[.agg #[.string ByteArray.empty, .int .i64 0], .bool false]) w') 11 12 (by kernel_rfl) (by kernel_rfl) ⟨kd1, kd2, kd3, hlk⟩ (fun hH => ?_)
      refine wpAnyK_take (i := 0) [11] (v := ?v1) rfl (by kernel_rfl) (by kernel_rfl) (by kernel_rfl) (by kernel_rfl) (fun _ _ _ h => h) (Or.inl ⟨by rfl, ?hy1⟩) hH ?rest1
      case hy1 => (intro w hSw; (try dsimp only at hSw); go_simp; with_reducible rfl)
      try simp only [Act.put, List.setIfInBounds_toArray, List.set_cons_zero, List.set_cons_succ]
      refine wpAnyK_take (i := 1) [11] (v := ?v2) rfl (by kernel_rfl) (by kernel_rfl) (by kernel_rfl) (by kernel_rfl) (fun _ _ _ h => h) (Or.inl ⟨by rfl, ?hy2⟩) hH ?rest2
      case hy2 => (intro w hSw; (try dsimp only at hSw); go_simp; with_reducible rfl)
      try simp only [Act.put, List.setIfInBounds_toArray, List.set_cons_zero, List.set_cons_succ]
      refine wpAnyK_take (i := 2) [11] (v := ?v3) rfl (by kernel_rfl) (by kernel_rfl) (by kernel_rfl) (by kernel_rfl) (fun _ _ _ h => h) (Or.inl ⟨by rfl, ?hy3⟩) hH ?rest3
      case hy3 => (intro w hSw; (try dsimp only at hSw); go_simp; with_reducible rfl)
      try simp only [Act.put, List.setIfInBounds_toArray, List.set_cons_zero, List.set_cons_succ]
      refine wpAnyK_take (i := 3) [11] (v := ?v4) rfl (by kernel_rfl) (by kernel_rfl) (by kernel_rfl) (by kernel_rfl) (fun _ _ _ h => h) (Or.inl ⟨by rfl, ?hy4⟩) hH ?rest4
      case hy4 => (intro w hSw; (try dsimp only at hSw); go_simp; with_reducible rfl)
      try simp only [Act.put, List.setIfInBounds_toArray, List.set_cons_zero, List.set_cons_succ]
      refine wpAnyK_take (i := 4) [11] (v := ?v5) rfl (by kernel_rfl) (by kernel_rfl) (by kernel_rfl) (by kernel_rfl) (fun _ _ _ h => h) (Or.inl ⟨by rfl, ?hy5⟩) hH ?rest5
      case hy5 => (intro w hSw; (try dsimp only at hSw); go_simp; with_reducible rfl)
      try simp only [Act.put, List.setIfInBounds_toArray, List.set_cons_zero, List.set_cons_succ]
      refine wpAnyK_take (i := 5) [11] (v := ?v6) rfl (by kernel_rfl) (by kernel_rfl) (by kernel_rfl) (by kernel_rfl) (fun _ _ _ h => h) (Or.inl ⟨by rfl, ?hy6⟩) hH ?rest6
      case hy6 => (intro w hSw; (try dsimp only at hSw); go_simp; with_reducible rfl)
      try simp only [Act.put, List.setIfInBounds_toArray, List.set_cons_zero, List.set_cons_succ]
      refine wpAnyK_take (i := 6) [11] (v := ?v7) rfl (by kernel_rfl) (by kernel_rfl) (by kernel_rfl) (by kernel_rfl) (fun _ _ _ h => h) (Or.inl ⟨by rfl, ?hy7⟩) hH ?rest7
      case hy7 => (intro w hSw; (try dsimp only at hSw); go_simp; with_reducible rfl)
      try simp only [Act.put, List.setIfInBounds_toArray, List.set_cons_zero, List.set_cons_succ]
      refine wpAnyK_take (i := 7) [11] (v := ?v8) rfl (by kernel_rfl) (by kernel_rfl) (by kernel_rfl) (by kernel_rfl) (fun _ _ _ h => h) (Or.inl ⟨by rfl, ?hy8⟩) hH ?rest8
      case hy8 => (intro w hSw; (try dsimp only at hSw); go_simp; with_reducible rfl)
      try simp only [Act.put, List.setIfInBounds_toArray, List.set_cons_zero, List.set_cons_succ]
      refine wpAnyK_take (i := 8) [11] (v := ?v9) rfl (by kernel_rfl) (by kernel_rfl) (by kernel_rfl) (by kernel_rfl) (fun _ _ _ h => h) (Or.inl ⟨by rfl, ?hy9⟩) hH ?rest9
      case hy9 => (intro w hSw; (try dsimp only at hSw); go_simp; with_reducible rfl)
      try simp only [Act.put, List.setIfInBounds_toArray, List.set_cons_zero, List.set_cons_succ]
      refine wpAnyK_one (i := 9) (by kernel_rfl) rfl (fun K hK => ?_) (by kernel_rfl)
      go_simp
      have hS3 : ∀ (x : Obj) (W : World), W = (w2.alloc x).drew → W.cell? ⟨w.heap.size, 0, none⟩ = some (.pointer (some ⟨db, 0, none⟩)) ∧ W.cell? ⟨w.heap.size + 1, 0, none⟩ = some (.string s) ∧ W.cell? ⟨db, 0, none⟩ = some (.map (some mb)) ∧ (Instr.lookup 44 (.map (some mb)) (.string s) true).run Tryd.prog W = .ok (.tuple #[.agg #[.string ByteArray.empty, .int .i64 0], .bool false]) W := by
        intro x W hW
        subst hW
        have hb : Below w2.heap.size w2 (w2.alloc x).drew := ((Below.refl _ _).alloc (Nat.le_refl _) _).drew
        refine ⟨(hb.cell (p := ⟨w.heap.size, 0, none⟩) (World.block_lt_of_cell? _ _ g1)).trans g1, (hb.cell (p := ⟨w.heap.size + 1, 0, none⟩) (World.block_lt_of_cell? _ _ gN)).trans gN, (hb.cell (p := ⟨db, 0, none⟩) (World.block_lt_of_cell? _ _ g3)).trans g3, ?_⟩
        have h5 := MapL.look (H22.out.2.2.1.below hb).m keyN und_map (z := .agg #[.string ByteArray.empty, .int .i64 0]) (Tryd.zeroValue51 _) true s
        rw [hg] at h5
        exact h5
      have HS3 := Lib.hid hS3
      clear hS3
      refine hK.out _ _ (HS3.out _ _ rfl) (fun hH => ?_)
      clear hK K
      try simp only [Act.put, List.setIfInBounds_toArray, List.set_cons_zero, List.set_cons_succ]
      refine wpAnyK_one (i := 10) (by kernel_rfl) rfl (fun K hK => ?_) (by kernel_rfl)
      go_simp
      refine hK.out _ _ (HS3.out _ _ rfl) (fun hH => ?_)
      clear hK K
      try simp only [Act.put, List.setIfInBounds_toArray, List.set_cons_zero, List.set_cons_succ]
      refine wpAnyK_last (by kernel_rfl) rfl (fun K hK => ?_) (by kernel_rfl)
      go_simp
      refine hK.out _ _ (wpAnyK_done (by kernel_rfl) ?_ _)
      clear hK K hH
      obtain ⟨w4, hw4⟩ : ∃ w4, w4 = (w2.alloc (.cells #[.string ByteArray.empty, .int .i64 0] 51)).drew := ⟨_, rfl⟩
      have hb24 : Below w2.heap.size w2 w4 := by rw [hw4]; exact ((Below.refl _ _).alloc (Nat.le_refl _) _).drew
      have q0 : w4.cell? ⟨w2.heap.size, 0, none⟩ = some (.string ByteArray.empty) := by rw [hw4]; simp [go_sem]
      have q1 : w4.cell? ⟨w2.heap.size, 1, none⟩ = some (.int .i64 0) := by rw [hw4]; simp [go_sem]
      have qf : ∀ j, w4.frozen? ⟨w2.heap.size, j, none⟩ = false := fun j => by rw [hw4]; simp [go_sem]
      have qz : w4.heap.size = w2.heap.size + 1 := by rw [hw4]; simp
      rw [← hw4]
      clear hw4 hlk kd1 kd2 kd3 HS3
      have e1 := (hb24.cell (p := ⟨w.heap.size, 0, none⟩) (World.block_lt_of_cell? _ _ g1)).trans g1
      have eN := (hb24.cell (p := ⟨w.heap.size + 1, 0, none⟩) (World.block_lt_of_cell? _ _ gN)).trans gN
      have eA := (hb24.cell (p := ⟨w.heap.size + 2, 0, none⟩) (World.block_lt_of_cell? _ _ gA)).trans gA
      have hb04 : Below w.heap.size w w4 := H22.out.1.trans (hb24.mono H22.out.1.size)
      have e3 := (hb04.cell (p := ⟨db, 0, none⟩) hlt).trans H.out.1.c0
      have H4 := Lib.hid (And.intro hb04 (And.intro (H.out.1.below hb04) (And.intro q0 (And.intro q1 (And.intro qf (And.intro qz hb24))))))
      clear hb24 hb04 qf qz
      have hres : D.app s data = (22, D) := by
        unfold Dk.app
        rw [H.out.2.2, HE.out.1, if_neg (by decide)]
        rw [hg]
      have HR := Lib.hid hres
      clear hres
      go_wp2
      go_ret
      exact ⟨by rw [HR.out]; rfl, by rw [HR.out]; exact H4.out.2.1, Tn.ofBelow H4.out.1⟩
    | some f =>
      obtain ⟨fd, fs⟩ := f
      have hfs := H.out.1.ok.syn _ (getL_mem hg)
      simp only at hfs
      have hlk : (Instr.lookup 44 (.map (some mb)) (.string s) true).run Tryd.prog w2.drew = .ok (.tuple #[.agg #[.string fd, .int .i64 (fs : Int)], .bool true]) w2.drew := by
        have h5 := MapL.look (H22.out.2.2.1.below (Below.refl _ _).drew).m keyN und_map (z := .agg #[.string ByteArray.empty, .int .i64 0]) (Tryd.zeroValue51 _) true s
        rw [hg] at h5
        exact h5
      refine wp_region_K (fun w' => w'.cell? ⟨w.heap.size, 0, none⟩ = some (.pointer (some ⟨db, 0, none⟩)) ∧ w'.cell? ⟨w.heap.size + 1, 0, none⟩ = some (.string s) ∧ w'.cell? ⟨db, 0, none⟩ = some (.map (some mb)) ∧ (Instr.lookup 44 (.map (some mb)) (.string s) true).run Tryd.prog w' = .ok (.tuple #[.agg #[.string fd, .int .i64 (fs : Int)], .bool true]) w') 11 12 (by kernel_rfl) (by kernel_rfl) ⟨kd1, kd2, kd3, hlk⟩ (fun hH => ?_)
      refine wpAnyK_take (i := 0) [11] (v := ?v10) rfl (by kernel_rfl) (by kernel_rfl) (by kernel_rfl) (by kernel_rfl) (fun _ _ _ h => h) (Or.inl ⟨by rfl, ?hy10⟩) hH ?rest10
      case hy10 => (intro w hSw; (try dsimp only at hSw); go_simp; with_reducible rfl)
      try simp only [Act.put, List.setIfInBounds_toArray, List.set_cons_zero, List.set_cons_succ]
      refine wpAnyK_take (i := 1) [11] (v := ?v11) rfl (by kernel_rfl) (by kernel_rfl) (by kernel_rfl) (by kernel_rfl) (fun _ _ _ h => h) (Or.inl ⟨by rfl, ?hy11⟩) hH ?rest11
      case hy11 => (intro w hSw; (try dsimp only at hSw); go_simp; with_reducible rfl)
      try simp only [Act.put, List.setIfInBounds_toArray, List.set_cons_zero, List.set_cons_succ]
      refine wpAnyK_take (i := 2) [11] (v := ?v12) rfl (by kernel_rfl) (by kernel_rfl) (by kernel_rfl) (by kernel_rfl) (fun _ _ _ h => h) (Or.inl ⟨by rfl, ?hy12⟩) hH ?rest12
      case hy12 => (intro w hSw; (try dsimp only at hSw); go_simp; with_reducible rfl)
      try simp only [Act.put, List.setIfInBounds_toArray, List.set_cons_zero, List.set_cons_succ]
      refine wpAnyK_take (i := 3) [11] (v := ?v13) rfl (by kernel_rfl) (by kernel_rfl) (by kernel_rfl) (by kernel_rfl) (fun _ _ _ h => h) (Or.inl ⟨by rfl, ?hy13⟩) hH ?rest13
      case hy13 => (intro w hSw; (try dsimp only at hSw); go_simp; with_reducible rfl)
      try simp only [Act.put, List.setIfInBounds_toArray, List.set_cons_zero, List.set_cons_succ]
      refine wpAnyK_take (i := 4) [11] (v := ?v14) rfl (by kernel_rfl) (by kernel_rfl) (by kernel_rfl) (by kernel_rfl) (fun _ _ _ h => h) (Or.inl ⟨by rfl, ?hy14⟩) hH ?rest14
      case hy14 => (intro w hSw; (try dsimp only at hSw); go_simp; with_reducible rfl)
      try simp only [Act.put, List.setIfInBounds_toArray, List.set_cons_zero, List.set_cons_succ]
      refine wpAnyK_take (i := 5) [11] (v := ?v15) rfl (by kernel_rfl) (by kernel_rfl) (by kernel_rfl) (by kernel_rfl) (fun _ _ _ h => h) (Or.inl ⟨by rfl, ?hy15⟩) hH ?rest15
      case hy15 => (intro w hSw; (try dsimp only at hSw); go_simp; with_reducible rfl)
      try simp only [Act.put, List.setIfInBounds_toArray, List.set_cons_zero, List.set_cons_succ]
      refine wpAnyK_take (i := 6) [11] (v := ?v16) rfl (by kernel_rfl) (by kernel_rfl) (by kernel_rfl) (by kernel_rfl) (fun _ _ _ h => h) (Or.inl ⟨by rfl, ?hy16⟩) hH ?rest16
      case hy16 => (intro w hSw; (try dsimp only at hSw); go_simp; with_reducible rfl)
      try simp only [Act.put, List.setIfInBounds_toArray, List.set_cons_zero, List.set_cons_succ]
      refine wpAnyK_take (i := 7) [11] (v := ?v17) rfl (by kernel_rfl) (by kernel_rfl) (by kernel_rfl) (by kernel_rfl) (fun _ _ _ h => h) (Or.inl ⟨by rfl, ?hy17⟩) hH ?rest17
      case hy17 => (intro w hSw; (try dsimp only at hSw); go_simp; with_reducible rfl)
      try simp only [Act.put, List.setIfInBounds_toArray, List.set_cons_zero, List.set_cons_succ]
      refine wpAnyK_take (i := 8) [11] (v := ?v18) rfl (by kernel_rfl) (by kernel_rfl) (by kernel_rfl) (by kernel_rfl) (fun _ _ _ h => h) (Or.inl ⟨by rfl, ?hy18⟩) hH ?rest18
      case hy18 => (intro w hSw; (try dsimp only at hSw); go_simp; with_reducible rfl)
      try simp only [Act.put, List.setIfInBounds_toArray, List.set_cons_zero, List.set_cons_succ]
      refine wpAnyK_one (i := 9) (by kernel_rfl) rfl (fun K hK => ?_) (by kernel_rfl)
      go_simp
      have hS3 : ∀ (x : Obj) (W : World), W = (w2.alloc x).drew → W.cell? ⟨w.heap.size, 0, none⟩ = some (.pointer (some ⟨db, 0, none⟩)) ∧ W.cell? ⟨w.heap.size + 1, 0, none⟩ = some (.string s) ∧ W.cell? ⟨db, 0, none⟩ = some (.map (some mb)) ∧ (Instr.lookup 44 (.map (some mb)) (.string s) true).run Tryd.prog W = .ok (.tuple #[.agg #[.string fd, .int .i64 (fs : Int)], .bool true]) W := by
        intro x W hW
        subst hW
        have hb : Below w2.heap.size w2 (w2.alloc x).drew := ((Below.refl _ _).alloc (Nat.le_refl _) _).drew
        refine ⟨(hb.cell (p := ⟨w.heap.size, 0, none⟩) (World.block_lt_of_cell? _ _ g1)).trans g1, (hb.cell (p := ⟨w.heap.size + 1, 0, none⟩) (World.block_lt_of_cell? _ _ gN)).trans gN, (hb.cell (p := ⟨db, 0, none⟩) (World.block_lt_of_cell? _ _ g3)).trans g3, ?_⟩
        have h5 := MapL.look (H22.out.2.2.1.below hb).m keyN und_map (z := .agg #[.string ByteArray.empty, .int .i64 0]) (Tryd.zeroValue51 _) true s
        rw [hg] at h5
        exact h5
      have HS3 := Lib.hid hS3
      clear hS3
      refine hK.out _ _ (HS3.out _ _ rfl) (fun hH => ?_)
      clear hK K
      try simp only [Act.put, List.setIfInBounds_toArray, List.set_cons_zero, List.set_cons_succ]
      refine wpAnyK_one (i := 10) (by kernel_rfl) rfl (fun K hK => ?_) (by kernel_rfl)
      go_simp
      refine hK.out _ _ (HS3.out _ _ rfl) (fun hH => ?_)
      clear hK K
      try simp only [Act.put, List.setIfInBounds_toArray, List.set_cons_zero, List.set_cons_succ]
      refine wpAnyK_last (by kernel_rfl) rfl (fun K hK => ?_) (by kernel_rfl)
      go_simp
      refine hK.out _ _ (wpAnyK_done (by kernel_rfl) ?_ _)
      clear hK K hH
      obtain ⟨w4, hw4⟩ : ∃ w4, w4 = (w2.alloc (.cells #[.string fd, .int .i64 (fs : Int)] 51)).drew := ⟨_, rfl⟩
      have hb24 : Below w2.heap.size w2 w4 := by rw [hw4]; exact ((Below.refl _ _).alloc (Nat.le_refl _) _).drew
      have q0 : w4.cell? ⟨w2.heap.size, 0, none⟩ = some (.string fd) := by rw [hw4]; simp [go_sem]
      have q1 : w4.cell? ⟨w2.heap.size, 1, none⟩ = some (.int .i64 (fs : Int)) := by rw [hw4]; simp [go_sem]
      have qf : ∀ j, w4.frozen? ⟨w2.heap.size, j, none⟩ = false := fun j => by rw [hw4]; simp [go_sem]
      have qz : w4.heap.size = w2.heap.size + 1 := by rw [hw4]; simp
      rw [← hw4]
      clear hw4 hlk kd1 kd2 kd3 HS3
      have e1 := (hb24.cell (p := ⟨w.heap.size, 0, none⟩) (World.block_lt_of_cell? _ _ g1)).trans g1
      have eN := (hb24.cell (p := ⟨w.heap.size + 1, 0, none⟩) (World.block_lt_of_cell? _ _ gN)).trans gN
      have eA := (hb24.cell (p := ⟨w.heap.size + 2, 0, none⟩) (World.block_lt_of_cell? _ _ gA)).trans gA
      have hb04 : Below w.heap.size w w4 := H22.out.1.trans (hb24.mono H22.out.1.size)
      have e3 := (hb04.cell (p := ⟨db, 0, none⟩) hlt).trans H.out.1.c0
      have H4 := Lib.hid (And.intro hb04 (And.intro (H.out.1.below hb04) (And.intro q0 (And.intro q1 (And.intro qf (And.intro qz hb24))))))
      clear hb24 hb04 qf qz
      have hde := isEmpty_iff data
      by_cases hlong : 1048576 < fd.size + data.size
      · have r1 : (1048576 : Int) < (fd.size : Int) + (data.size : Int) := by omega
        have hres : D.app s data = (2, D) := by
          unfold Dk.app
          rw [H.out.2.2, HE.out.1, if_neg (by decide)]
          rw [hg]; show (if 1048576 < fd.size + data.size then ((2 : Int), D) else if 0 ≤ D.quota ∧ data.size ≠ 0 ∧ D.quota < (used D.m : Int) + data.size then (24, D) else D.act (fun m => setL m s ⟨fd ++ data, fs⟩)) = _; rw [if_pos hlong]
        have HR := Lib.hid hres
        clear hres
        go_wp2
        go_ret
        exact ⟨by rw [HR.out]; rfl, by rw [HR.out]; exact H4.out.2.1, Tn.ofBelow H4.out.1⟩
      · have r1 : ¬ (1048576 : Int) < (fd.size : Int) + (data.size : Int) := by omega
        have hok2 : (fd ++ data).size ≤ 1048576 := by rw [ByteArray.size_append]; omega
        have hok1 : fs ≤ (fd ++ data).size := by rw [ByteArray.size_append]; have := hfs.1; omega
        by_cases hq : 0 ≤ D.quota
        · by_cases hd0 : data.size = 0
          · have hde1 : data.toList.isEmpty = true := by rw [hde]; exact decide_eq_true hd0
            have HDQ := Lib.hid (And.intro hok1 (And.intro hok2 (And.intro hfs hd0)))
            clear hde hok1 hok2 hfs hd0
            have e9 : w4.cell? ⟨db, 2, none⟩ = some (.int .i64 D.quota) := H4.out.2.1.c2
            have y1 : w4.drew.cell? ⟨w.heap.size, 0, none⟩ = some (.pointer (some ⟨db, 0, none⟩)) := e1
            have yA : w4.drew.cell? ⟨w.heap.size + 2, 0, none⟩ = some (.string data) := eA
            have y2 : w4.drew.cell? ⟨db, 2, none⟩ = some (.int .i64 D.quota) := e9
            go_wp2_with fail
            refine wp_region_K (fun w' => w'.cell? ⟨w.heap.size, 0, none⟩ = some (.pointer (some ⟨db, 0, none⟩)) ∧ w'.cell? ⟨w.heap.size + 2, 0, none⟩ = some (.string data) ∧ w'.cell? ⟨db, 2, none⟩ = some (.int .i64 D.quota)) 21 22 (by kernel_rfl) (by kernel_rfl) ⟨y1, yA, y2⟩ (fun hH => ?_)
            refine wpAnyK_take (i := 0) [1, 2, 3, 4, 5, 9, 11, 21] (v := ?v19) rfl (by kernel_rfl) (by kernel_rfl) (by kernel_rfl) (by kernel_rfl) (fun _ _ _ h => h) (Or.inl ⟨by rfl, ?hy19⟩) hH ?rest19
            case hy19 => (intro w hSw; (try dsimp only at hSw); go_simp; with_reducible rfl)
            try simp only [Act.put, List.setIfInBounds_toArray, List.set_cons_zero, List.set_cons_succ]
            refine wpAnyK_take (i := 1) [2, 3, 4, 5, 9, 11, 21] (v := ?v20) rfl (by kernel_rfl) (by kernel_rfl) (by kernel_rfl) (by kernel_rfl) (fun _ _ _ h => h) (Or.inl ⟨by rfl, ?hy20⟩) hH ?rest20
            case hy20 => (intro w hSw; (try dsimp only at hSw); go_simp; with_reducible rfl)
            try simp only [Act.put, List.setIfInBounds_toArray, List.set_cons_zero, List.set_cons_succ]
            refine wpAnyK_take (i := 2) [3, 4, 5, 9, 11, 21] (v := ?v21) rfl (by kernel_rfl) (by kernel_rfl) (by kernel_rfl) (by kernel_rfl) (fun _ _ _ h => h) (Or.inl ⟨by rfl, ?hy21⟩) hH ?rest21
            case hy21 => (intro w hSw; (try dsimp only at hSw); go_simp; with_reducible rfl)
            try simp only [Act.put, List.setIfInBounds_toArray, List.set_cons_zero, List.set_cons_succ]
            refine wpAnyK_take (i := 3) [4, 5, 9, 11, 21] (v := ?v22) rfl (by kernel_rfl) (by kernel_rfl) (by kernel_rfl) (by kernel_rfl) (fun _ _ _ h => h) (Or.inl ⟨by rfl, ?hy22⟩) hH ?rest22
            case hy22 => (intro w hSw; (try dsimp only at hSw); go_simp; with_reducible rfl)
            try simp only [Act.put, List.setIfInBounds_toArray, List.set_cons_zero, List.set_cons_succ]
            refine wpAnyK_take (i := 4) [5, 9, 11, 21] (v := ?v23) rfl (by kernel_rfl) (by kernel_rfl) (by kernel_rfl) (by kernel_rfl) (fun _ _ _ h => h) (Or.inl ⟨by rfl, ?hy23⟩) hH ?rest23
            case hy23 => (intro w hSw; (try dsimp only at hSw); go_simp; with_reducible rfl)
            try simp only [Act.put, List.setIfInBounds_toArray, List.set_cons_zero, List.set_cons_succ]
            refine wpAnyK_take (i := 5) [9, 11, 21] (v := ?v24) rfl (by kernel_rfl) (by kernel_rfl) (by kernel_rfl) (by kernel_rfl) (fun _ _ _ h => h) (Or.inl ⟨by rfl, ?hy24⟩) hH ?rest24
            case hy24 => (intro w hSw; (try dsimp only at hSw); go_simp; with_reducible rfl)
            try simp only [Act.put, List.setIfInBounds_toArray, List.set_cons_zero, List.set_cons_succ]
            refine wpAnyK_take (i := 6) [7, 8, 9, 11, 21] (v := ?v25) rfl (by kernel_rfl) (by kernel_rfl) (by kernel_rfl) (by kernel_rfl) (fun _ _ _ h => h) (Or.inl ⟨by rfl, ?hy25⟩) hH ?rest25
            case hy25 => (intro w hSw; (try dsimp only at hSw); go_simp; with_reducible rfl)
            try simp only [Act.put, List.setIfInBounds_toArray, List.set_cons_zero, List.set_cons_succ]
            refine wpAnyK_take (i := 7) [8, 9, 11, 21] (v := ?v26) rfl (by kernel_rfl) (by kernel_rfl) (by kernel_rfl) (by kernel_rfl) (fun _ _ _ h => h) (Or.inl ⟨by rfl, ?hy26⟩) hH ?rest26
            case hy26 => (intro w hSw; (try dsimp only at hSw); go_simp; with_reducible rfl)
            try simp only [Act.put, List.setIfInBounds_toArray, List.set_cons_zero, List.set_cons_succ]
            refine wpAnyK_take (i := 8) [9, 11, 21] (v := ?v27) rfl (by kernel_rfl) (by kernel_rfl) (by kernel_rfl) (by kernel_rfl) (fun _ _ _ h => h) (Or.inl ⟨by rfl, ?hy27⟩) hH ?rest27
            case hy27 => (intro w hSw; (try dsimp only at hSw); go_simp; with_reducible rfl)
            try simp only [Act.put, List.setIfInBounds_toArray, List.set_cons_zero, List.set_cons_succ]
            refine wpAnyK_take (i := 9) [11, 21] (v := ?v28) rfl (by kernel_rfl) (by kernel_rfl) (by kernel_rfl) (by kernel_rfl) (fun _ _ _ h => h) (Or.inl ⟨by rfl, ?hy28⟩) hH ?rest28
            case hy28 => (intro w hSw; (try dsimp only at hSw); go_simp; with_reducible rfl)
            try simp only [Act.put, List.setIfInBounds_toArray, List.set_cons_zero, List.set_cons_succ]
            refine wpAnyK_take (i := 10) [11, 21] (v := undef) rfl (by kernel_rfl) (by kernel_rfl) (by kernel_rfl) (by kernel_rfl) (fun _ _ _ h => h) (Or.inr ⟨by rfl, rfl⟩) hH ?rest29
            try simp only [Act.put, List.setIfInBounds_toArray, List.set_cons_zero, List.set_cons_succ]
            refine wpAnyK_take (i := 12) [13, 14, 19, 20, 21] (v := undef) rfl (by kernel_rfl) (by kernel_rfl) (by kernel_rfl) (by kernel_rfl) (fun _ _ _ h => h) (Or.inr ⟨by rfl, rfl⟩) hH ?rest30
            try simp only [Act.put, List.setIfInBounds_toArray, List.set_cons_zero, List.set_cons_succ]
            refine wpAnyK_take (i := 13) [14, 19, 20, 21] (v := undef) rfl (by kernel_rfl) (by kernel_rfl) (by kernel_rfl) (by kernel_rfl) (fun _ _ _ h => h) (Or.inr ⟨by rfl, rfl⟩) hH ?rest31
            try simp only [Act.put, List.setIfInBounds_toArray, List.set_cons_zero, List.set_cons_succ]
            refine wpAnyK_take (i := 15) [16, 17, 18, 19, 20, 21] (v := undef) rfl (by kernel_rfl) (by kernel_rfl) (by kernel_rfl) (by kernel_rfl) (fun _ _ _ h => h) (Or.inr ⟨by rfl, rfl⟩) hH ?rest32
            try simp only [Act.put, List.setIfInBounds_toArray, List.set_cons_zero, List.set_cons_succ]
            refine wpAnyK_take (i := 16) [17, 18, 19, 20, 21] (v := undef) rfl (by kernel_rfl) (by kernel_rfl) (by kernel_rfl) (by kernel_rfl) (fun _ _ _ h => h) (Or.inr ⟨by rfl, rfl⟩) hH ?rest33
            try simp only [Act.put, List.setIfInBounds_toArray, List.set_cons_zero, List.set_cons_succ]
            refine wpAnyK_take (i := 17) [18, 19, 20, 21] (v := undef) rfl (by kernel_rfl) (by kernel_rfl) (by kernel_rfl) (by kernel_rfl) (fun _ _ _ h => h) (Or.inr ⟨by rfl, rfl⟩) hH ?rest34
            try simp only [Act.put, List.setIfInBounds_toArray, List.set_cons_zero, List.set_cons_succ]
            refine wpAnyK_take (i := 18) [19, 20, 21] (v := undef) rfl (by kernel_rfl) (by kernel_rfl) (by kernel_rfl) (by kernel_rfl) (fun _ _ _ h => h) (Or.inr ⟨by rfl, rfl⟩) hH ?rest35
            try simp only [Act.put, List.setIfInBounds_toArray, List.set_cons_zero, List.set_cons_succ]
            refine wpAnyK_one (i := 11) (by kernel_rfl) rfl (fun K hK => ?_) (by kernel_rfl)
            go_simp
            refine hK.out _ _ hH (fun hH => ?_)
            clear hK K
            try simp only [Act.put, List.setIfInBounds_toArray, List.set_cons_zero, List.set_cons_succ]
            refine wpAnyK_take (i := 14) [19, 20, 21] (v := undef) rfl (by kernel_rfl) (by kernel_rfl) (by kernel_rfl) (by kernel_rfl) (fun _ _ _ h => h) (Or.inr ⟨by rfl, rfl⟩) hH ?rest36
            try simp only [Act.put, List.setIfInBounds_toArray, List.set_cons_zero, List.set_cons_succ]
            refine wpAnyK_take (i := 19) [20, 21] (v := undef) rfl (by kernel_rfl) (by kernel_rfl) (by kernel_rfl) (by kernel_rfl) (fun _ _ _ h => h) (Or.inr ⟨by rfl, rfl⟩) hH ?rest37
            try simp only [Act.put, List.setIfInBounds_toArray, List.set_cons_zero, List.set_cons_succ]
            refine wpAnyK_take (i := 20) [21] (v := ?v38) rfl (by kernel_rfl) (by kernel_rfl) (by kernel_rfl) (by kernel_rfl) (fun _ _ _ h => h) (Or.inl ⟨by rfl, ?hy38⟩) hH ?rest38
            case hy38 => (intro w hSw; (try dsimp only at hSw); go_simp; with_reducible rfl)
            try simp only [Act.put, List.setIfInBounds_toArray, List.set_cons_zero, List.set_cons_succ]
            refine wpAnyK_last (by kernel_rfl) rfl (fun K hK => ?_) (by kernel_rfl)
            go_simp
            refine hK.out _ _ (wpAnyK_done (by kernel_rfl) ?_ _)
            clear hK K hH y1 yA y2 e9
            obtain ⟨w7, hw7⟩ : ∃ w7, w4.drew = w7 := ⟨_, rfl⟩
            have hb47 : Below w4.heap.size w4 w7 := by rw [← hw7]; exact (Below.refl _ _).drew
            rw [hw7]
            clear hw7
            have e1 := (hb47.cell (p := ⟨w.heap.size, 0, none⟩) (World.block_lt_of_cell? _ _ e1)).trans e1
            have eN := (hb47.cell (p := ⟨w.heap.size + 1, 0, none⟩) (World.block_lt_of_cell? _ _ eN)).trans eN
            have eA := (hb47.cell (p := ⟨w.heap.size + 2, 0, none⟩) (World.block_lt_of_cell? _ _ eA)).trans eA
            have hq0 := World.block_lt_of_cell? _ _ q0
            have hqf : ∀ j, w7.frozen? ⟨w2.heap.size, j, none⟩ = false := fun j => (hb47.frozen (p := ⟨w2.heap.size, j, none⟩) hq0).trans (H4.out.2.2.2.2.1 j)
            have q0 := (hb47.cell (p := ⟨w2.heap.size, 0, none⟩) (World.block_lt_of_cell? _ _ q0)).trans q0
            have q1 := (hb47.cell (p := ⟨w2.heap.size, 1, none⟩) (World.block_lt_of_cell? _ _ q1)).trans q1
            have H4' := Lib.hid (And.intro (H4.out.1.trans (hb47.mono H4.out.1.size)) (And.intro (H4.out.2.1.below hb47) (And.intro q0 (And.intro q1 (And.intro hqf (And.intro hb47 (H4.out.2.2.2.2.2.2.trans (hb47.mono H4.out.2.2.2.2.2.2.size))))))))
            have hz47 := hb47.size
            clear hb47 hqf
            have hok1 := HDQ.out.1
            have hok2 := HDQ.out.2.1
            have hres : D.app s data = D.act (fun m => setL m s ⟨fd ++ data, fs⟩) := by
              unfold Dk.app
              rw [H.out.2.2, HE.out.1, if_neg (by decide)]
              rw [hg]; show (if 1048576 < fd.size + data.size then ((2 : Int), D) else if 0 ≤ D.quota ∧ data.size ≠ 0 ∧ D.quota < (used D.m : Int) + data.size then (24, D) else D.act (fun m => setL m s ⟨fd ++ data, fs⟩)) = _; rw [if_neg hlong, if_neg (fun h => h.2.1 HDQ.out.2.2.2)]
            have HR := Lib.hid hres
            clear hres
            have h4 : DkAt (fun q => F q ∨ q = w2.heap.size) w7 db mb D := H22.out.2.2.1.more (fun q hq => .inl hq) (fun q hq => hq.elim .inl (fun e => .inr (by omega))) (fun q hq => hq.elim (fun h => Nat.lt_of_lt_of_le (H22.out.2.2.1.lt q h) (by have := H4.out.2.2.2.2.2.1; omega)) (fun e => by have := H4.out.2.2.2.2.2.1; omega)) H4'.out.2.2.2.2.2.2
            have n0 : ∀ k, ¬ two db mb (w.heap.size + k) := fun k hq => by
              have := H.out.1.m.lt
              rcases hq with e | e <;> omega
            have nF : ¬ two db mb w2.heap.size := fun hq => by
              have := H.out.1.m.lt
              have := H22.out.2.2.2
              rcases hq with e | e <;> omega
            have hd : Does (fun q => F q ∨ q = w2.heap.size) (fun q => q = w2.heap.size) 32 #[.pointer (some ⟨w2.heap.size, 0, none⟩), .pointer (some ⟨w.heap.size + 2, 0, none⟩), .pointer (some ⟨w.heap.size, 0, none⟩), .pointer (some ⟨w.heap.size + 1, 0, none⟩)] w7 db mb D (fun m => setL m s ⟨fd ++ data, fs⟩) := append1_does e1 eN q0 q1 H4'.out.2.2.2.2.1 eA (n0 0) (n0 1) nF (n0 2) (by have := H22.out.2.2.2; omega) (by have := H22.out.2.2.2; omega) (.inr rfl) HE.out.2 (by rw [hg]; rfl) ⟨hok1, hok2⟩
            have HD := Lib.hid (And.intro h4 hd)
            clear h4 hd n0 nF g1 g3 gN gA
            go_wp2_with fail
            refine (act_any HD.out.1 H.out.2.1 ha (enters_of Tryd.func32 (by kernel_rfl) rfl) HD.out.2).mono ?_
            rintro e w5 ⟨rfl, hd5, ht5⟩
            have H5 := Lib.hid (And.intro hd5 ht5)
            clear hd5 ht5
            go_wp2
            go_ret
            refine ⟨by rw [HR.out]; rfl, ?_, (Tn.ofBelow H4'.out.1).andThen H5.out.2 (fun q hq => ?_)⟩
            · rw [HR.out]
              exact H5.out.1.less (fun q hq => .inl hq) H.out.1.fd H.out.1.fm
            · rcases hq with hq | hq
              · exact .inl hq
              · exact .inr (by have := H22.out.2.2.2; omega)
          · have hde1 : data.toList.isEmpty = false := by rw [hde]; exact decide_eq_false hd0
            have hub : used D.m ≤ 20971520000 := by
              have h1 := used_le D.m (fun p hp => (H.out.1.ok.syn p hp).2)
              have h2 := H.out.1.ok.few
              have h3 : D.m.length * 1048576 ≤ 20000 * 1048576 := Nat.mul_le_mul_right _ h2
              omega
            have hwr : IntKind.i64.wrap ((used D.m : Int) + (data.size : Int)) = (used D.m : Int) + (data.size : Int) := IntWalk.i64_in _ (by omega)
            by_cases hov : D.quota < (used D.m : Int) + (data.size : Int)
            · have HDQ := Lib.hid (And.intro hok1 (And.intro hok2 (And.intro hfs hd0)))
              clear hde hok1 hok2 hfs hd0
              have e9 : w4.cell? ⟨db, 2, none⟩ = some (.int .i64 D.quota) := H4.out.2.1.c2
              have y1 : w4.drew.cell? ⟨w.heap.size, 0, none⟩ = some (.pointer (some ⟨db, 0, none⟩)) := e1
              have yA : w4.drew.cell? ⟨w.heap.size + 2, 0, none⟩ = some (.string data) := eA
              have y2 : w4.drew.cell? ⟨db, 2, none⟩ = some (.int .i64 D.quota) := e9
              go_wp2_with fail
              refine wp_region_K (fun w' => w'.cell? ⟨w.heap.size, 0, none⟩ = some (.pointer (some ⟨db, 0, none⟩)) ∧ w'.cell? ⟨w.heap.size + 2, 0, none⟩ = some (.string data) ∧ w'.cell? ⟨db, 2, none⟩ = some (.int .i64 D.quota)) 21 22 (by kernel_rfl) (by kernel_rfl) ⟨y1, yA, y2⟩ (fun hH => ?_)
              refine wpAnyK_take (i := 0) [1, 2, 3, 4, 5, 9, 11, 21] (v := ?v39) rfl (by kernel_rfl) (by kernel_rfl) (by kernel_rfl) (by kernel_rfl) (fun _ _ _ h => h) (Or.inl ⟨by rfl, ?hy39⟩) hH ?rest39
              case hy39 => (intro w hSw; (try dsimp only at hSw); go_simp; with_reducible rfl)
              try simp only [Act.put, List.setIfInBounds_toArray, List.set_cons_zero, List.set_cons_succ]
              refine wpAnyK_take (i := 1) [2, 3, 4, 5, 9, 11, 21] (v := ?v40) rfl (by kernel_rfl) (by kernel_rfl) (by kernel_rfl) (by kernel_rfl) (fun _ _ _ h => h) (Or.inl ⟨by rfl, ?hy40⟩) hH ?rest40
              case hy40 => (intro w hSw; (try dsimp only at hSw); go_simp; with_reducible rfl)
              try simp only [Act.put, List.setIfInBounds_toArray, List.set_cons_zero, List.set_cons_succ]
              refine wpAnyK_take (i := 2) [3, 4, 5, 9, 11, 21] (v := ?v41) rfl (by kernel_rfl) (by kernel_rfl) (by kernel_rfl) (by kernel_rfl) (fun _ _ _ h => h) (Or.inl ⟨by rfl, ?hy41⟩) hH ?rest41
              case hy41 => (intro w hSw; (try dsimp only at hSw); go_simp; with_reducible rfl)
              try simp only [Act.put, List.setIfInBounds_toArray, List.set_cons_zero, List.set_cons_succ]
              refine wpAnyK_take (i := 3) [4, 5, 9, 11, 21] (v := ?v42) rfl (by kernel_rfl) (by kernel_rfl) (by kernel_rfl) (by kernel_rfl) (fun _ _ _ h => h) (Or.inl ⟨by rfl, ?hy42⟩) hH ?rest42
              case hy42 => (intro w hSw; (try dsimp only at hSw); go_simp; with_reducible rfl)
              try simp only [Act.put, List.setIfInBounds_toArray, List.set_cons_zero, List.set_cons_succ]
              refine wpAnyK_take (i := 4) [5, 9, 11, 21] (v := ?v43) rfl (by kernel_rfl) (by kernel_rfl) (by kernel_rfl) (by kernel_rfl) (fun _ _ _ h => h) (Or.inl ⟨by rfl, ?hy43⟩) hH ?rest43
              case hy43 => (intro w hSw; (try dsimp only at hSw); go_simp; with_reducible rfl)
              try simp only [Act.put, List.setIfInBounds_toArray, List.set_cons_zero, List.set_cons_succ]
              refine wpAnyK_take (i := 5) [9, 11, 21] (v := ?v44) rfl (by kernel_rfl) (by kernel_rfl) (by kernel_rfl) (by kernel_rfl) (fun _ _ _ h => h) (Or.inl ⟨by rfl, ?hy44⟩) hH ?rest44
              case hy44 => (intro w hSw; (try dsimp only at hSw); go_simp; with_reducible rfl)
              try simp only [Act.put, List.setIfInBounds_toArray, List.set_cons_zero, List.set_cons_succ]
              refine wpAnyK_take (i := 6) [7, 8, 9, 11, 21] (v := ?v45) rfl (by kernel_rfl) (by kernel_rfl) (by kernel_rfl) (by kernel_rfl) (fun _ _ _ h => h) (Or.inl ⟨by rfl, ?hy45⟩) hH ?rest45
              case hy45 => (intro w hSw; (try dsimp only at hSw); go_simp; with_reducible rfl)
              try simp only [Act.put, List.setIfInBounds_toArray, List.set_cons_zero, List.set_cons_succ]
              refine wpAnyK_take (i := 7) [8, 9, 11, 21] (v := ?v46) rfl (by kernel_rfl) (by kernel_rfl) (by kernel_rfl) (by kernel_rfl) (fun _ _ _ h => h) (Or.inl ⟨by rfl, ?hy46⟩) hH ?rest46
              case hy46 => (intro w hSw; (try dsimp only at hSw); go_simp; with_reducible rfl)
              try simp only [Act.put, List.setIfInBounds_toArray, List.set_cons_zero, List.set_cons_succ]
              refine wpAnyK_take (i := 8) [9, 11, 21] (v := ?v47) rfl (by kernel_rfl) (by kernel_rfl) (by kernel_rfl) (by kernel_rfl) (fun _ _ _ h => h) (Or.inl ⟨by rfl, ?hy47⟩) hH ?rest47
              case hy47 => (intro w hSw; (try dsimp only at hSw); go_simp; with_reducible rfl)
              try simp only [Act.put, List.setIfInBounds_toArray, List.set_cons_zero, List.set_cons_succ]
              refine wpAnyK_take (i := 9) [11, 21] (v := ?v48) rfl (by kernel_rfl) (by kernel_rfl) (by kernel_rfl) (by kernel_rfl) (fun _ _ _ h => h) (Or.inl ⟨by rfl, ?hy48⟩) hH ?rest48
              case hy48 => (intro w hSw; (try dsimp only at hSw); go_simp; with_reducible rfl)
              try simp only [Act.put, List.setIfInBounds_toArray, List.set_cons_zero, List.set_cons_succ]
              refine wpAnyK_take (i := 10) [11, 21] (v := ?v49) rfl (by kernel_rfl) (by kernel_rfl) (by kernel_rfl) (by kernel_rfl) (fun _ _ _ h => h) (Or.inl ⟨by rfl, ?hy49⟩) hH ?rest49
              case hy49 => (intro w hSw; (try dsimp only at hSw); go_simp; with_reducible rfl)
              try simp only [Act.put, List.setIfInBounds_toArray, List.set_cons_zero, List.set_cons_succ]
              refine wpAnyK_take (i := 12) [13, 14, 19, 20, 21] (v := ?v50) rfl (by kernel_rfl) (by kernel_rfl) (by kernel_rfl) (by kernel_rfl) (fun _ _ _ h => h) (Or.inl ⟨by rfl, ?hy50⟩) hH ?rest50
              case hy50 => (intro w hSw; (try dsimp only at hSw); go_simp; with_reducible rfl)
              try simp only [Act.put, List.setIfInBounds_toArray, List.set_cons_zero, List.set_cons_succ]
              refine wpAnyK_take (i := 13) [14, 19, 20, 21] (v := ?v51) rfl (by kernel_rfl) (by kernel_rfl) (by kernel_rfl) (by kernel_rfl) (fun _ _ _ h => h) (Or.inl ⟨by rfl, ?hy51⟩) hH ?rest51
              case hy51 => (intro w hSw; (try dsimp only at hSw); go_simp; with_reducible rfl)
              try simp only [Act.put, List.setIfInBounds_toArray, List.set_cons_zero, List.set_cons_succ]
              refine wpAnyK_take (i := 15) [16, 17, 18, 19, 20, 21] (v := ?v52) rfl (by kernel_rfl) (by kernel_rfl) (by kernel_rfl) (by kernel_rfl) (fun _ _ _ h => h) (Or.inl ⟨by rfl, ?hy52⟩) hH ?rest52
              case hy52 => (intro w hSw; (try dsimp only at hSw); go_simp; with_reducible rfl)
              try simp only [Act.put, List.setIfInBounds_toArray, List.set_cons_zero, List.set_cons_succ]
              refine wpAnyK_take (i := 16) [17, 18, 19, 20, 21] (v := ?v53) rfl (by kernel_rfl) (by kernel_rfl) (by kernel_rfl) (by kernel_rfl) (fun _ _ _ h => h) (Or.inl ⟨by rfl, ?hy53⟩) hH ?rest53
              case hy53 => (intro w hSw; (try dsimp only at hSw); go_simp; with_reducible rfl)
              try simp only [Act.put, List.setIfInBounds_toArray, List.set_cons_zero, List.set_cons_succ]
              refine wpAnyK_take (i := 17) [18, 19, 20, 21] (v := ?v54) rfl (by kernel_rfl) (by kernel_rfl) (by kernel_rfl) (by kernel_rfl) (fun _ _ _ h => h) (Or.inl ⟨by rfl, ?hy54⟩) hH ?rest54
              case hy54 => (intro w hSw; (try dsimp only at hSw); go_simp; with_reducible rfl)
              try simp only [Act.put, List.setIfInBounds_toArray, List.set_cons_zero, List.set_cons_succ]
              refine wpAnyK_take (i := 18) [19, 20, 21] (v := ?v55) rfl (by kernel_rfl) (by kernel_rfl) (by kernel_rfl) (by kernel_rfl) (fun _ _ _ h => h) (Or.inl ⟨by rfl, ?hy55⟩) hH ?rest55
              case hy55 => (intro w hSw; (try dsimp only at hSw); go_simp; with_reducible rfl)
              try simp only [Act.put, List.setIfInBounds_toArray, List.set_cons_zero, List.set_cons_succ]
              refine wpAnyK_one (i := 11) (by kernel_rfl) rfl (fun K hK => ?_) (by kernel_rfl)
              go_simp
              go_at_call 16
              refine (used_any (H4.out.2.1.below (Below.refl _ _).drew)).mono ?_
              rintro e w6 ⟨rfl, hb6⟩
              have hb46 : Below w4.heap.size w4 w6 := (Below.refl _ _).drew.trans hb6
              have x1 := (hb46.cell (p := ⟨w.heap.size, 0, none⟩) (World.block_lt_of_cell? _ _ e1)).trans e1
              have xA := (hb46.cell (p := ⟨w.heap.size + 2, 0, none⟩) (World.block_lt_of_cell? _ _ eA)).trans eA
              have x2 := (hb46.cell (p := ⟨db, 2, none⟩) (World.block_lt_of_cell? _ _ e9)).trans e9
              refine hK.out _ _ ⟨x1, xA, x2⟩ (fun hH => ?_)
              clear hK K
              try simp only [Act.put, List.setIfInBounds_toArray, List.set_cons_zero, List.set_cons_succ]
              refine wpAnyK_take (i := 14) [19, 20, 21] (v := ?v56) rfl (by kernel_rfl) (by kernel_rfl) (by kernel_rfl) (by kernel_rfl) (fun _ _ _ h => h) (Or.inl ⟨by rfl, ?hy56⟩) hH ?rest56
              case hy56 => (intro w hSw; (try dsimp only at hSw); go_simp; with_reducible rfl)
              try simp only [Act.put, List.setIfInBounds_toArray, List.set_cons_zero, List.set_cons_succ]
              refine wpAnyK_take (i := 19) [20, 21] (v := ?v57) rfl (by kernel_rfl) (by kernel_rfl) (by kernel_rfl) (by kernel_rfl) (fun _ _ _ h => h) (Or.inl ⟨by rfl, ?hy57⟩) hH ?rest57
              case hy57 => (intro w hSw; (try dsimp only at hSw); go_simp; with_reducible rfl)
              try simp only [Act.put, List.setIfInBounds_toArray, List.set_cons_zero, List.set_cons_succ]
              refine wpAnyK_take (i := 20) [21] (v := ?v58) rfl (by kernel_rfl) (by kernel_rfl) (by kernel_rfl) (by kernel_rfl) (fun _ _ _ h => h) (Or.inl ⟨by rfl, ?hy58⟩) hH ?rest58
              case hy58 => (intro w hSw; (try dsimp only at hSw); go_simp; with_reducible rfl)
              try simp only [Act.put, List.setIfInBounds_toArray, List.set_cons_zero, List.set_cons_succ]
              refine wpAnyK_last (by kernel_rfl) rfl (fun K hK => ?_) (by kernel_rfl)
              go_simp
              refine hK.out _ _ (wpAnyK_done (by kernel_rfl) ?_ _)
              clear hK K hH y1 yA y2 e9
              have hres : D.app s data = (24, D) := by
                unfold Dk.app
                rw [H.out.2.2, HE.out.1, if_neg (by decide)]
                rw [hg]; show (if 1048576 < fd.size + data.size then ((2 : Int), D) else if 0 ≤ D.quota ∧ data.size ≠ 0 ∧ D.quota < (used D.m : Int) + data.size then (24, D) else D.act (fun m => setL m s ⟨fd ++ data, fs⟩)) = _; rw [if_neg hlong, if_pos ⟨hq, HDQ.out.2.2.2, hov⟩]
              have HR := Lib.hid (And.intro hres hb46)
              clear hres hb46
              go_wp2
              go_ret
              exact ⟨by rw [HR.out.1]; rfl, by rw [HR.out.1]; exact H4.out.2.1.below HR.out.2, Tn.ofBelow (H4.out.1.trans (HR.out.2.mono H4.out.1.size))⟩
            · have HDQ := Lib.hid (And.intro hok1 (And.intro hok2 (And.intro hfs hd0)))
              clear hde hok1 hok2 hfs hd0
              have e9 : w4.cell? ⟨db, 2, none⟩ = some (.int .i64 D.quota) := H4.out.2.1.c2
              have y1 : w4.drew.cell? ⟨w.heap.size, 0, none⟩ = some (.pointer (some ⟨db, 0, none⟩)) := e1
              have yA : w4.drew.cell? ⟨w.heap.size + 2, 0, none⟩ = some (.string data) := eA
              have y2 : w4.drew.cell? ⟨db, 2, none⟩ = some (.int .i64 D.quota) := e9
              go_wp2_with fail
              refine wp_region_K (fun w' => w'.cell? ⟨w.heap.size, 0, none⟩ = some (.pointer (some ⟨db, 0, none⟩)) ∧ w'.cell? ⟨w.heap.size + 2, 0, none⟩ = some (.string data) ∧ w'.cell? ⟨db, 2, none⟩ = some (.int .i64 D.quota)) 21 22 (by kernel_rfl) (by kernel_rfl) ⟨y1, yA, y2⟩ (fun hH => ?_)
              refine wpAnyK_take (i := 0) [1, 2, 3, 4, 5, 9, 11, 21] (v := ?v59) rfl (by kernel_rfl) (by kernel_rfl) (by kernel_rfl) (by kernel_rfl) (fun _ _ _ h => h) (Or.inl ⟨by rfl, ?hy59⟩) hH ?rest59
              case hy59 => (intro w hSw; (try dsimp only at hSw); go_simp; with_reducible rfl)
              try simp only [Act.put, List.setIfInBounds_toArray, List.set_cons_zero, List.set_cons_succ]
              refine wpAnyK_take (i := 1) [2, 3, 4, 5, 9, 11, 21] (v := ?v60) rfl (by kernel_rfl) (by kernel_rfl) (by kernel_rfl) (by kernel_rfl) (fun _ _ _ h => h) (Or.inl ⟨by rfl, ?hy60⟩) hH ?rest60
              case hy60 => (intro w hSw; (try dsimp only at hSw); go_simp; with_reducible rfl)
              try simp only [Act.put, List.setIfInBounds_toArray, List.set_cons_zero, List.set_cons_succ]
              refine wpAnyK_take (i := 2) [3, 4, 5, 9, 11, 21] (v := ?v61) rfl (by kernel_rfl) (by kernel_rfl) (by kernel_rfl) (by kernel_rfl) (fun _ _ _ h => h) (Or.inl ⟨by rfl, ?hy61⟩) hH ?rest61
              case hy61 => (intro w hSw; (try dsimp only at hSw); go_simp; with_reducible rfl)
              try simp only [Act.put, List.setIfInBounds_toArray, List.set_cons_zero, List.set_cons_succ]
              refine wpAnyK_take (i := 3) [4, 5, 9, 11, 21] (v := ?v62) rfl (by kernel_rfl) (by kernel_rfl) (by kernel_rfl) (by kernel_rfl) (fun _ _ _ h => h) (Or.inl ⟨by rfl, ?hy62⟩) hH ?rest62
              case hy62 => (intro w hSw; (try dsimp only at hSw); go_simp; with_reducible rfl)
              try simp only [Act.put, List.setIfInBounds_toArray, List.set_cons_zero, List.set_cons_succ]
              refine wpAnyK_take (i := 4) [5, 9, 11, 21] (v := ?v63) rfl (by kernel_rfl) (by kernel_rfl) (by kernel_rfl) (by kernel_rfl) (fun _ _ _ h => h) (Or.inl ⟨by rfl, ?hy63⟩) hH ?rest63
              case hy63 => (intro w hSw; (try dsimp only at hSw); go_simp; with_reducible rfl)
              try simp only [Act.put, List.setIfInBounds_toArray, List.set_cons_zero, List.set_cons_succ]
              refine wpAnyK_take (i := 5) [9, 11, 21] (v := ?v64) rfl (by kernel_rfl) (by kernel_rfl) (by kernel_rfl) (by kernel_rfl) (fun _ _ _ h => h) (Or.inl ⟨by rfl, ?hy64⟩) hH ?rest64
              case hy64 => (intro w hSw; (try dsimp only at hSw); go_simp; with_reducible rfl)
              try simp only [Act.put, List.setIfInBounds_toArray, List.set_cons_zero, List.set_cons_succ]
              refine wpAnyK_take (i := 6) [7, 8, 9, 11, 21] (v := ?v65) rfl (by kernel_rfl) (by kernel_rfl) (by kernel_rfl) (by kernel_rfl) (fun _ _ _ h => h) (Or.inl ⟨by rfl, ?hy65⟩) hH ?rest65
              case hy65 => (intro w hSw; (try dsimp only at hSw); go_simp; with_reducible rfl)
              try simp only [Act.put, List.setIfInBounds_toArray, List.set_cons_zero, List.set_cons_succ]
              refine wpAnyK_take (i := 7) [8, 9, 11, 21] (v := ?v66) rfl (by kernel_rfl) (by kernel_rfl) (by kernel_rfl) (by kernel_rfl) (fun _ _ _ h => h) (Or.inl ⟨by rfl, ?hy66⟩) hH ?rest66
              case hy66 => (intro w hSw; (try dsimp only at hSw); go_simp; with_reducible rfl)
              try simp only [Act.put, List.setIfInBounds_toArray, List.set_cons_zero, List.set_cons_succ]
              refine wpAnyK_take (i := 8) [9, 11, 21] (v := ?v67) rfl (by kernel_rfl) (by kernel_rfl) (by kernel_rfl) (by kernel_rfl) (fun _ _ _ h => h) (Or.inl ⟨by rfl, ?hy67⟩) hH ?rest67
              case hy67 => (intro w hSw; (try dsimp only at hSw); go_simp; with_reducible rfl)
              try simp only [Act.put, List.setIfInBounds_toArray, List.set_cons_zero, List.set_cons_succ]
              refine wpAnyK_take (i := 9) [11, 21] (v := ?v68) rfl (by kernel_rfl) (by kernel_rfl) (by kernel_rfl) (by kernel_rfl) (fun _ _ _ h => h) (Or.inl ⟨by rfl, ?hy68⟩) hH ?rest68
              case hy68 => (intro w hSw; (try dsimp only at hSw); go_simp; with_reducible rfl)
              try simp only [Act.put, List.setIfInBounds_toArray, List.set_cons_zero, List.set_cons_succ]
              refine wpAnyK_take (i := 10) [11, 21] (v := ?v69) rfl (by kernel_rfl) (by kernel_rfl) (by kernel_rfl) (by kernel_rfl) (fun _ _ _ h => h) (Or.inl ⟨by rfl, ?hy69⟩) hH ?rest69
              case hy69 => (intro w hSw; (try dsimp only at hSw); go_simp; with_reducible rfl)
              try simp only [Act.put, List.setIfInBounds_toArray, List.set_cons_zero, List.set_cons_succ]
              refine wpAnyK_take (i := 12) [13, 14, 19, 20, 21] (v := ?v70) rfl (by kernel_rfl) (by kernel_rfl) (by kernel_rfl) (by kernel_rfl) (fun _ _ _ h => h) (Or.inl ⟨by rfl, ?hy70⟩) hH ?rest70
              case hy70 => (intro w hSw; (try dsimp only at hSw); go_simp; with_reducible rfl)
              try simp only [Act.put, List.setIfInBounds_toArray, List.set_cons_zero, List.set_cons_succ]
              refine wpAnyK_take (i := 13) [14, 19, 20, 21] (v := ?v71) rfl (by kernel_rfl) (by kernel_rfl) (by kernel_rfl) (by kernel_rfl) (fun _ _ _ h => h) (Or.inl ⟨by rfl, ?hy71⟩) hH ?rest71
              case hy71 => (intro w hSw; (try dsimp only at hSw); go_simp; with_reducible rfl)
              try simp only [Act.put, List.setIfInBounds_toArray, List.set_cons_zero, List.set_cons_succ]
              refine wpAnyK_take (i := 15) [16, 17, 18, 19, 20, 21] (v := ?v72) rfl (by kernel_rfl) (by kernel_rfl) (by kernel_rfl) (by kernel_rfl) (fun _ _ _ h => h) (Or.inl ⟨by rfl, ?hy72⟩) hH ?rest72
              case hy72 => (intro w hSw; (try dsimp only at hSw); go_simp; with_reducible rfl)
              try simp only [Act.put, List.setIfInBounds_toArray, List.set_cons_zero, List.set_cons_succ]
              refine wpAnyK_take (i := 16) [17, 18, 19, 20, 21] (v := ?v73) rfl (by kernel_rfl) (by kernel_rfl) (by kernel_rfl) (by kernel_rfl) (fun _ _ _ h => h) (Or.inl ⟨by rfl, ?hy73⟩) hH ?rest73
              case hy73 => (intro w hSw; (try dsimp only at hSw); go_simp; with_reducible rfl)
              try simp only [Act.put, List.setIfInBounds_toArray, List.set_cons_zero, List.set_cons_succ]
              refine wpAnyK_take (i := 17) [18, 19, 20, 21] (v := ?v74) rfl (by kernel_rfl) (by kernel_rfl) (by kernel_rfl) (by kernel_rfl) (fun _ _ _ h => h) (Or.inl ⟨by rfl, ?hy74⟩) hH ?rest74
              case hy74 => (intro w hSw; (try dsimp only at hSw); go_simp; with_reducible rfl)
              try simp only [Act.put, List.setIfInBounds_toArray, List.set_cons_zero, List.set_cons_succ]
              refine wpAnyK_take (i := 18) [19, 20, 21] (v := ?v75) rfl (by kernel_rfl) (by kernel_rfl) (by kernel_rfl) (by kernel_rfl) (fun _ _ _ h => h) (Or.inl ⟨by rfl, ?hy75⟩) hH ?rest75
              case hy75 => (intro w hSw; (try dsimp only at hSw); go_simp; with_reducible rfl)
              try simp only [Act.put, List.setIfInBounds_toArray, List.set_cons_zero, List.set_cons_succ]
              refine wpAnyK_one (i := 11) (by kernel_rfl) rfl (fun K hK => ?_) (by kernel_rfl)
              go_simp
              go_at_call 16
              refine (used_any (H4.out.2.1.below (Below.refl _ _).drew)).mono ?_
              rintro e w6 ⟨rfl, hb6⟩
              have hb46 : Below w4.heap.size w4 w6 := (Below.refl _ _).drew.trans hb6
              have x1 := (hb46.cell (p := ⟨w.heap.size, 0, none⟩) (World.block_lt_of_cell? _ _ e1)).trans e1
              have xA := (hb46.cell (p := ⟨w.heap.size + 2, 0, none⟩) (World.block_lt_of_cell? _ _ eA)).trans eA
              have x2 := (hb46.cell (p := ⟨db, 2, none⟩) (World.block_lt_of_cell? _ _ e9)).trans e9
              refine hK.out _ _ ⟨x1, xA, x2⟩ (fun hH => ?_)
              clear hK K
              try simp only [Act.put, List.setIfInBounds_toArray, List.set_cons_zero, List.set_cons_succ]
              refine wpAnyK_take (i := 14) [19, 20, 21] (v := ?v76) rfl (by kernel_rfl) (by kernel_rfl) (by kernel_rfl) (by kernel_rfl) (fun _ _ _ h => h) (Or.inl ⟨by rfl, ?hy76⟩) hH ?rest76
              case hy76 => (intro w hSw; (try dsimp only at hSw); go_simp; with_reducible rfl)
              try simp only [Act.put, List.setIfInBounds_toArray, List.set_cons_zero, List.set_cons_succ]
              refine wpAnyK_take (i := 19) [20, 21] (v := ?v77) rfl (by kernel_rfl) (by kernel_rfl) (by kernel_rfl) (by kernel_rfl) (fun _ _ _ h => h) (Or.inl ⟨by rfl, ?hy77⟩) hH ?rest77
              case hy77 => (intro w hSw; (try dsimp only at hSw); go_simp; with_reducible rfl)
              try simp only [Act.put, List.setIfInBounds_toArray, List.set_cons_zero, List.set_cons_succ]
              refine wpAnyK_take (i := 20) [21] (v := ?v78) rfl (by kernel_rfl) (by kernel_rfl) (by kernel_rfl) (by kernel_rfl) (fun _ _ _ h => h) (Or.inl ⟨by rfl, ?hy78⟩) hH ?rest78
              case hy78 => (intro w hSw; (try dsimp only at hSw); go_simp; with_reducible rfl)
              try simp only [Act.put, List.setIfInBounds_toArray, List.set_cons_zero, List.set_cons_succ]
              refine wpAnyK_last (by kernel_rfl) rfl (fun K hK => ?_) (by kernel_rfl)
              go_simp
              refine hK.out _ _ (wpAnyK_done (by kernel_rfl) ?_ _)
              clear hK K hH y1 yA y2 e9
              obtain ⟨w7, hw7⟩ : ∃ w7, w6 = w7 := ⟨_, rfl⟩
              have hb47 : Below w4.heap.size w4 w7 := by rw [← hw7]; exact hb46
              rw [hw7]
              clear hw7
              have e1 := (hb47.cell (p := ⟨w.heap.size, 0, none⟩) (World.block_lt_of_cell? _ _ e1)).trans e1
              have eN := (hb47.cell (p := ⟨w.heap.size + 1, 0, none⟩) (World.block_lt_of_cell? _ _ eN)).trans eN
              have eA := (hb47.cell (p := ⟨w.heap.size + 2, 0, none⟩) (World.block_lt_of_cell? _ _ eA)).trans eA
              have hq0 := World.block_lt_of_cell? _ _ q0
              have hqf : ∀ j, w7.frozen? ⟨w2.heap.size, j, none⟩ = false := fun j => (hb47.frozen (p := ⟨w2.heap.size, j, none⟩) hq0).trans (H4.out.2.2.2.2.1 j)
              have q0 := (hb47.cell (p := ⟨w2.heap.size, 0, none⟩) (World.block_lt_of_cell? _ _ q0)).trans q0
              have q1 := (hb47.cell (p := ⟨w2.heap.size, 1, none⟩) (World.block_lt_of_cell? _ _ q1)).trans q1
              have H4' := Lib.hid (And.intro (H4.out.1.trans (hb47.mono H4.out.1.size)) (And.intro (H4.out.2.1.below hb47) (And.intro q0 (And.intro q1 (And.intro hqf (And.intro hb47 (H4.out.2.2.2.2.2.2.trans (hb47.mono H4.out.2.2.2.2.2.2.size))))))))
              have hz47 := hb47.size
              clear hb47 hqf
              have hok1 := HDQ.out.1
              have hok2 := HDQ.out.2.1
              have hres : D.app s data = D.act (fun m => setL m s ⟨fd ++ data, fs⟩) := by
                unfold Dk.app
                rw [H.out.2.2, HE.out.1, if_neg (by decide)]
                rw [hg]; show (if 1048576 < fd.size + data.size then ((2 : Int), D) else if 0 ≤ D.quota ∧ data.size ≠ 0 ∧ D.quota < (used D.m : Int) + data.size then (24, D) else D.act (fun m => setL m s ⟨fd ++ data, fs⟩)) = _; rw [if_neg hlong, if_neg (fun h => by have := h.2.2; omega)]
              have HR := Lib.hid hres
              clear hres
              have h4 : DkAt (fun q => F q ∨ q = w2.heap.size) w7 db mb D := H22.out.2.2.1.more (fun q hq => .inl hq) (fun q hq => hq.elim .inl (fun e => .inr (by omega))) (fun q hq => hq.elim (fun h => Nat.lt_of_lt_of_le (H22.out.2.2.1.lt q h) (by have := H4.out.2.2.2.2.2.1; omega)) (fun e => by have := H4.out.2.2.2.2.2.1; omega)) H4'.out.2.2.2.2.2.2
              have n0 : ∀ k, ¬ two db mb (w.heap.size + k) := fun k hq => by
                have := H.out.1.m.lt
                rcases hq with e | e <;> omega
              have nF : ¬ two db mb w2.heap.size := fun hq => by
                have := H.out.1.m.lt
                have := H22.out.2.2.2
                rcases hq with e | e <;> omega
              have hd : Does (fun q => F q ∨ q = w2.heap.size) (fun q => q = w2.heap.size) 32 #[.pointer (some ⟨w2.heap.size, 0, none⟩), .pointer (some ⟨w.heap.size + 2, 0, none⟩), .pointer (some ⟨w.heap.size, 0, none⟩), .pointer (some ⟨w.heap.size + 1, 0, none⟩)] w7 db mb D (fun m => setL m s ⟨fd ++ data, fs⟩) := append1_does e1 eN q0 q1 H4'.out.2.2.2.2.1 eA (n0 0) (n0 1) nF (n0 2) (by have := H22.out.2.2.2; omega) (by have := H22.out.2.2.2; omega) (.inr rfl) HE.out.2 (by rw [hg]; rfl) ⟨hok1, hok2⟩
              have HD := Lib.hid (And.intro h4 hd)
              clear h4 hd n0 nF g1 g3 gN gA
              go_wp2_with fail
              refine (act_any HD.out.1 H.out.2.1 ha (enters_of Tryd.func32 (by kernel_rfl) rfl) HD.out.2).mono ?_
              rintro e w5 ⟨rfl, hd5, ht5⟩
              have H5 := Lib.hid (And.intro hd5 ht5)
              clear hd5 ht5
              go_wp2
              go_ret
              refine ⟨by rw [HR.out]; rfl, ?_, (Tn.ofBelow H4'.out.1).andThen H5.out.2 (fun q hq => ?_)⟩
              · rw [HR.out]
                exact H5.out.1.less (fun q hq => .inl hq) H.out.1.fd H.out.1.fm
              · rcases hq with hq | hq
                · exact .inl hq
                · exact .inr (by have := H22.out.2.2.2; omega)
        · have HDQ := Lib.hid (And.intro hok1 (And.intro hok2 hfs))
          have hqf : decide (0 ≤ D.quota) = false := decide_eq_false hq
          have HNQ := Lib.hid hq
          clear hde hok1 hok2 hfs hq
          have e9 : w4.cell? ⟨db, 2, none⟩ = some (.int .i64 D.quota) := H4.out.2.1.c2
          have y1 : w4.drew.cell? ⟨w.heap.size, 0, none⟩ = some (.pointer (some ⟨db, 0, none⟩)) := e1
          have yA : w4.drew.cell? ⟨w.heap.size + 2, 0, none⟩ = some (.string data) := eA
          have y2 : w4.drew.cell? ⟨db, 2, none⟩ = some (.int .i64 D.quota) := e9
          go_wp2_with fail
          refine wp_region_K (fun w' => w'.cell? ⟨w.heap.size, 0, none⟩ = some (.pointer (some ⟨db, 0, none⟩)) ∧ w'.cell? ⟨w.heap.size + 2, 0, none⟩ = some (.string data) ∧ w'.cell? ⟨db, 2, none⟩ = some (.int .i64 D.quota)) 21 22 (by kernel_rfl) (by kernel_rfl) ⟨y1, yA, y2⟩ (fun hH => ?_)
          refine wpAnyK_take (i := 0) [1, 2, 3, 4, 5, 9, 11, 21] (v := ?v79) rfl (by kernel_rfl) (by kernel_rfl) (by kernel_rfl) (by kernel_rfl) (fun _ _ _ h => h) (Or.inl ⟨by rfl, ?hy79⟩) hH ?rest79
          case hy79 => (intro w hSw; (try dsimp only at hSw); go_simp; with_reducible rfl)
          try simp only [Act.put, List.setIfInBounds_toArray, List.set_cons_zero, List.set_cons_succ]
          refine wpAnyK_take (i := 1) [2, 3, 4, 5, 9, 11, 21] (v := ?v80) rfl (by kernel_rfl) (by kernel_rfl) (by kernel_rfl) (by kernel_rfl) (fun _ _ _ h => h) (Or.inl ⟨by rfl, ?hy80⟩) hH ?rest80
          case hy80 => (intro w hSw; (try dsimp only at hSw); go_simp; with_reducible rfl)
          try simp only [Act.put, List.setIfInBounds_toArray, List.set_cons_zero, List.set_cons_succ]
          refine wpAnyK_take (i := 2) [3, 4, 5, 9, 11, 21] (v := ?v81) rfl (by kernel_rfl) (by kernel_rfl) (by kernel_rfl) (by kernel_rfl) (fun _ _ _ h => h) (Or.inl ⟨by rfl, ?hy81⟩) hH ?rest81
          case hy81 => (intro w hSw; (try dsimp only at hSw); go_simp; with_reducible rfl)
          try simp only [Act.put, List.setIfInBounds_toArray, List.set_cons_zero, List.set_cons_succ]
          refine wpAnyK_take (i := 3) [4, 5, 9, 11, 21] (v := ?v82) rfl (by kernel_rfl) (by kernel_rfl) (by kernel_rfl) (by kernel_rfl) (fun _ _ _ h => h) (Or.inl ⟨by rfl, ?hy82⟩) hH ?rest82
          case hy82 => (intro w hSw; (try dsimp only at hSw); go_simp; with_reducible rfl)
          try simp only [Act.put, List.setIfInBounds_toArray, List.set_cons_zero, List.set_cons_succ]
          refine wpAnyK_take (i := 4) [5, 9, 11, 21] (v := ?v83) rfl (by kernel_rfl) (by kernel_rfl) (by kernel_rfl) (by kernel_rfl) (fun _ _ _ h => h) (Or.inl ⟨by rfl, ?hy83⟩) hH ?rest83
          case hy83 => (intro w hSw; (try dsimp only at hSw); go_simp; with_reducible rfl)
          try simp only [Act.put, List.setIfInBounds_toArray, List.set_cons_zero, List.set_cons_succ]
          refine wpAnyK_take (i := 5) [9, 11, 21] (v := ?v84) rfl (by kernel_rfl) (by kernel_rfl) (by kernel_rfl) (by kernel_rfl) (fun _ _ _ h => h) (Or.inl ⟨by rfl, ?hy84⟩) hH ?rest84
          case hy84 => (intro w hSw; (try dsimp only at hSw); go_simp; with_reducible rfl)
          try simp only [Act.put, List.setIfInBounds_toArray, List.set_cons_zero, List.set_cons_succ]
          refine wpAnyK_take (i := 6) [7, 8, 9, 11, 21] (v := undef) rfl (by kernel_rfl) (by kernel_rfl) (by kernel_rfl) (by kernel_rfl) (fun _ _ _ h => h) (Or.inr ⟨by rfl, rfl⟩) hH ?rest85
          try simp only [Act.put, List.setIfInBounds_toArray, List.set_cons_zero, List.set_cons_succ]
          refine wpAnyK_take (i := 7) [8, 9, 11, 21] (v := undef) rfl (by kernel_rfl) (by kernel_rfl) (by kernel_rfl) (by kernel_rfl) (fun _ _ _ h => h) (Or.inr ⟨by rfl, rfl⟩) hH ?rest86
          try simp only [Act.put, List.setIfInBounds_toArray, List.set_cons_zero, List.set_cons_succ]
          refine wpAnyK_take (i := 8) [9, 11, 21] (v := ?v87) rfl (by kernel_rfl) (by kernel_rfl) (by kernel_rfl) (by kernel_rfl) (fun _ _ _ h => h) (Or.inl ⟨by rfl, ?hy87⟩) hH ?rest87
          case hy87 => (intro w hSw; (try dsimp only at hSw); go_simp; with_reducible rfl)
          try simp only [Act.put, List.setIfInBounds_toArray, List.set_cons_zero, List.set_cons_succ]
          refine wpAnyK_take (i := 9) [11, 21] (v := ?v88) rfl (by kernel_rfl) (by kernel_rfl) (by kernel_rfl) (by kernel_rfl) (fun _ _ _ h => h) (Or.inl ⟨by rfl, ?hy88⟩) hH ?rest88
          case hy88 => (intro w hSw; (try dsimp only at hSw); go_simp; with_reducible rfl)
          try simp only [Act.put, List.setIfInBounds_toArray, List.set_cons_zero, List.set_cons_succ]
          refine wpAnyK_take (i := 10) [11, 21] (v := undef) rfl (by kernel_rfl) (by kernel_rfl) (by kernel_rfl) (by kernel_rfl) (fun _ _ _ h => h) (Or.inr ⟨by rfl, rfl⟩) hH ?rest89
          try simp only [Act.put, List.setIfInBounds_toArray, List.set_cons_zero, List.set_cons_succ]
          refine wpAnyK_take (i := 12) [13, 14, 19, 20, 21] (v := undef) rfl (by kernel_rfl) (by kernel_rfl) (by kernel_rfl) (by kernel_rfl) (fun _ _ _ h => h) (Or.inr ⟨by rfl, rfl⟩) hH ?rest90
          try simp only [Act.put, List.setIfInBounds_toArray, List.set_cons_zero, List.set_cons_succ]
          refine wpAnyK_take (i := 13) [14, 19, 20, 21] (v := undef) rfl (by kernel_rfl) (by kernel_rfl) (by kernel_rfl) (by kernel_rfl) (fun _ _ _ h => h) (Or.inr ⟨by rfl, rfl⟩) hH ?rest91
          try simp only [Act.put, List.setIfInBounds_toArray, List.set_cons_zero, List.set_cons_succ]
          refine wpAnyK_take (i := 15) [16, 17, 18, 19, 20, 21] (v := undef) rfl (by kernel_rfl) (by kernel_rfl) (by kernel_rfl) (by kernel_rfl) (fun _ _ _ h => h) (Or.inr ⟨by rfl, rfl⟩) hH ?rest92
          try simp only [Act.put, List.setIfInBounds_toArray, List.set_cons_zero, List.set_cons_succ]
          refine wpAnyK_take (i := 16) [17, 18, 19, 20, 21] (v := undef) rfl (by kernel_rfl) (by kernel_rfl) (by kernel_rfl) (by kernel_rfl) (fun _ _ _ h => h) (Or.inr ⟨by rfl, rfl⟩) hH ?rest93
          try simp only [Act.put, List.setIfInBounds_toArray, List.set_cons_zero, List.set_cons_succ]
          refine wpAnyK_take (i := 17) [18, 19, 20, 21] (v := undef) rfl (by kernel_rfl) (by kernel_rfl) (by kernel_rfl) (by kernel_rfl) (fun _ _ _ h => h) (Or.inr ⟨by rfl, rfl⟩) hH ?rest94
          try simp only [Act.put, List.setIfInBounds_toArray, List.set_cons_zero, List.set_cons_succ]
          refine wpAnyK_take (i := 18) [19, 20, 21] (v := undef) rfl (by kernel_rfl) (by kernel_rfl) (by kernel_rfl) (by kernel_rfl) (fun _ _ _ h => h) (Or.inr ⟨by rfl, rfl⟩) hH ?rest95
          try simp only [Act.put, List.setIfInBounds_toArray, List.set_cons_zero, List.set_cons_succ]
          refine wpAnyK_one (i := 11) (by kernel_rfl) rfl (fun K hK => ?_) (by kernel_rfl)
          go_simp
          refine hK.out _ _ hH (fun hH => ?_)
          clear hK K
          try simp only [Act.put, List.setIfInBounds_toArray, List.set_cons_zero, List.set_cons_succ]
          refine wpAnyK_take (i := 14) [19, 20, 21] (v := undef) rfl (by kernel_rfl) (by kernel_rfl) (by kernel_rfl) (by kernel_rfl) (fun _ _ _ h => h) (Or.inr ⟨by rfl, rfl⟩) hH ?rest96
          try simp only [Act.put, List.setIfInBounds_toArray, List.set_cons_zero, List.set_cons_succ]
          refine wpAnyK_take (i := 19) [20, 21] (v := undef) rfl (by kernel_rfl) (by kernel_rfl) (by kernel_rfl) (by kernel_rfl) (fun _ _ _ h => h) (Or.inr ⟨by rfl, rfl⟩) hH ?rest97
          try simp only [Act.put, List.setIfInBounds_toArray, List.set_cons_zero, List.set_cons_succ]
          refine wpAnyK_take (i := 20) [21] (v := ?v98) rfl (by kernel_rfl) (by kernel_rfl) (by kernel_rfl) (by kernel_rfl) (fun _ _ _ h => h) (Or.inl ⟨by rfl, ?hy98⟩) hH ?rest98
          case hy98 => (intro w hSw; (try dsimp only at hSw); go_simp; with_reducible rfl)
          try simp only [Act.put, List.setIfInBounds_toArray, List.set_cons_zero, List.set_cons_succ]
          refine wpAnyK_last (by kernel_rfl) rfl (fun K hK => ?_) (by kernel_rfl)
          go_simp
          refine hK.out _ _ (wpAnyK_done (by kernel_rfl) ?_ _)
          clear hK K hH y1 yA y2 e9
          obtain ⟨w7, hw7⟩ : ∃ w7, w4.drew = w7 := ⟨_, rfl⟩
          have hb47 : Below w4.heap.size w4 w7 := by rw [← hw7]; exact (Below.refl _ _).drew
          rw [hw7]
          clear hw7
          have e1 := (hb47.cell (p := ⟨w.heap.size, 0, none⟩) (World.block_lt_of_cell? _ _ e1)).trans e1
          have eN := (hb47.cell (p := ⟨w.heap.size + 1, 0, none⟩) (World.block_lt_of_cell? _ _ eN)).trans eN
          have eA := (hb47.cell (p := ⟨w.heap.size + 2, 0, none⟩) (World.block_lt_of_cell? _ _ eA)).trans eA
          have hq0 := World.block_lt_of_cell? _ _ q0
          have hqf : ∀ j, w7.frozen? ⟨w2.heap.size, j, none⟩ = false := fun j => (hb47.frozen (p := ⟨w2.heap.size, j, none⟩) hq0).trans (H4.out.2.2.2.2.1 j)
          have q0 := (hb47.cell (p := ⟨w2.heap.size, 0, none⟩) (World.block_lt_of_cell? _ _ q0)).trans q0
          have q1 := (hb47.cell (p := ⟨w2.heap.size, 1, none⟩) (World.block_lt_of_cell? _ _ q1)).trans q1
          have H4' := Lib.hid (And.intro (H4.out.1.trans (hb47.mono H4.out.1.size)) (And.intro (H4.out.2.1.below hb47) (And.intro q0 (And.intro q1 (And.intro hqf (And.intro hb47 (H4.out.2.2.2.2.2.2.trans (hb47.mono H4.out.2.2.2.2.2.2.size))))))))
          have hz47 := hb47.size
          clear hb47 hqf
          have hok1 := HDQ.out.1
          have hok2 := HDQ.out.2.1
          have hres : D.app s data = D.act (fun m => setL m s ⟨fd ++ data, fs⟩) := by
            unfold Dk.app
            rw [H.out.2.2, HE.out.1, if_neg (by decide)]
            rw [hg]; show (if 1048576 < fd.size + data.size then ((2 : Int), D) else if 0 ≤ D.quota ∧ data.size ≠ 0 ∧ D.quota < (used D.m : Int) + data.size then (24, D) else D.act (fun m => setL m s ⟨fd ++ data, fs⟩)) = _; rw [if_neg hlong, if_neg (fun h => by have := h.1; have := HNQ.out; omega)]
          have HR := Lib.hid hres
          clear hres
          have h4 : DkAt (fun q => F q ∨ q = w2.heap.size) w7 db mb D := H22.out.2.2.1.more (fun q hq => .inl hq) (fun q hq => hq.elim .inl (fun e => .inr (by omega))) (fun q hq => hq.elim (fun h => Nat.lt_of_lt_of_le (H22.out.2.2.1.lt q h) (by have := H4.out.2.2.2.2.2.1; omega)) (fun e => by have := H4.out.2.2.2.2.2.1; omega)) H4'.out.2.2.2.2.2.2
          have n0 : ∀ k, ¬ two db mb (w.heap.size + k) := fun k hq => by
            have := H.out.1.m.lt
            rcases hq with e | e <;> omega
          have nF : ¬ two db mb w2.heap.size := fun hq => by
            have := H.out.1.m.lt
            have := H22.out.2.2.2
            rcases hq with e | e <;> omega
          have hd : Does (fun q => F q ∨ q = w2.heap.size) (fun q => q = w2.heap.size) 32 #[.pointer (some ⟨w2.heap.size, 0, none⟩), .pointer (some ⟨w.heap.size + 2, 0, none⟩), .pointer (some ⟨w.heap.size, 0, none⟩), .pointer (some ⟨w.heap.size + 1, 0, none⟩)] w7 db mb D (fun m => setL m s ⟨fd ++ data, fs⟩) := append1_does e1 eN q0 q1 H4'.out.2.2.2.2.1 eA (n0 0) (n0 1) nF (n0 2) (by have := H22.out.2.2.2; omega) (by have := H22.out.2.2.2; omega) (.inr rfl) HE.out.2 (by rw [hg]; rfl) ⟨hok1, hok2⟩
          have HD := Lib.hid (And.intro h4 hd)
          clear h4 hd n0 nF g1 g3 gN gA
          go_wp2_with fail
          refine (act_any HD.out.1 H.out.2.1 ha (enters_of Tryd.func32 (by kernel_rfl) rfl) HD.out.2).mono ?_
          rintro e w5 ⟨rfl, hd5, ht5⟩
          have H5 := Lib.hid (And.intro hd5 ht5)
          clear hd5 ht5
          go_wp2
          go_ret
          refine ⟨by rw [HR.out]; rfl, ?_, (Tn.ofBelow H4'.out.1).andThen H5.out.2 (fun q hq => ?_)⟩
          · rw [HR.out]
            exact H5.out.1.less (fun q hq => .inl hq) H.out.1.fd H.out.1.fm
          · rcases hq with hq | hq
            · exact .inl hq
            · exact .inr (by have := H22.out.2.2.2; omega)
end Go.Proofs.YtjhajlfkiafhgaaDoor
