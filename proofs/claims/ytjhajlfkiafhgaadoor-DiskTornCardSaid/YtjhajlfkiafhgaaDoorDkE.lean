/-
  Disk: an act whose fuse holds.
-/
import Derived.Test.YtjhajlfkiafhgaaDoorDkD
import Derived.IntWalk
namespace Go.Proofs.YtjhajlfkiafhgaaDoor
open Go.RowKit
variable {F G : Nat → Prop} {w w' : World} {db mb : Nat} {D D' : Dk}

/-- The fuse that is there behind an act. -/
def Dk.less (D : Dk) : Option Fz := match D.fuse with
  | none => none
  | some z => some ⟨z.n - 1, z.cuts, z.flip⟩
theorem Dk.act_live (D : Dk) (f : Fm → Fm) (h : ∀ z, D.fuse = some z → z.n ≠ 0) : D.act f = (0, { D with m := f D.m, fuse := D.less, acts := D.acts + 1 }) := by
  unfold Dk.act Dk.less
  cases hz : D.fuse with
  | none => simp only [hz]
  | some z =>
    obtain ⟨n, cuts, flip⟩ := z
    cases n with
    | zero => exact absurd rfl (h _ hz)
    | succ n => rfl

/-- The disk behind stores into its own block. -/
theorem DkAt.store (h : DkAt F w db mb D) (ht : Tn (two db mb) w w') (c0 : w'.cell? ⟨db, 0, none⟩ = some (.map (some mb))) (c1 : w'.cell? ⟨db, 1, none⟩ = some (.bool D'.on)) (c2 : w'.cell? ⟨db, 2, none⟩ = some (.int .i64 D'.quota))
    (c3 : ∃ p, w'.cell? ⟨db, 3, none⟩ = some p ∧ FzAt F w' D'.fuse p) (c4 : w'.cell? ⟨db, 4, none⟩ = some (.int .i64 (D'.acts : Int))) (m : MapL ckN cvF w' mb D'.m) (fz : ∀ j, w'.frozen? ⟨db, j, none⟩ = false) (ok : D'.Ok) : DkAt F w' db mb D' :=
  ⟨c0, c1, c2, c3, c4, m, fz, ok, h.ne, h.fd, h.fm, fun q hq => Nat.lt_of_lt_of_le (h.lt q hq) ht.size⟩
theorem two_F (h : DkAt F w db mb D) : ∀ q, two db mb q → F q := fun q hq => hq.elim (fun e => e ▸ h.fd) (fun e => e ▸ h.fm)
/-- One cell of it is stored into. -/
theorem cell_set {w : World} {b i j : Nat} {v u : Value} (h : w.cell? ⟨b, j, none⟩ = some u) (hij : i ≠ j) : (w.setCell ⟨b, i, none⟩ v).cell? ⟨b, j, none⟩ = some u := by
  rw [World.cell?_setCell_other _ _ _ _ (by intro e; injection e with _ e2; exact hij e2)]
  exact h
theorem DkAt.set4 (h : DkAt F w db mb D) {n : Nat} (hn : n ≤ 1000000) : DkAt F (w.setCell ⟨db, 4, none⟩ (.int .i64 (n : Int))) db mb { D with acts := n } := by
  have ht : Tn (two db mb) w (w.setCell ⟨db, 4, none⟩ (.int .i64 (n : Int))) := Tn.setCell _ _ _ (.inl rfl)
  obtain ⟨p, hp, hz⟩ := h.c3
  refine h.store (D' := { D with acts := n }) ht (cell_set h.c0 (by omega)) (cell_set h.c1 (by omega)) (cell_set h.c2 (by omega)) ⟨p, cell_set hp (by omega), hz.tn ht (fun q _ hq => two_F h q hq)⟩ (World.cell?_setCell_same _ _ _ h.c4)
    (h.m.tn (Tn.setCell (F := fun q => q = db) _ _ _ rfl) (fun e => h.ne e.symm)) (fun j => by rw [World.frozen?_setCell]; exact h.fz j) ⟨h.ok.nam, h.ok.syn, h.ok.few, hn, h.ok.quota, h.ok.fuse⟩
theorem DkAt.set3 (h : DkAt F w db mb D) {z : Option Fz} {p : Value} (hz : FzAt F (w.setCell ⟨db, 3, none⟩ p) z p) (hok : ∀ y, z = some y → y.n ≤ 9223372036854775807 ∧ y.cuts.length ≤ 1000000) : DkAt F (w.setCell ⟨db, 3, none⟩ p) db mb { D with fuse := z } := by
  have ht : Tn (two db mb) w (w.setCell ⟨db, 3, none⟩ p) := Tn.setCell _ _ _ (.inl rfl)
  obtain ⟨p0, hp0, _⟩ := h.c3
  refine h.store (D' := { D with fuse := z }) ht (cell_set h.c0 (by omega)) (cell_set h.c1 (by omega)) (cell_set h.c2 (by omega)) ⟨p, World.cell?_setCell_same _ _ _ hp0, hz⟩ (cell_set h.c4 (by omega))
    (h.m.tn (Tn.setCell (F := fun q => q = db) _ _ _ rfl) (fun e => h.ne e.symm)) (fun j => by rw [World.frozen?_setCell]; exact h.fz j) ⟨h.ok.nam, h.ok.syn, h.ok.few, h.ok.acts, h.ok.quota, hok⟩
theorem DkAt.set2 (h : DkAt F w db mb D) {n : Int} (hn : -1 ≤ n ∧ n ≤ 9223372036854775807) : DkAt F (w.setCell ⟨db, 2, none⟩ (.int .i64 n)) db mb { D with quota := n } := by
  have ht : Tn (two db mb) w (w.setCell ⟨db, 2, none⟩ (.int .i64 n)) := Tn.setCell _ _ _ (.inl rfl)
  obtain ⟨p, hp, hz⟩ := h.c3
  refine h.store (D' := { D with quota := n }) ht (cell_set h.c0 (by omega)) (cell_set h.c1 (by omega)) (World.cell?_setCell_same _ _ _ h.c2) ⟨p, cell_set hp (by omega), hz.tn ht (fun q _ hq => two_F h q hq)⟩ (cell_set h.c4 (by omega))
    (h.m.tn (Tn.setCell (F := fun q => q = db) _ _ _ rfl) (fun e => h.ne e.symm)) (fun j => by rw [World.frozen?_setCell]; exact h.fz j) ⟨h.ok.nam, h.ok.syn, h.ok.few, h.ok.acts, hn, h.ok.fuse⟩
theorem DkAt.set1 (h : DkAt F w db mb D) (b : Bool) : DkAt F (w.setCell ⟨db, 1, none⟩ (.bool b)) db mb { D with on := b } := by
  have ht : Tn (two db mb) w (w.setCell ⟨db, 1, none⟩ (.bool b)) := Tn.setCell _ _ _ (.inl rfl)
  obtain ⟨p, hp, hz⟩ := h.c3
  refine h.store (D' := { D with on := b }) ht (cell_set h.c0 (by omega)) (World.cell?_setCell_same _ _ _ h.c1) (cell_set h.c2 (by omega)) ⟨p, cell_set hp (by omega), hz.tn ht (fun q _ hq => two_F h q hq)⟩ (cell_set h.c4 (by omega))
    (h.m.tn (Tn.setCell (F := fun q => q = db) _ _ _ rfl) (fun e => h.ne e.symm)) (fun j => by rw [World.frozen?_setCell]; exact h.fz j) ⟨h.ok.nam, h.ok.syn, h.ok.few, h.ok.acts, h.ok.quota, h.ok.fuse⟩
/-- Its map turns. -/
theorem DkAt.setM (h : DkAt F w db mb D) {m : Fm} (ht : Tn (fun q => q = mb) w w') (hm : MapL ckN cvF w' mb m) (hok : ({ D with m := m } : Dk).Ok) : DkAt F w' db mb { D with m := m } := by
  have hd : ¬ (db = mb) := h.ne
  obtain ⟨p, hp, hz⟩ := h.c3
  exact h.store (D' := { D with m := m }) (ht.mono (fun q hq => .inr hq)) (ht.cell h.c0 hd) (ht.cell h.c1 hd) (ht.cell h.c2 hd) ⟨p, ht.cell hp hd, hz.tn ht (fun q _ hq => hq ▸ h.fm)⟩ (ht.cell h.c4 hd) hm
    (fun j => (ht.frozen (p := ⟨db, j, none⟩) h.ltd hd).trans (h.fz j)) hok

/-- What is done: a function without arguments, and what it makes of the files. -/
def Does (F G : Nat → Prop) (K : FuncId) (caps : Array Value) (w : World) (db mb : Nat) (D : Dk) (f : Fm → Fm) : Prop :=
  ∀ w1 D1, DkAt F w1 db mb D1 → Tn (two db mb) w w1 → D1.m = D.m → Calls Tryd.prog K caps w1 fun e w2 => e = .returned (.tuple #[]) ∧ DkAt F w2 db mb { D1 with m := f D1.m } ∧ Tn (fun q => two db mb q ∨ G q) w1 w2

theorem two_l (G : Nat → Prop) : ∀ q, two db mb q → two db mb q ∨ G q := fun _ h => .inl h

set_option maxRecDepth 100000 in
set_option maxHeartbeats 2000000 in
theorem act_live (h : DkAt F w db mb D) (hz : ∀ z, D.fuse = some z → z.n ≠ 0) (ha : D.acts < 1000000) {fk : FuncId} {caps : Array Value} {f : Fm → Fm} (eg : ∀ args w, (callFunc fk args).run Tryd.prog w = .ok (.enter fk args) w) (hdo : Does F G fk caps w db mb D f) :
    Calls Tryd.prog 29 #[.pointer (some ⟨db, 0, none⟩), .func (.func fk) #[] caps] w fun e w' => e = .returned (.int .i64 0) ∧ DkAt F w' db mb (D.act f).2 ∧ Tn (fun q => two db mb q ∨ G q) w w' := by
  have HD := Lib.hid hdo
  have HA := Lib.hid (D.act_live f hz)
  obtain ⟨p, hp, hzp⟩ := h.c3
  have H := Lib.hid h
  clear hdo
  cases hfz : D.fuse with
  | none =>
    rw [hfz] at hzp
    obtain rfl : p = .pointer none := hzp
    have HZ := Lib.hid hfz
    clear h hz hfz
    go_enter Tryd.func29, Tryd.ntmps29
    go_wp2_with fail
    refine (HD.out w D H.out (Tn.refl _ _) rfl).mono ?_
    rintro e w2 ⟨rfl, hd2, ht2⟩
    have k4 := hd2.c4
    have f4 := hd2.fz 4
    have H2 := Lib.hid (And.intro hd2 ht2)
    have r1 : (D.acts : Int) < 1000000 := by omega
    simp only at k4
    clear hd2 ht2
    go_wp2
    go_ret
    refine ⟨rfl, ?_, H2.out.2.trans (Tn.setCell _ _ _ (.inl (.inl rfl)))⟩
    rw [HA.out]
    have h3 := H2.out.1.set4 (n := D.acts + 1) (by omega)
    have e1 : D.less = D.fuse := by unfold Dk.less; rw [HZ.out]
    rw [e1]
    exact h3
  | some z =>
    rw [hfz] at hzp
    obtain ⟨fb, v, rfl, hfF, hfl, q0, q1, q2, hrd⟩ := hzp
    have hzn := hz z hfz
    have hzb := h.ok.fuse z hfz
    obtain ⟨av, cv, hv, hrv⟩ := hrd
    obtain ⟨vl, hvl⟩ : ∃ vl, z.cuts.length = vl := ⟨_, rfl⟩
    rw [hvl] at hv
    subst hv
    obtain ⟨n, hn⟩ : ∃ n, z.n = n := ⟨_, rfl⟩
    obtain ⟨fl, hfl2⟩ : ∃ fl, z.flip = fl := ⟨_, rfl⟩
    rw [hn] at q0 hzn hzb
    rw [hfl2] at q2
    have HZ := Lib.hid (And.intro hfz (And.intro hvl (And.intro hrv (And.intro hn (And.intro hfl2 hfF)))))
    have fd3 := h.fz 3
    have r1 : ((n : Int) == 0) = false := beq_eq_false_iff_ne.2 (by omega)
    have r2 : 0 ≤ (n : Int) - 1 := by omega
    have r3 : (n : Int) ≤ 9223372036854775807 := by omega
    clear h hz hfz hvl hrv hn hfl2 hzn hzb hfF
    go_enter Tryd.func29, Tryd.ntmps29
    go_wp2_with fail
    have kd0 : w.drew.cell? ⟨fb, 0, none⟩ = some (.int .i64 (n : Int)) := q0
    have kd1 : w.drew.cell? ⟨fb, 1, none⟩ = some (.slice av vl cv) := q1
    have kd2 : w.drew.cell? ⟨fb, 2, none⟩ = some (.int .i64 fl) := q2
    have hw1 : IntKind.i64.wrap ((n : Int) - 1) = (n : Int) - 1 := IntWalk.i64_in _ (by omega)
    refine wp_region_K (fun w' => w'.cell? ⟨fb, 0, none⟩ = some (.int .i64 (n : Int)) ∧ w'.cell? ⟨fb, 1, none⟩ = some (.slice av vl cv) ∧ w'.cell? ⟨fb, 2, none⟩ = some (.int .i64 fl)) 18 19 (by kernel_rfl) (by kernel_rfl) ⟨kd0, kd1, kd2⟩ (fun hH => ?_)
    refine wpAnyK_take (i := 0) [18] (v := ?v1) rfl (by kernel_rfl) (by kernel_rfl) (by kernel_rfl) (by kernel_rfl) (fun _ _ _ h => h) (Or.inl ⟨by rfl, ?hy1⟩) hH ?rest1
    case hy1 => (intro w hSw; (try dsimp only at hSw); go_simp; with_reducible rfl)
    try simp only [Act.put, List.setIfInBounds_toArray, List.set_cons_zero, List.set_cons_succ]
    refine wpAnyK_take (i := 1) [18] (v := ?v2) rfl (by kernel_rfl) (by kernel_rfl) (by kernel_rfl) (by kernel_rfl) (fun _ _ _ h => h) (Or.inl ⟨by rfl, ?hy2⟩) hH ?rest2
    case hy2 => (intro w hSw; (try dsimp only at hSw); go_simp; with_reducible rfl)
    try simp only [Act.put, List.setIfInBounds_toArray, List.set_cons_zero, List.set_cons_succ]
    refine wpAnyK_take (i := 2) [18] (v := ?v3) rfl (by kernel_rfl) (by kernel_rfl) (by kernel_rfl) (by kernel_rfl) (fun _ _ _ h => h) (Or.inl ⟨by rfl, ?hy3⟩) hH ?rest3
    case hy3 => (intro w hSw; (try dsimp only at hSw); go_simp; with_reducible rfl)
    try simp only [Act.put, List.setIfInBounds_toArray, List.set_cons_zero, List.set_cons_succ]
    refine wpAnyK_take (i := 3) [18] (v := ?v4) rfl (by kernel_rfl) (by kernel_rfl) (by kernel_rfl) (by kernel_rfl) (fun _ _ _ h => h) (Or.inl ⟨by rfl, ?hy4⟩) hH ?rest4
    case hy4 => (intro w hSw; (try dsimp only at hSw); go_simp; with_reducible rfl)
    try simp only [Act.put, List.setIfInBounds_toArray, List.set_cons_zero, List.set_cons_succ]
    refine wpAnyK_take (i := 4) [18] (v := ?v5) rfl (by kernel_rfl) (by kernel_rfl) (by kernel_rfl) (by kernel_rfl) (fun _ _ _ h => h) (Or.inl ⟨by rfl, ?hy5⟩) hH ?rest5
    case hy5 => (intro w hSw; (try dsimp only at hSw); go_simp; with_reducible rfl)
    try simp only [Act.put, List.setIfInBounds_toArray, List.set_cons_zero, List.set_cons_succ]
    refine wpAnyK_take (i := 5) [18] (v := ?v6) rfl (by kernel_rfl) (by kernel_rfl) (by kernel_rfl) (by kernel_rfl) (fun _ _ _ h => h) (Or.inl ⟨by rfl, ?hy6⟩) hH ?rest6
    case hy6 => (intro w hSw; (try dsimp only at hSw); go_simp; with_reducible rfl)
    try simp only [Act.put, List.setIfInBounds_toArray, List.set_cons_zero, List.set_cons_succ]
    refine wpAnyK_take (i := 6) [18] (v := ?v7) rfl (by kernel_rfl) (by kernel_rfl) (by kernel_rfl) (by kernel_rfl) (fun _ _ _ h => h) (Or.inl ⟨by rfl, ?hy7⟩) hH ?rest7
    case hy7 => (intro w hSw; (try dsimp only at hSw); go_simp; with_reducible rfl)
    try simp only [Act.put, List.setIfInBounds_toArray, List.set_cons_zero, List.set_cons_succ]
    refine wpAnyK_take (i := 7) [18] (v := ?v8) rfl (by kernel_rfl) (by kernel_rfl) (by kernel_rfl) (by kernel_rfl) (fun _ _ _ h => h) (Or.inl ⟨by rfl, ?hy8⟩) hH ?rest8
    case hy8 => (intro w hSw; (try dsimp only at hSw); go_simp; with_reducible rfl)
    try simp only [Act.put, List.setIfInBounds_toArray, List.set_cons_zero, List.set_cons_succ]
    refine wpAnyK_take (i := 8) [18] (v := ?v9) rfl (by kernel_rfl) (by kernel_rfl) (by kernel_rfl) (by kernel_rfl) (fun _ _ _ h => h) (Or.inl ⟨by rfl, ?hy9⟩) hH ?rest9
    case hy9 => (intro w hSw; (try dsimp only at hSw); go_simp; with_reducible rfl)
    try simp only [Act.put, List.setIfInBounds_toArray, List.set_cons_zero, List.set_cons_succ]
    refine wpAnyK_take (i := 9) [18] (v := ?v10) rfl (by kernel_rfl) (by kernel_rfl) (by kernel_rfl) (by kernel_rfl) (fun _ _ _ h => h) (Or.inl ⟨by rfl, ?hy10⟩) hH ?rest10
    case hy10 => (intro w hSw; (try dsimp only at hSw); go_simp; with_reducible rfl)
    try simp only [Act.put, List.setIfInBounds_toArray, List.set_cons_zero, List.set_cons_succ]
    refine wpAnyK_take (i := 10) [18] (v := ?v11) rfl (by kernel_rfl) (by kernel_rfl) (by kernel_rfl) (by kernel_rfl) (fun _ _ _ h => h) (Or.inl ⟨by rfl, ?hy11⟩) hH ?rest11
    case hy11 => (intro w hSw; (try dsimp only at hSw); go_simp; with_reducible rfl)
    try simp only [Act.put, List.setIfInBounds_toArray, List.set_cons_zero, List.set_cons_succ]
    refine wpAnyK_take (i := 11) [18] (v := ?v12) rfl (by kernel_rfl) (by kernel_rfl) (by kernel_rfl) (by kernel_rfl) (fun _ _ _ h => h) (Or.inl ⟨by rfl, ?hy12⟩) hH ?rest12
    case hy12 => (intro w hSw; (try dsimp only at hSw); go_simp; with_reducible rfl)
    try simp only [Act.put, List.setIfInBounds_toArray, List.set_cons_zero, List.set_cons_succ]
    refine wpAnyK_take (i := 12) [18] (v := ?v13) rfl (by kernel_rfl) (by kernel_rfl) (by kernel_rfl) (by kernel_rfl) (fun _ _ _ h => h) (Or.inl ⟨by rfl, ?hy13⟩) hH ?rest13
    case hy13 => (intro w hSw; (try dsimp only at hSw); go_simp; with_reducible rfl)
    try simp only [Act.put, List.setIfInBounds_toArray, List.set_cons_zero, List.set_cons_succ]
    refine wpAnyK_take (i := 13) [18] (v := ?v14) rfl (by kernel_rfl) (by kernel_rfl) (by kernel_rfl) (by kernel_rfl) (fun _ _ _ h => h) (Or.inl ⟨by rfl, ?hy14⟩) hH ?rest14
    case hy14 => (intro w hSw; (try dsimp only at hSw); go_simp; with_reducible rfl)
    try simp only [Act.put, List.setIfInBounds_toArray, List.set_cons_zero, List.set_cons_succ]
    refine wpAnyK_take (i := 14) [18] (v := ?v15) rfl (by kernel_rfl) (by kernel_rfl) (by kernel_rfl) (by kernel_rfl) (fun _ _ _ h => h) (Or.inl ⟨by rfl, ?hy15⟩) hH ?rest15
    case hy15 => (intro w hSw; (try dsimp only at hSw); go_simp; with_reducible rfl)
    try simp only [Act.put, List.setIfInBounds_toArray, List.set_cons_zero, List.set_cons_succ]
    refine wpAnyK_one (i := 15) (by kernel_rfl) rfl (fun K hK => ?_) (by kernel_rfl)
    go_simp
    obtain ⟨w2, hw2⟩ : ∃ w2, w2 = (w.alloc (.cells #[.int .i64 ((n : Int) - 1), .slice av vl cv, .int .i64 fl] 66)).drew := ⟨_, rfl⟩
    have hb2 : Below w.heap.size w w2 := by rw [hw2]; exact ((Below.refl _ _).alloc (Nat.le_refl _) _).drew
    have n0 : w2.cell? ⟨w.heap.size, 0, none⟩ = some (.int .i64 ((n : Int) - 1)) := by rw [hw2]; simp [go_sem]
    have n1 : w2.cell? ⟨w.heap.size, 1, none⟩ = some (.slice av vl cv) := by rw [hw2]; simp [go_sem]
    have n2 : w2.cell? ⟨w.heap.size, 2, none⟩ = some (.int .i64 fl) := by rw [hw2]; simp [go_sem]
    have hsz2 : w2.heap.size = w.heap.size + 1 := by rw [hw2]; simp
    rw [← hw2]
    clear hw2
    have e0 := (hb2.cell (p := ⟨fb, 0, none⟩) hfl).trans q0
    have e1 := (hb2.cell (p := ⟨fb, 1, none⟩) hfl).trans q1
    have e2 := (hb2.cell (p := ⟨fb, 2, none⟩) hfl).trans q2
    have H2 := Lib.hid (And.intro hb2 (And.intro n0 (And.intro n1 (And.intro n2 hsz2))))
    have fd3' : w2.frozen? ⟨db, 3, none⟩ = false := (hb2.frozen (p := ⟨db, 3, none⟩) H.out.ltd).trans fd3
    have hp2 := (hb2.cell (p := ⟨db, 3, none⟩) H.out.ltd).trans hp
    clear hb2 n0 n1 n2 hsz2
    refine hK.out _ _ ⟨e0, e1, e2⟩ (fun hH => ?_)
    clear hK K
    try simp only [Act.put, List.setIfInBounds_toArray, List.set_cons_zero, List.set_cons_succ]
    refine wpAnyK_take (i := 16) [17, 18] (v := ?v16) rfl (by kernel_rfl) (by kernel_rfl) (by kernel_rfl) (by kernel_rfl) (fun _ _ _ h => h) (Or.inl ⟨by rfl, ?hy16⟩) hH ?rest16
    case hy16 => (intro w hSw; (try dsimp only at hSw); go_simp; with_reducible rfl)
    try simp only [Act.put, List.setIfInBounds_toArray, List.set_cons_zero, List.set_cons_succ]
    refine wpAnyK_take (i := 17) [18] (v := ?v17) rfl (by kernel_rfl) (by kernel_rfl) (by kernel_rfl) (by kernel_rfl) (fun _ _ _ h => h) (Or.inl ⟨by rfl, ?hy17⟩) hH ?rest17
    case hy17 => (intro w hSw; (try dsimp only at hSw); go_simp; with_reducible rfl)
    try simp only [Act.put, List.setIfInBounds_toArray, List.set_cons_zero, List.set_cons_succ]
    refine wpAnyK_last (by kernel_rfl) rfl (fun K hK => ?_) (by kernel_rfl)
    go_simp
    refine hK.out _ _ (wpAnyK_done (by kernel_rfl) ?_ _)
    clear hK K hH
    have hn1 : ((n - 1 : Nat) : Int) = (n : Int) - 1 := by omega
    have hD3 : DkAt F (w2.setCell ⟨db, 3, none⟩ (.pointer (some ⟨w.heap.size, 0, none⟩))) db mb { D with fuse := D.less } := by
      have hd2 := H.out.below H2.out.1
      have hne : w.heap.size ≠ db := by have := H.out.ltd; omega
      have hnF : ¬ F w.heap.size := fun hq => Nat.lt_irrefl _ (H.out.lt _ hq)
      have ht : Tn (fun q => q = db) w2 (w2.setCell ⟨db, 3, none⟩ (.pointer (some ⟨w.heap.size, 0, none⟩))) := Tn.setCell _ _ _ rfl
      have hl : D.less = some ⟨n - 1, z.cuts, fl⟩ := by simp only [Dk.less, HZ.out.1, HZ.out.2.2.2.1, HZ.out.2.2.2.2.1]
      refine hd2.set3 (z := D.less) (p := .pointer (some ⟨w.heap.size, 0, none⟩)) ?_ ?_
      · rw [hl]
        refine ⟨w.heap.size, .slice av vl cv, rfl, hnF, by have h8 := ht.size; have h9 := H2.out.2.2.2.2; omega, ?_, ?_, ?_, ?_⟩
        · rw [hn1]; exact ht.cell H2.out.2.1 (fun e => hne e)
        · exact ht.cell H2.out.2.2.1 (fun e => hne e)
        · exact ht.cell H2.out.2.2.2.1 (fun e => hne e)
        · have h8 : RdC F w (.slice av vl cv) z.cuts := ⟨av, cv, by rw [HZ.out.2.1], HZ.out.2.2.1⟩
          exact (h8.tn (Tn.ofBelow (F := fun _ => False) H2.out.1) (fun _ _ e => e.elim)).tn ht (fun q _ e => e ▸ H.out.fd)
      · intro y hy
        rw [hl] at hy
        injection hy with hy
        subst hy
        have := H.out.ok.fuse z HZ.out.1
        rw [HZ.out.2.2.2.1] at this
        exact ⟨by simp only; omega, this.2⟩
    have ht3 : Tn (two db mb) w (w2.setCell ⟨db, 3, none⟩ (.pointer (some ⟨w.heap.size, 0, none⟩))) := (Tn.ofBelow H2.out.1).trans (Tn.setCell _ _ _ (.inl rfl))
    have H3 := Lib.hid (And.intro hD3 ht3)
    obtain ⟨w3, hw3⟩ : ∃ w3, w2.setCell ⟨db, 3, none⟩ (.pointer (some ⟨w.heap.size, 0, none⟩)) = w3 := ⟨_, rfl⟩
    rw [hw3] at H3 ⊢
    clear hD3 ht3 hw3 e0 e1 e2 q0 q1 q2 kd0 kd1 kd2 hp hp2 hn1 hw1 r1 fd3 fd3'
    go_wp2_with fail
    refine (HD.out w3 _ H3.out.1 H3.out.2 rfl).mono ?_
    rintro e w4 ⟨rfl, hd4, ht4⟩
    have k4 := hd4.c4
    have f4 := hd4.fz 4
    have H4 := Lib.hid (And.intro hd4 ht4)
    have r5 : (D.acts : Int) < 1000000 := by omega
    simp only at k4
    clear hd4 ht4
    go_wp2
    go_ret
    refine ⟨rfl, ?_, ((H3.out.2.mono (fun q hq => .inl hq)).trans H4.out.2).trans (Tn.setCell _ _ _ (.inl (.inl rfl)))⟩
    rw [HA.out]
    exact H4.out.1.set4 (n := D.acts + 1) (by omega)
end Go.Proofs.YtjhajlfkiafhgaaDoor
