import Derived.Test.YtohigcpcbonaeaaGreatDoorWm7
import Derived.Test.YtohigcpcbonaeaaGreatDoorWm1
set_option linter.unusedSimpArgs false
set_option linter.unusedVariables false
/-
  Wal: the walk of load: what it finds, and the first half.
-/
namespace Go.Proofs.YtohigcpcbonaeaaGreatDoor
open Go.RowKit Go.Maps Go.Sort Go.Shelf
variable {G F H : Nat → Prop} {w w' : World} {lb mp db mb bx nm : Nat} {ms : List (Int × Sg)} {L L' : Lg} {D : Dk} {s r : ByteArray} {S : List (Nat × Fl)} {dir : ByteArray}

/-- One segment more. -/
theorem LoM.addrow (h : LoM G w lb mp db ms L) {k : Int} {a : Option Addr} {c : Nat} {rs : List ByteArray} (hk : L.last < k) (hk1 : 1 ≤ k ∧ k ≤ 4294967295) (hfew : L.m.length < 20000) (hrs : rs.length ≤ 1000000) (hrow : Own eStr w 0 (.slice a rs.length c) rs)
    (hq : ∀ q, (Value.slice a rs.length c).ownBlock = some q → G q ∧ q ≠ lb ∧ q ≠ mp ∧ ∀ p ∈ ms, p.2.val.ownBlock ≠ some q)
    (hm : MapL ckZ cvS w' mp (setL ms k ⟨a, c, rs⟩)) (ht : Tn (fun q => q = mp) w w') :
    LoM G w' lb mp db (ms ++ [(k, ⟨a, c, rs⟩)]) { L with m := L.m ++ [(k, rs)] } := by
  have hne := h.key_ne hk
  have hl := World.block_lt_of_cell? _ _ h.c0
  have hn : ¬ lb = mp := h.ne
  rw [setL_new' hne] at hm
  refine ⟨ht.cell h.c0 hn, ht.cell h.c1 hn, ht.cell h.c2 hn, ht.cell h.c3 hn, ht.cell h.c4 hn, ht.cell h.c5 hn, ht.cell h.c6 hn, ht.cell h.c7 hn, fun j => (ht.frozen (p := ⟨lb, j, none⟩) hl hn).trans (h.fz j), hm, ?_, ?_, ?_, h.ne, ?_, h.gl, h.gm, ?_, fun q hq => Nat.lt_of_lt_of_le (h.lt q hq) ht.size, ?_⟩
  · show L.m ++ [(k, rs)] = _
    rw [List.map_append, ← h.eq]
    rfl
  · intro p hp
    rcases List.mem_append.1 hp with hp | hp
    · exact ht.row (h.rows p hp) (fun q hq e => (h.off p hp q hq).2 e)
    · simp at hp; subst hp; exact ht.row hrow (fun q h2 e => (hq q h2).2.2.1 e)
  · rw [List.pairwise_append]
    refine ⟨h.sep, List.pairwise_singleton _ _, fun p hp p' hp' q h1 e => ?_⟩
    simp at hp'
    subst hp'
    exact (hq q e).2.2.2 p hp h1
  · intro p hp q h1
    rcases List.mem_append.1 hp with hp | hp
    · exact h.off p hp q h1
    · simp at hp; subst hp; exact ⟨(hq q h1).2.1, (hq q h1).2.2.1⟩
  · intro p hp q h1
    rcases List.mem_append.1 hp with hp | hp
    · exact h.gr p hp q h1
    · simp at hp; subst hp; exact (hq q h1).1
  · refine ⟨h.ok.dir, ?_, ?_, ?_, ?_, h.ok.op, h.ok.long, h.ok.left, h.ok.size⟩
    · intro p hp
      rcases List.mem_append.1 hp with hp | hp
      · exact h.ok.key p hp
      · simp at hp; subst hp; exact hk1
    · show ((L.m ++ [(k, rs)]).map (·.1)).Pairwise _
      rw [List.map_append, List.pairwise_append]
      refine ⟨h.ok.rise, List.pairwise_singleton _ _, fun a ha b hb => ?_⟩
      obtain ⟨p, hp, rfl⟩ := List.mem_map.1 ha
      simp at hb
      subst hb
      have := last_most h.ok p hp
      omega
    · show (L.m ++ [(k, rs)]).length ≤ 20000
      rw [List.length_append]
      simp
      omega
    · intro p hp
      rcases List.mem_append.1 hp with hp | hp
      · exact h.ok.recs p hp
      · simp at hp; subst hp; exact hrs
/-- More blocks are the log's. -/
theorem LoM.wider {G' : Nat → Prop} (h : LoM G w lb mp db ms L) (hG : ∀ q, G q → G' q) (hl : ∀ q, G' q → q < w.heap.size) : LoM G' w lb mp db ms L :=
  ⟨h.c0, h.c1, h.c2, h.c3, h.c4, h.c5, h.c6, h.c7, h.fz, h.mpl, h.eq, h.rows, h.sep, h.ne, h.off, hG _ h.gl, hG _ h.gm, fun p hp q hq => hG q (h.gr p hp q hq), hl, h.ok⟩
/-- The blocks of a log that is being opened: its own two, and new ones. -/
def span (lb mp z : Nat) (w : World) (q : Nat) : Prop := q = lb ∨ q = mp ∨ (z ≤ q ∧ q < w.heap.size)
theorem LoM.span {z : Nat} (h : LoM (span lb mp z w) w lb mp db ms L) (hb : Below w.heap.size w w') : LoM (Go.Proofs.YtohigcpcbonaeaaGreatDoor.span lb mp z w') w' lb mp db ms L := by
  have hs := hb.size
  have h1 := h.tn (Tn.ofBelow (F := fun _ => False) hb) (fun _ _ e => e)
  refine h1.wider (fun q hq => ?_) (fun q hq => ?_)
  · rcases hq with h2 | h2 | h2
    · exact .inl h2
    · exact .inr (.inl h2)
    · exact .inr (.inr ⟨h2.1, by omega⟩)
  · rcases hq with h2 | h2 | h2
    · subst h2; exact h1.lt _ h1.gl
    · subst h2; exact h1.lt _ h1.gm
    · exact h2.2
theorem spanT (ht : Tn H w w') {z q : Nat} (h : span lb mp z w q) : span lb mp z w' q := by
  have := ht.size
  rcases h with h | h | h
  · exact .inl h
  · exact .inr (.inl h)
  · exact .inr (.inr ⟨h.1, by omega⟩)
/-- What a disk has of a log. -/
structure SegD (D : Dk) (dir : ByteArray) (S : List (Nat × Fl)) : Prop where
  rise : Rise S
  names : D.list (dir ++ tW) = S.map (fun p => segN dir p.1)
  get : ∀ p ∈ S, getL D.m (segN dir p.1) = some p.2
  nm : nmB dir = true
  d40 : dir.size ≤ 40
  few : S.length < 20000
theorem SegD.read (h : SegD D dir S) (hon : D.on = true) : ∀ p ∈ S, D.read (segN dir p.1) = (p.2.data, 0) := by
  intro p hp
  unfold Dk.read
  have ha : D.asked [segN dir p.1] = 0 := by unfold Dk.asked; rw [hon]; simp [segN_nm h.nm h.d40]
  rw [ha, if_neg (by decide), h.get p hp]
/-- What was read of the segments so far. -/
def dataZ (S : List (Nat × Fl)) : List (Int × ByteArray) := S.map (fun p => ((p.1 : Int), p.2.data))
def cvA (b : ByteArray) : Value := .string b
abbrev tAt : TypeId := 60
theorem und_at : Tryz.prog.underlying tAt = some (.map 3 9) := Tryz.underlying60
theorem zero_str (w : World) : (zeroValue 9).run Tryz.prog w = .ok (.string ⟨#[]⟩) w := by kernel_rfl
theorem dataZ_ne {A : List (Nat × Fl)} {n : Nat} (h : ∀ p ∈ A, p.1 < n) : ∀ p ∈ dataZ A, p.1 ≠ (n : Int) := by
  intro p hp e
  obtain ⟨x, hx, rfl⟩ := List.mem_map.1 hp
  have := h x hx
  simp at e
  omega
theorem Rise.at_lt (h : Rise S) {i : Nat} (hi : i < S.length) : ∀ p ∈ S.take i, p.1 < S[i].1 := by
  have h1 : S = S.take i ++ S[i] :: S.drop (i + 1) := by simp
  intro p hp
  obtain ⟨⟨n, f⟩, hx⟩ : ∃ x, S[i] = x := ⟨_, rfl⟩
  rw [hx] at h1 ⊢
  rw [h1] at h
  exact h.mid.1 p hp
theorem Rise.dataZ_get (h : Rise S) {i : Nat} (hi : i < S.length) : getL (dataZ S) (S[i].1 : Int) = some S[i].2.data := by
  have h1 : S = S.take i ++ S[i] :: S.drop (i + 1) := by simp
  obtain ⟨⟨n, f⟩, hx⟩ : ∃ x, S[i] = x := ⟨_, rfl⟩
  have hlt := h.at_lt hi
  rw [hx] at h1 hlt ⊢
  rw [h1]
  have h2 : dataZ (S.take i ++ (n, f) :: S.drop (i + 1)) = dataZ (S.take i) ++ (((n : Int), f.data) :: dataZ (S.drop (i + 1))) := by
    unfold dataZ
    rw [List.map_append, List.map_cons]
  rw [h2]
  show getL (dataZ (S.take i) ++ (((n : Int), f.data) :: dataZ (S.drop (i + 1)))) (n : Int) = some f.data
  rw [getL_app_right (dataZ_ne hlt)]
  exact getL_one _ _ _
theorem dataZ_keys : (dataZ S).map (·.1) = S.map (fun p => (p.1 : Int)) := by unfold dataZ; rw [List.map_map]; rfl
theorem Rise.keysZ (h : Rise S) : sortZ ((dataZ S).map (·.1)) = S.map (fun p => (p.1 : Int)) := by
  rw [dataZ_keys]
  refine sortZ_rise ?_
  have := h.lt
  rw [List.pairwise_map] at this ⊢
  exact this.imp (fun hab => by omega)
theorem dataZ_succ {i : Nat} (hi : i < S.length) : dataZ (S.take (i + 1)) = dataZ (S.take i) ++ [((S[i].1 : Int), S[i].2.data)] := by
  unfold dataZ
  rw [List.take_succ_eq_append_getElem hi, List.map_append]
  rfl
theorem mOf_succ {i : Nat} (hi : i < S.length) : mOf (S.take (i + 1)) = mOf (S.take i) ++ [((S[i].1 : Int), recsOf S[i].2.data)] := by
  unfold mOf
  rw [List.take_succ_eq_append_getElem hi, List.map_append]
  rfl
theorem recsOf_len (b : ByteArray) (hb : b.size ≤ 1048576) : (recsOf b).length ≤ 1000000 := by
  obtain ⟨t, h1, h2, _⟩ := scan_spec b.data.toList
  have h3 := frames_ge (scan b.data.toList).1
  have h4 := congrArg List.length h1
  rw [List.length_append, ← ba_size] at h4
  unfold recsOf
  rw [List.length_map]
  omega
theorem SegD.size (h : SegD D dir S) (ok : D.Ok) : ∀ p ∈ S, p.2.data.size ≤ 1048576 := fun p hp => (ok.syn _ (getL_mem (h.get p hp))).2
end Go.Proofs.YtohigcpcbonaeaaGreatDoor
/-
  Wal: the walk of load.
-/
namespace Go.Proofs.YtohigcpcbonaeaaGreatDoor
open Go.RowKit Go.Maps Go.Sort Go.Shelf
variable {G F H : Nat → Prop} {w w' : World} {lb mp db mb bx nm : Nat} {ms : List (Int × Sg)} {L L' L0 : Lg} {D : Dk} {s r : ByteArray} {S : List (Nat × Fl)} {dir : ByteArray}

/-- What load found in the first i segments; the last one may be torn. -/
def LdS (L0 : Lg) (S : List (Nat × Fl)) (i : Nat) (L : Lg) : Prop :=
  (L = { L0 with m := mOf (S.take i) } ∧ ∀ p ∈ S.take i, Good p.2.data) ∨
  (i = S.length ∧ ∃ A n f, S = A ++ [(n, f)] ∧ (∀ p ∈ A, Good p.2.data) ∧ ¬ Good f.data ∧ L = { L0 with m := mOf S, torn := true, left := goodB f.data })
/-- A segment ahead of the last one is spoilt. -/
def Spoilt (S : List (Nat × Fl)) : Prop := ∃ A n f B, S = A ++ (n, f) :: B ∧ B ≠ [] ∧ (∀ p ∈ A, Good p.2.data) ∧ ¬ Good f.data
def LoadE (L0 : Lg) (S : List (Nat × Fl)) (z lb mp db : Nat) (e : Ending) (w' : World) : Prop :=
  (∃ ms L, e = .returned (.int .i64 0) ∧ LdS L0 S S.length L ∧ LoM (span lb mp z w') w' lb mp db ms L) ∨ (e = .returned (.int .i64 31) ∧ Spoilt S)
theorem LdS.start (h : L0.m = []) : LdS L0 S 0 L0 := by
  refine .inl ⟨?_, fun p hp => by simp at hp⟩
  show L0 = { L0 with m := [] }
  rw [← h]
theorem LdS.at_ {i : Nat} (h : LdS L0 S i L) (hi : i < S.length) : L = { L0 with m := mOf (S.take i) } ∧ ∀ p ∈ S.take i, Good p.2.data := by
  rcases h with h | h
  · exact h
  · omega
theorem take_at {i : Nat} (hi : i < S.length) : S = S.take i ++ S[i] :: S.drop (i + 1) := by simp
theorem LdS.good {i : Nat} (hg : ∀ p ∈ S.take i, Good p.2.data) (hi : i < S.length) (hn : Good S[i].2.data) (hL : L = { L0 with m := mOf (S.take i) }) : LdS L0 S (i + 1) { L with m := L.m ++ [((S[i].1 : Int), recsOf S[i].2.data)] } := by
  refine .inl ⟨?_, fun p hp => ?_⟩
  · rw [mOf_succ hi, hL]
  · rw [List.take_succ_eq_append_getElem hi] at hp
    rcases List.mem_append.1 hp with hp | hp
    · exact hg p hp
    · rw [List.mem_singleton] at hp; subst hp; exact hn
theorem LdS.torn {i : Nat} (hg : ∀ p ∈ S.take i, Good p.2.data) (hi : i < S.length) (hn : ¬ Good S[i].2.data) (hl : i + 1 = S.length) (hL : L = { L0 with m := mOf (S.take i) }) : LdS L0 S (i + 1) { L with m := L.m ++ [((S[i].1 : Int), recsOf S[i].2.data)], torn := true, left := goodB S[i].2.data } := by
  have h1 := take_at hi
  have h2 : S.drop (i + 1) = [] := List.drop_of_length_le (by omega)
  rw [h2] at h1
  refine .inr ⟨hl, S.take i, S[i].1, S[i].2, h1, hg, hn, ?_⟩
  have h3 : mOf S = mOf (S.take i) ++ [((S[i].1 : Int), recsOf S[i].2.data)] := by
    rw [← mOf_succ hi, hl, List.take_length]
  rw [h3, hL]
theorem spoilt_at {i : Nat} (hg : ∀ p ∈ S.take i, Good p.2.data) (hi : i < S.length) (hn : ¬ Good S[i].2.data) (hl : i + 1 < S.length) : Spoilt S := by
  refine ⟨S.take i, S[i].1, S[i].2, S.drop (i + 1), take_at hi, fun e => ?_, hg, hn⟩
  have := congrArg List.length e
  rw [List.length_drop, List.length_nil] at this
  omega

theorem goodN_le (b : ByteArray) : goodN b ≤ b.size := by
  obtain ⟨t, h1, h2, _⟩ := scan_spec b.data.toList
  have h3 := congrArg List.length h1
  rw [List.length_append, ← ba_size] at h3
  unfold goodN
  omega
/-- The last segment is torn. -/
theorem LoM.tear (h : LoM G w lb mp db ms L) (b : ByteArray) (hb : b.size ≤ 1048576) : LoM G ((w.setCell ⟨lb, 6, none⟩ (.bool true)).setCell ⟨lb, 7, none⟩ (.string b)) lb mp db ms { L with torn := true, left := b } :=
  h.upd ((Tn.setCell (F := fun q => q = lb) w ⟨lb, 6, none⟩ _ rfl).trans (Tn.setCell (F := fun q => q = lb) _ ⟨lb, 7, none⟩ _ rfl)) (cell_sb (cell_sb h.c0 (by omega)) (by omega)) (cell_sb (cell_sb h.c1 (by omega)) (by omega)) (cell_sb (cell_sb h.c2 (by omega)) (by omega)) (cell_sb (cell_sb h.c3 (by omega)) (by omega)) (cell_sb (cell_sb h.c4 (by omega)) (by omega)) (cell_sb (cell_sb h.c5 (by omega)) (by omega))
    (cell_sb (World.cell?_setCell_same _ _ _ h.c6) (by omega)) (World.cell?_setCell_same _ _ _ (cell_sb h.c7 (by omega))) (fun j => by rw [World.frozen?_setCell, World.frozen?_setCell]; exact h.fz j) rfl ⟨h.ok.dir, h.ok.key, h.ok.rise, h.ok.few, h.ok.recs, h.ok.op, h.ok.long, hb, h.ok.size⟩
theorem LoM.respan {z : Nat} {w0 : World} (h : LoM (Go.Proofs.YtohigcpcbonaeaaGreatDoor.span lb mp z w0) w lb mp db ms L) (hz : w0.heap.size ≤ w.heap.size) : LoM (Go.Proofs.YtohigcpcbonaeaaGreatDoor.span lb mp z w) w lb mp db ms L := by
  refine h.wider (fun q hq => ?_) (fun q hq => ?_)
  · rcases hq with h2 | h2 | h2
    · exact .inl h2
    · exact .inr (.inl h2)
    · exact .inr (.inr ⟨h2.1, by omega⟩)
  · rcases hq with h2 | h2 | h2
    · subst h2; exact h.lt _ h.gl
    · subst h2; exact h.lt _ h.gm
    · exact h2.2
theorem last_under {kv : Int} (h : ∀ p ∈ L.m, p.1 < kv) (h0 : 0 < kv) : L.last < kv := by
  unfold Lg.last
  rcases List.eq_nil_or_concat L.m with e | ⟨A, x, e⟩
  · rw [e]; exact h0
  · rw [e, List.concat_eq_append, List.map_append]
    simp
    exact h x (by rw [e]; simp)

set_option maxRecDepth 100000 in
set_option maxHeartbeats 4000000 in
theorem load_any {z : Nat} (h : DkAt F w db mb D) (hon : D.on = true) (hs : SegD D dir S) (hL : LoM (span lb mp z w) w lb mp db [] L) (hdir : L.dir = dir) (hm : L.m = []) (hz : z ≤ w.heap.size) :
    Calls Tryz.prog 18 #[.pointer (some ⟨lb, 0, none⟩)] w fun e w' => LoadE L S z lb mp db e w' ∧ Tn (fun q => q = lb ∨ q = mp) w w' := by
  obtain ⟨W1, hW1⟩ : ∃ W1, w.alloc (.map #[] 0) = W1 := ⟨_, rfl⟩
  have hmk : (Instr.makeMap tAt none).run Tryz.prog w = .ok (.map (some w.heap.size)) W1 := by rw [← hW1]; rfl
  have b1 : Below w.heap.size w W1 := by rw [← hW1]; exact (Below.refl _ _).alloc (Nat.le_refl _) _
  have m1 : MapL ckZ cvA W1 w.heap.size [] := by rw [← hW1]; exact MapL.made w
  have hl1 := list_any (h.below (b1.drew)) hon (dir ++ tW)
  rw [hs.names] at hl1
  have c0 := (b1.cell (p := ⟨lb, 0, none⟩) (World.block_lt_of_cell? _ _ hL.c0)).trans hL.c0
  have c1 := (b1.cell (p := ⟨lb, 1, none⟩) (World.block_lt_of_cell? _ _ hL.c1)).trans hL.c1
  rw [hdir] at c1
  have hlb := World.block_lt_of_cell? _ _ hL.c0
  obtain ⟨n, hn⟩ : ∃ n, S.length = n := ⟨_, rfl⟩
  have hd40 := hs.d40
  have a1 : ¬ 9223372036854775807 < dir.size + 2 := by omega
  have H := Lib.hid (And.intro h (And.intro hon (And.intro hs (And.intro hL (And.intro hdir (And.intro hm hz))))))
  have H1 := Lib.hid (And.intro hW1 (And.intro b1 m1))
  have HL := Lib.hid hl1
  have HN := Lib.hid (And.intro hn hlb)
  clear h hon hs hL hdir hm hz hW1 b1 m1 hl1 hn hlb
  go_enter Tryz.func18, Tryz.ntmps18
  go_wp2_with fail
  refine wp_region_K (fun w' => w'.cell? ⟨lb, 0, none⟩ = some (.pointer (some ⟨db, 0, none⟩)) ∧ w'.cell? ⟨lb, 1, none⟩ = some (.string dir)) 10 12 (by kernel_rfl) (by kernel_rfl) ⟨c0, c1⟩ (fun hH => ?_)
  refine wpAnyK_pure (i := 11) (v := ?v17) rfl (by kernel_rfl) (by kernel_rfl) (by kernel_rfl) (by decide) (fun _ _ _ h => h) (Or.inl ⟨by rfl, ?hy17⟩) hH ?rest17
  case hy17 => (intro w _; go_simp; with_reducible rfl)
  try simp only [Act.put, List.setIfInBounds_toArray, List.set_cons_zero, List.set_cons_succ]
  refine wpAnyK_take (i := 0) [1, 2, 3, 9, 10] (v := ?v1) rfl (by kernel_rfl) (by kernel_rfl) (by kernel_rfl) (by kernel_rfl) (fun _ _ _ h => h) (Or.inl ⟨by rfl, ?hy1⟩) hH ?rest1
  case hy1 => (intro w hSw; (try dsimp only at hSw); go_simp; with_reducible rfl)
  try simp only [Act.put, List.setIfInBounds_toArray, List.set_cons_zero, List.set_cons_succ]
  refine wpAnyK_take (i := 1) [2, 3, 9, 10] (v := ?v2) rfl (by kernel_rfl) (by kernel_rfl) (by kernel_rfl) (by kernel_rfl) (fun _ _ _ h => h) (Or.inl ⟨by rfl, ?hy2⟩) hH ?rest2
  case hy2 => (intro w hSw; (try dsimp only at hSw); go_simp; with_reducible rfl)
  try simp only [Act.put, List.setIfInBounds_toArray, List.set_cons_zero, List.set_cons_succ]
  refine wpAnyK_take (i := 2) [3, 9, 10] (v := ?v3) rfl (by kernel_rfl) (by kernel_rfl) (by kernel_rfl) (by kernel_rfl) (fun _ _ _ h => h) (Or.inl ⟨by rfl, ?hy3⟩) hH ?rest3
  case hy3 => (intro w hSw; (try dsimp only at hSw); go_simp; with_reducible rfl)
  try simp only [Act.put, List.setIfInBounds_toArray, List.set_cons_zero, List.set_cons_succ]
  refine wpAnyK_take (i := 3) [9, 10] (v := ?v4) rfl (by kernel_rfl) (by kernel_rfl) (by kernel_rfl) (by kernel_rfl) (fun _ _ _ h => h) (Or.inl ⟨by rfl, ?hy4⟩) hH ?rest4
  case hy4 => (intro w hSw; (try dsimp only at hSw); go_simp; with_reducible rfl)
  try simp only [Act.put, List.setIfInBounds_toArray, List.set_cons_zero, List.set_cons_succ]
  refine wpAnyK_take (i := 4) [5, 6, 7, 8, 9, 10] (v := ?v5) rfl (by kernel_rfl) (by kernel_rfl) (by kernel_rfl) (by kernel_rfl) (fun _ _ _ h => h) (Or.inl ⟨by rfl, ?hy5⟩) hH ?rest5
  case hy5 => (intro w hSw; (try dsimp only at hSw); go_simp; with_reducible rfl)
  try simp only [Act.put, List.setIfInBounds_toArray, List.set_cons_zero, List.set_cons_succ]
  refine wpAnyK_take (i := 5) [6, 7, 8, 9, 10] (v := ?v6) rfl (by kernel_rfl) (by kernel_rfl) (by kernel_rfl) (by kernel_rfl) (fun _ _ _ h => h) (Or.inl ⟨by rfl, ?hy6⟩) hH ?rest6
  case hy6 => (intro w hSw; (try dsimp only at hSw); go_simp; with_reducible rfl)
  try simp only [Act.put, List.setIfInBounds_toArray, List.set_cons_zero, List.set_cons_succ]
  refine wpAnyK_take (i := 6) [7, 8, 9, 10] (v := ?v7) rfl (by kernel_rfl) (by kernel_rfl) (by kernel_rfl) (by kernel_rfl) (fun _ _ _ h => h) (Or.inl ⟨by rfl, ?hy7⟩) hH ?rest7
  case hy7 => (intro w hSw; (try dsimp only at hSw); go_simp; with_reducible rfl)
  try simp only [Act.put, List.setIfInBounds_toArray, List.set_cons_zero, List.set_cons_succ]
  refine wpAnyK_take (i := 7) [8, 9, 10] (v := ?v8) rfl (by kernel_rfl) (by kernel_rfl) (by kernel_rfl) (by kernel_rfl) (fun _ _ _ h => h) (Or.inl ⟨by rfl, ?hy8⟩) hH ?rest8
  case hy8 => (intro w hSw; (try dsimp only at hSw); go_simp; with_reducible rfl)
  try simp only [Act.put, List.setIfInBounds_toArray, List.set_cons_zero, List.set_cons_succ]
  refine wpAnyK_take (i := 8) [9, 10] (v := ?v9) rfl (by kernel_rfl) (by kernel_rfl) (by kernel_rfl) (by kernel_rfl) (fun _ _ _ h => h) (Or.inl ⟨by rfl, ?hy9⟩) hH ?rest9
  case hy9 => (intro w hSw; (try dsimp only at hSw); go_simp; with_reducible rfl)
  try simp only [Act.put, List.setIfInBounds_toArray, List.set_cons_zero, List.set_cons_succ]
  refine wpAnyK_one (i := 9) (by kernel_rfl) rfl (fun K hK => ?_) (by kernel_rfl)
  go_simp
  go_at_call 28
  refine HL.out.mono ?_
  rintro e w2 ⟨⟨v, rfl, hown⟩, hb2⟩
  obtain ⟨a, cap, rfl, _, _⟩ := row_form hown
  have hlen : (S.map (fun p => segN dir p.1)).length = n := by rw [List.length_map]; exact HN.out.1
  have hb12 : Below W1.heap.size W1 w2 := (Below.refl _ _).drew.trans hb2
  have kd2 := And.intro ((hb12.cell (p := ⟨lb, 0, none⟩) (World.block_lt_of_cell? _ _ c0)).trans c0) ((hb12.cell (p := ⟨lb, 1, none⟩) (World.block_lt_of_cell? _ _ c1)).trans c1)
  rw [hlen] at hown ⊢
  have hown2 : Own eStr w2 W1.heap.size (.slice a n cap) (S.map (fun p => segN dir p.1)) := hown
  have H2 := Lib.hid (And.intro hown2 hb12)
  clear hown hown2 hb2 hb12 hlen hmk
  refine hK.out _ _ kd2 (fun hH => ?_)
  clear hK K
  try simp only [Act.put, List.setIfInBounds_toArray, List.set_cons_zero, List.set_cons_succ]
  refine wpAnyK_last (by kernel_rfl) rfl (fun K hK => ?_) (by kernel_rfl)
  go_simp
  refine hK.out _ _ (wpAnyK_done (by kernel_rfl) ?_ _)
  clear hK K hH c0 c1
  have hz1 : W1.heap.size = w.heap.size + 1 := by rw [← H1.out.1]; simp
  have hb02 : Below w.heap.size w w2 := H1.out.2.1.trans (H2.out.2.mono H1.out.2.1.size)
  have hm2 : MapL ckZ cvA w2 w.heap.size (dataZ (S.take 0)) := MapL.below H1.out.2.2 H2.out.2
  have HZ := Lib.hid (And.intro hz1 (And.intro hb02 hm2))
  clear hz1 hb02 hm2
  go_wp2
  go_loopw [5, 6, 7, 8, 26] (fun _ _ _ _ y wr => ∃ i : Nat, i ≤ n ∧ y = .int .i64 (i : Int) ∧ MapL ckZ cvA wr w.heap.size (dataZ (S.take i)) ∧ Tn (fun q => q = w.heap.size) w2 wr) (fun _ _ _ _ y _ => n - (intOf y).toNat)
  case atStart => exact ⟨0, by omega, rfl, HZ.out.2.2, Tn.refl _ _⟩
  case round =>
    obtain ⟨i, hi, rfl, hmi, hti⟩ := hrel
    have hb0r : Below w.heap.size w wr := HZ.out.2.1.trans (hti.below HZ.out.2.1.size (fun q hq => by omega))
    have hLr := H.out.2.2.2.1.tn (Tn.ofBelow (F := fun _ => False) hb0r) (fun _ _ e => e)
    have hdr := H.out.1.below hb0r
    have c0 := hLr.c0
    have c1 := hLr.c1
    rw [H.out.2.2.2.2.1] at c1
    have HB := Lib.hid (And.intro hmi (And.intro hti (And.intro hb0r (And.intro hLr hdr))))
    clear hmi hti hb0r hLr hdr
    by_cases hlt : i < n
    · have hi1 : i < S.length := by rw [HN.out.1]; exact hlt
      have hik : i < (S.map (fun p => segN dir p.1)).length := by rw [List.length_map]; exact hi1
      obtain ⟨g, rfl, hgb, hgl, d0⟩ := H2.out.1.getT hik
      rw [List.getElem_map] at d0
      have hmem : S[i] ∈ S := List.getElem_mem hi1
      have hrd := H.out.2.2.1.read H.out.2.1 _ hmem
      have hrg := H.out.2.2.1.rise.rng _ hmem
      have hsz := H.out.2.2.1.size H.out.1.ok _ hmem
      have hsc := dataZ_succ hi1
      obtain ⟨⟨nk, f⟩, hx⟩ : ∃ x, S[i] = x := ⟨_, rfl⟩
      rw [hx] at d0 hrd hrg hsz hsc
      simp only at d0 hrd hrg hsz hsc
      have hnm := (w_number (lb := lb) hd40 nk hrg.2 c1).mono (fun e w' h => And.intro h.1 h.2.symm)
      have hsl := segZ_size (L := ⟨dir, 0, [], 0, 0, false, ByteArray.empty⟩) hd40 (nk : Int)
      have hsl2 : (segN dir nk).size ≤ 140737488351232 := hsl
      have hre := read_any HB.out.2.2.2.2 H.out.2.1 (segN dir nk) hsl2
      rw [hrd] at hre
      obtain ⟨kv, hkv⟩ : ∃ kv : Int, (nk : Int) = kv := ⟨_, rfl⟩
      obtain ⟨sg, hsg⟩ : ∃ sg, segN dir nk = sg := ⟨_, rfl⟩
      obtain ⟨b, hb⟩ : ∃ b, f.data = b := ⟨_, rfl⟩
      rw [hkv, hsg] at hnm
      rw [hsg, hb] at hre
      rw [hsg] at d0
      rw [hkv, hb] at hsc
      have hk0 : 0 < kv := by omega
      have d1 : wr.cell? ⟨g, i, none⟩ = some (.string sg) := HB.out.2.1.cell d0 (by show ¬ g = w.heap.size; have := HZ.out.1; omega)
      have r1 : (i : Int) < (n : Int) := by omega
      have HR := Lib.hid (And.intro hre hsc)
      have hne : ∀ p ∈ dataZ (S.take i), p.1 ≠ kv := by
        rw [← hkv]
        refine dataZ_ne ?_
        have h9 := H.out.2.2.1.rise.at_lt hi1
        rw [hx] at h9
        exact h9
      have HNE := Lib.hid hne
      clear hre hsc hsl hsl2 hkv hsg hb hrd hrg hsz hx hmem hne d0
      go_wp2_with (go_at_call 32; go_loud (refine hnm.mono ?_); rintro e w3 ⟨rfl, rfl⟩)
      refine HR.out.1.mono ?_
      rintro e w4 ⟨rfl, hb4⟩
      obtain ⟨w5, hrun, hm5, ht5, hz5⟩ := MapL.put (MapL.below HB.out.1 hb4) keyZ und_at kv b
      have hrun' : (Instr.mapUpdate tAt (.map (some w.heap.size)) (.int .i64 kv) (.string b)).run Tryz.prog w4 = .ok () w5 := hrun
      rw [setL_new HNE.out] at hm5
      have H5 := Lib.hid (And.intro hm5 (And.intro ht5 hb4))
      clear hm5 ht5 hz5 hrun hb4 hnm
      go_wp2
      go_roundw
      case rel => exact ⟨i + 1, by omega, by go_num, by rw [HR.out.2]; exact H5.out.1, HB.out.2.1.trans ((Tn.ofBelow H5.out.2.2).trans H5.out.2.1)⟩
      case measure => simp [intOf]; omega
    · obtain rfl : i = n := by omega
      rw [← HN.out.1, List.take_length] at HB
      have HM : Hid (MapL ckZ cvA wr w.heap.size (dataZ S) ∧ Below w.heap.size w wr ∧ LoM (span lb mp z w) wr lb mp db [] L) := by
        refine And.intro ?_ (And.intro HB.out.2.2.1 HB.out.2.2.2.1)
        have h9 := HB.out.1
        exact h9
      have hks := zsorted_at (w := wr.alloc (.cells #[.map (some w.heap.size)] 60)) (Bm := wr.heap.size) (ob := some w.heap.size) (cv := cvA) (m := dataZ S) (MapL.below HM.out.1 ((Below.refl _ _).alloc (Nat.le_refl _) _)) (fun p hp => by
        obtain ⟨x, hx, rfl⟩ := List.mem_map.1 hp
        have := H.out.2.2.1.rise.rng x hx
        simp only
        omega) (by unfold dataZ; rw [List.length_map]; exact Nat.le_of_lt H.out.2.2.1.few) (by simp [go_sem])
      rw [H.out.2.2.1.rise.keysZ] at hks
      have hln : (dataZ S).length = i := by unfold dataZ; rw [List.length_map]; exact HN.out.1
      rw [hln] at hks
      have HK := Lib.hid hks
      clear hks hln HB c0 c1
      go_wp2_with (go_at_call 35; go_loud (refine (zkeys_at _ _).mono ?_); rintro e w' ⟨rfl, rfl⟩)
      refine HK.out.mono ?_
      rintro e w6 ⟨v, rfl, hrow, hb6⟩
      obtain ⟨na, nc, rfl, _, _⟩ := row_form hrow
      have hlm : (S.map (fun p => (p.1 : Int))).length = i := by rw [List.length_map]; exact HN.out.1
      have hz0 : (wr.alloc (.cells #[.map (some w.heap.size)] 60)).heap.size = wr.heap.size + 1 := by simp
      have hbr6 : Below wr.heap.size wr w6 := ((Below.refl _ _).alloc (Nat.le_refl _) _).trans (hb6.mono (by simp))
      have hrow2 : OwnZ w6 wr.heap.size (.slice na i nc) (S.map (fun p => (p.1 : Int))) := by
        unfold OwnZ
        rw [hlm]
        exact row_mono hrow (by omega)
      have hb06 : Below w.heap.size w w6 := HM.out.2.1.trans (hbr6.mono HM.out.2.1.size)
      have hM6 : MapL ckZ cvA w6 w.heap.size (dataZ S) := MapL.below HM.out.1 hbr6
      have hL6 : LoM (span lb mp z w6) w6 lb mp db [] L := H.out.2.2.2.1.span hb06
      have H6 := Lib.hid (And.intro hrow2 (And.intro hM6 (And.intro hL6 (And.intro hb06 HM.out.2.1.size))))
      clear hrow hrow2 hz0 hbr6 hb06 hM6 hL6 hb6 HK HM
      go_wp2
      go_loopw [10, 11, 12, 13, 56] (fun _ _ _ _ y wq => ∃ j : Nat, j ≤ i ∧ y = .int .i64 (j : Int) ∧ ∃ ms' L', LdS L S j L' ∧ LoM (span lb mp z wq) wq lb mp db ms' L' ∧ Tn (fun q => q = lb ∨ q = mp) w6 wq) (fun _ _ _ _ y _ => i - (intOf y).toNat)
      case atStart => exact ⟨0, by omega, rfl, [], L, LdS.start H.out.2.2.2.2.2.1, H6.out.2.2.1, Tn.refl _ _⟩
      case round =>
        obtain ⟨j, hj, rfl, ms', L', hld, hLq, htq⟩ := hrel
        have HB := Lib.hid (And.intro hld (And.intro hLq htq))
        clear hld hLq htq
        by_cases hlt : j < i
        · have hj1 : j < S.length := by rw [HN.out.1]; exact hlt
          have hjk : j < (S.map (fun p => (p.1 : Int))).length := by rw [List.length_map]; exact hj1
          obtain ⟨hLe, hgd⟩ := HB.out.1.at_ hj1
          obtain ⟨g, rfl, hgb, d0⟩ := H6.out.1.at_ hjk
          rw [List.getElem_map] at d0
          have hmem : S[j] ∈ S := List.getElem_mem hj1
          have hrg := H.out.2.2.1.rise.rng _ hmem
          have hsz := H.out.2.2.1.size H.out.1.ok _ hmem
          have hgt := H.out.2.2.1.rise.dataZ_get hj1
          have hms := mOf_succ hj1
          have hlast := H.out.2.2.1.rise.at_lt hj1
          have hld1 := LdS.good (L := L') (L0 := L) hgd hj1
          have hld2 := LdS.torn (L := L') (L0 := L) hgd hj1
          have hld3 := spoilt_at hgd hj1
          obtain ⟨⟨nk, f⟩, hx⟩ : ∃ x, S[j] = x := ⟨_, rfl⟩
          rw [hx] at d0 hrg hsz hgt hms hlast hld1 hld2 hld3
          simp only at d0 hrg hsz hgt hms hlast hld1 hld2 hld3
          obtain ⟨kv, hkv⟩ : ∃ kv : Int, (nk : Int) = kv := ⟨_, rfl⟩
          obtain ⟨b, hb⟩ : ∃ b, f.data = b := ⟨_, rfl⟩
          rw [hkv] at d0 hgt hms hld1 hld2
          rw [hb] at hsz hgt hms hld1 hld2 hld3
          have hmq : MapL ckZ cvA wr w.heap.size (dataZ S) := by
            refine H6.out.2.1.tn HB.out.2.2 ?_
            have h1 := HB.out.2.1.mpl.lt
            have h2 := H.out.2.2.2.1.mpl.lt
            have h3 := HN.out.2
            rintro (e | e) <;> omega
          have hlk : (Instr.lookup tAt (.map (some w.heap.size)) (.int .i64 kv) false).run Tryz.prog wr = .ok (.string b) wr := by
            have h5 := MapL.look hmq keyZ und_at (zero_str _) false kv
            rw [hgt] at h5
            exact h5
          have d1 : wr.cell? ⟨g, j, none⟩ = some (.int .i64 kv) := by
            refine HB.out.2.2.cell d0 ?_
            have h2 := H.out.2.2.2.1.mpl.lt
            have h3 := HN.out.2
            have h4 := H6.out.2.2.2.2
            show ¬ (g = lb ∨ g = mp)
            rintro (e | e) <;> omega
          have r1 : (j : Int) < (i : Int) := by omega
          have hgood := w_good b hsz wr
          have HGT := Lib.hid hgt
          have HG := Lib.hid (And.intro hgood (And.intro hmq (And.intro hms (And.intro hlast (And.intro hrg hkv)))))
          have HLD := Lib.hid (And.intro hld1 (And.intro hld2 (And.intro hld3 (And.intro hLe (And.intro hgd hsz)))))
          clear hld1 hld2 hld3 hLe hgd hgood hmq hms hlast hrg hkv hgt hsz hx hmem d0 hb
          go_wp2_with fail
          refine HG.out.1.mono ?_
          rintro e w7 ⟨⟨ga, gc, rfl, gown⟩, hb7⟩
          obtain ⟨gn, hgn⟩ : ∃ gn, goodN b = gn := ⟨_, rfl⟩
          obtain ⟨k, hk⟩ : ∃ k, (recsOf b).length = k := ⟨_, rfl⟩
          obtain ⟨gd, hgd⟩ : ∃ gd, decide (goodN b = b.size) = gd := ⟨_, rfl⟩
          have hgle := goodN_le b
          have hrl := recsOf_len b HLD.out.2.2.2.2.2
          rw [hgn] at hgle hgd ⊢
          rw [hk] at gown hrl ⊢
          rw [hgd]
          have HGD := Lib.hid (And.intro hgn (And.intro hk (And.intro hgd (And.intro hgle hrl))))
          clear hgn hgd hrl
          obtain ⟨W8, hW8⟩ : ∃ W8, w7.alloc (.cells #[.slice ga k gc, .int .i64 (gn : Int)] 69) = W8 := ⟨_, rfl⟩
          have b8 : Below wr.heap.size wr W8 := by rw [← hW8]; exact hb7.alloc hb7.size _
          have b78 : Below w7.heap.size w7 W8 := by rw [← hW8]; exact (Below.refl _ _).alloc (Nat.le_refl _) _
          have k0 : W8.cell? ⟨w7.heap.size, 0, none⟩ = some (.slice ga k gc) := by rw [← hW8]; simp [go_sem]
          have k1 : W8.cell? ⟨w7.heap.size, 1, none⟩ = some (.int .i64 (gn : Int)) := by rw [← hW8]; simp [go_sem]
          have hz7 := hb7.size
          have hL8 := HB.out.2.1.span b8
          have c3 := hL8.c3
          have g8 : Own eStr W8 wr.heap.size (.slice ga k gc) (recsOf b) := row_below gown b78
          have H8 := Lib.hid (And.intro b8 (And.intro hL8 g8))
          clear b8 b78 hL8 g8 gown hb7
          go_wp2_with fail
          clear hW8
          refine wp_region_K (fun w' => w'.cell? ⟨lb, 3, none⟩ = some (.map (some mp)) ∧ w'.cell? ⟨w7.heap.size, 0, none⟩ = some (.slice ga k gc)) 7 8 (by kernel_rfl) (by kernel_rfl) ⟨c3, k0⟩ (fun hH => ?_)
          refine wpAnyK_take (i := 0) [1, 2, 3, 7] (v := ?v10) rfl (by kernel_rfl) (by kernel_rfl) (by kernel_rfl) (by kernel_rfl) (fun _ _ _ h => h) (Or.inl ⟨by rfl, ?hy10⟩) hH ?rest10
          case hy10 => (intro w hSw; (try dsimp only at hSw); go_simp; with_reducible rfl)
          try simp only [Act.put, List.setIfInBounds_toArray, List.set_cons_zero, List.set_cons_succ]
          refine wpAnyK_take (i := 1) [2, 3, 7] (v := ?v11) rfl (by kernel_rfl) (by kernel_rfl) (by kernel_rfl) (by kernel_rfl) (fun _ _ _ h => h) (Or.inl ⟨by rfl, ?hy11⟩) hH ?rest11
          case hy11 => (intro w hSw; (try dsimp only at hSw); go_simp; with_reducible rfl)
          try simp only [Act.put, List.setIfInBounds_toArray, List.set_cons_zero, List.set_cons_succ]
          refine wpAnyK_take (i := 2) [3, 7] (v := ?v12) rfl (by kernel_rfl) (by kernel_rfl) (by kernel_rfl) (by kernel_rfl) (fun _ _ _ h => h) (Or.inl ⟨by rfl, ?hy12⟩) hH ?rest12
          case hy12 => (intro w hSw; (try dsimp only at hSw); go_simp; with_reducible rfl)
          try simp only [Act.put, List.setIfInBounds_toArray, List.set_cons_zero, List.set_cons_succ]
          refine wpAnyK_take (i := 3) [7] (v := ?v13) rfl (by kernel_rfl) (by kernel_rfl) (by kernel_rfl) (by kernel_rfl) (fun _ _ _ h => h) (Or.inl ⟨by rfl, ?hy13⟩) hH ?rest13
          case hy13 => (intro w hSw; (try dsimp only at hSw); go_simp; with_reducible rfl)
          try simp only [Act.put, List.setIfInBounds_toArray, List.set_cons_zero, List.set_cons_succ]
          refine wpAnyK_take (i := 4) [7] (v := ?v14) rfl (by kernel_rfl) (by kernel_rfl) (by kernel_rfl) (by kernel_rfl) (fun _ _ _ h => h) (Or.inl ⟨by rfl, ?hy14⟩) hH ?rest14
          case hy14 => (intro w hSw; (try dsimp only at hSw); go_simp; with_reducible rfl)
          try simp only [Act.put, List.setIfInBounds_toArray, List.set_cons_zero, List.set_cons_succ]
          refine wpAnyK_take (i := 5) [6, 7] (v := ?v15) rfl (by kernel_rfl) (by kernel_rfl) (by kernel_rfl) (by kernel_rfl) (fun _ _ _ h => h) (Or.inl ⟨by rfl, ?hy15⟩) hH ?rest15
          case hy15 => (intro w hSw; (try dsimp only at hSw); go_simp; with_reducible rfl)
          try simp only [Act.put, List.setIfInBounds_toArray, List.set_cons_zero, List.set_cons_succ]
          refine wpAnyK_take (i := 6) [7] (v := ?v16) rfl (by kernel_rfl) (by kernel_rfl) (by kernel_rfl) (by kernel_rfl) (fun _ _ _ h => h) (Or.inl ⟨by rfl, ?hy16⟩) hH ?rest16
          case hy16 => (intro w hSw; (try dsimp only at hSw); go_simp; with_reducible rfl)
          try simp only [Act.put, List.setIfInBounds_toArray, List.set_cons_zero, List.set_cons_succ]
          refine wpAnyK_last (by kernel_rfl) rfl (fun K hK => ?_) (by kernel_rfl)
          subst hk
          refine step_put rfl _ _ _ rfl keyZ und_seg rfl (MapL.below H8.out.2.1.mpl (Below.refl _ _).drew) kv rfl ⟨ga, gc, recsOf b⟩ rfl ?_
          intro w9 hm9 ht9 hz9
          refine hK.out _ _ (wpAnyK_done (by kernel_rfl) ?_ _)
          clear hK K hH
          have hlbW : lb < wr.heap.size := World.block_lt_of_cell? _ _ HB.out.2.1.c0
          have hmpW : mp < wr.heap.size := HB.out.2.1.mpl.lt
          have hzW : z ≤ wr.heap.size := by
            have h1 := H6.out.2.2.2.2
            have h2 := H6.out.2.2.2.1.size
            have h3 := HB.out.2.2.size
            have h4 := H.out.2.2.2.2.2.2
            omega
          have hL9 : LoM (span lb mp z w9) w9 lb mp db (ms' ++ [(kv, ⟨ga, gc, recsOf b⟩)]) { L' with m := L'.m ++ [(kv, recsOf b)] } := by
            have h8 : LoM (span lb mp z W8) W8.drew lb mp db ms' L' := H8.out.2.1.tn (Tn.ofBelow (F := fun _ => False) (Below.refl _ _).drew) (fun _ _ e => e)
            refine (h8.addrow (w' := w9) (k := kv) (a := ga) (c := gc) (rs := recsOf b) ?_ ?_ ?_ HGD.out.2.2.2.2 (row_mono (row_below H8.out.2.2 (Below.refl _ _).drew) (Nat.zero_le _)) ?_ hm9 ht9).respan (by rw [hz9]; exact Nat.le_refl _)
            · refine last_under ?_ (by have h5 := HG.out.2.2.2.2.2; have h6 := HG.out.2.2.2.2.1; omega)
              rw [HLD.out.2.2.2.1]
              intro p hp
              obtain ⟨x, hx, rfl⟩ := List.mem_map.1 hp
              have := HG.out.2.2.2.1 x hx
              have h5 := HG.out.2.2.2.2.2
              simp only
              omega
            · have h5 := HG.out.2.2.2.2.2
              have h6 := HG.out.2.2.2.2.1
              omega
            · rw [HLD.out.2.2.2.1]
              show (mOf (S.take j)).length < 20000
              unfold mOf
              rw [List.length_map, List.length_take]
              have := H.out.2.2.1.few
              omega
            · intro q hq
              have h5 := H8.out.2.2.lt q hq
              refine ⟨.inr (.inr ⟨by omega, h5.2⟩), by omega, by omega, fun p hp e => ?_⟩
              have h6 := HB.out.2.1.lt q (HB.out.2.1.gr p hp q e)
              omega
          have ht6 : Tn (fun q => q = lb ∨ q = mp) w6 w9 := HB.out.2.2.trans (((Tn.ofBelow H8.out.1).trans (Tn.ofBelow (Below.refl _ _).drew)).trans (ht9.mono (fun q e => .inr e)))
          have k19 := ht9.cell k1 (by show ¬ w7.heap.size = mp; omega)
          have hlk9 : (Instr.lookup tAt (.map (some w.heap.size)) (.int .i64 kv) false).run Tryz.prog w9 = .ok (.string b) w9 := by
            have hm8 : MapL ckZ cvA w9 w.heap.size (dataZ S) := ((HG.out.2.1.below H8.out.1).below (Below.refl _ _).drew).tn ht9 (by
              have h2 := H.out.2.2.2.1.mpl.lt
              show ¬ w.heap.size = mp
              omega)
            have h5 := MapL.look hm8 keyZ und_at (zero_str _) false kv
            rw [HGT.out] at h5
            exact h5
          have H9 := Lib.hid (And.intro hL9 ht6)
          clear hL9 ht6 hm9 ht9 hz9 hlk k0 k1 c3
          cases gd with
          | true =>
            have hgo : Good b := by
              refine good_iff.2 ?_
              have h5 := HGD.out.2.2.1
              rw [HGD.out.1]
              exact of_decide_eq_true h5
            have HGO := Lib.hid hgo
            clear hgo
            go_wp2
            go_roundw
            case rel => exact ⟨j + 1, by omega, by go_num, _, _, HLD.out.1 HGO.out HLD.out.2.2.2.1, H9.out.1, H9.out.2⟩
            case measure => simp [intOf]; omega
          | false =>
            have hng : ¬ Good b := by
              intro hg
              have h5 := HGD.out.2.2.1
              have h6 := hg.whole
              rw [HGD.out.1] at h6
              exact absurd h6 (of_decide_eq_false h5)
            have HNG := Lib.hid hng
            clear hng
            have hT6 : Tn (fun q => q = lb ∨ q = mp) w w9 := (Tn.ofBelow H6.out.2.2.2.1).trans H9.out.2
            have HT := Lib.hid hT6
            clear hT6
            by_cases hl : j + 1 < i
            · have r2 : (j : Int) < (i : Int) - 1 := by omega
              go_wp2
              go_ret
              exact ⟨.inr ⟨rfl, HLD.out.2.2.1 HNG.out (by rw [HN.out.1]; exact hl)⟩, HT.out⟩
            · have r2 : ¬ (j : Int) < (i : Int) - 1 := by omega
              have r3 : ¬ (b.size : Int) < (gn : Int) := by omega
              have hex : (b.extract 0 gn).size ≤ 140737488351232 := by rw [ByteArray.size_extract]; have := HLD.out.2.2.2.2.2; omega
              have hgb : goodB b = b.extract 0 gn := by unfold goodB; rw [HGD.out.1]
              obtain ⟨x, hx⟩ : ∃ x, b.extract 0 gn = x := ⟨_, rfl⟩
              have hg2 := hgb.trans hx
              have HX := Lib.hid hg2
              rw [hx] at hex
              clear hgb hg2
              go_wp2_with fail
              with_reducible refine (clone_any _ x hex).mono ?_
              rintro e w10 ⟨rfl, hb10⟩
              have hL10 := H9.out.1.span hb10
              have c6 := hL10.c6
              have c7 := hL10.c7
              have f6 := hL10.fz 6
              have f7 := hL10.fz 7
              have hb' := HLD.out.2.2.2.2.2
              have hL11 := hL10.tear (goodB b) (Nat.le_trans (goodB_spec b).2.2 hb')
              rw [HX.out] at hL11
              have H10 := Lib.hid (And.intro hb10 hL11)
              clear hb10 hL10 hL11 hb'
              go_wp2
              go_roundw
              case rel =>
                have hto := HLD.out.2.1 HNG.out (by rw [HN.out.1]; omega) HLD.out.2.2.2.1
                rw [HX.out] at hto
                refine ⟨j + 1, by omega, by go_num, _, _, hto, H10.out.2.respan (by simp [go_sem]), H9.out.2.trans ((Tn.ofBelow H10.out.1).trans ((Tn.setCell (F := fun q => q = lb ∨ q = mp) _ ⟨lb, 6, none⟩ _ (.inl rfl)).trans (Tn.setCell (F := fun q => q = lb ∨ q = mp) _ ⟨lb, 7, none⟩ _ (.inl rfl))))⟩
              case measure => simp [intOf]; omega
        · obtain rfl : j = i := by omega
          go_wp2
          go_ret
          refine ⟨.inl ⟨_, _, rfl, ?_, HB.out.2.1⟩, (Tn.ofBelow H6.out.2.2.2.1).trans HB.out.2.2⟩
          rw [HN.out.1]
          exact HB.out.1
end Go.Proofs.YtohigcpcbonaeaaGreatDoor
/-
  Wal: the walk of Open.
-/
namespace Go.Proofs.YtohigcpcbonaeaaGreatDoor
open Go.RowKit Go.Maps Go.Sort Go.Shelf
variable {G F H : Nat → Prop} {w w' : World} {lb mp db mb bx nm : Nat} {ms : List (Int × Sg)} {L L' L0 : Lg} {D : Dk} {s r : ByteArray} {S : List (Nat × Fl)} {dir : ByteArray}

/-- A log that has read nothing yet. -/
def fresh (dir : ByteArray) (size : Int) : Lg := ⟨dir, size, [], 0, 0, false, ByteArray.empty⟩
/-- What Open answers. -/
def OpenE (F : Nat → Prop) (w w' : World) (db mb : Nat) (D : Dk) (S : List (Nat × Fl)) (L0 : Lg) (e : Ending) : Prop :=
  ∃ F' : Nat → Prop, (∀ q, F q → F' q) ∧ (∀ q, F' q → F q ∨ w.heap.size ≤ q) ∧ Tn (two db mb) w w' ∧
  ((Spoilt S ∧ e = .returned (.tuple #[.pointer none, .int .i64 31]) ∧ DkAt F' w' db mb D) ∨
   ∃ L, LdS L0 S S.length L ∧
     (((L.mended D).1 ≠ 0 ∧ (L.mended D).1 ≠ 24 ∧ e = .returned (.tuple #[.pointer none, .int .i64 (L.mended D).1]) ∧ DkAt F' w' db mb (L.mended D).2.1) ∨
      (((L.mended D).1 = 0 ∨ (L.mended D).1 = 24) ∧ ∃ (lb mp : Nat) (G : Nat → Prop), e = .returned (.tuple #[.pointer (some ⟨lb, 0, none⟩), .int .i64 0]) ∧ DkAt F' w' db mb (L.mended D).2.1 ∧ LoAt G w' lb mp db (L.mended D).2.2 ∧ (∀ q, G q → F' q ∧ ¬ two db mb q ∧ w.heap.size ≤ q))))
theorem LdS.m (h : LdS L0 S S.length L) : L.m = mOf S := by
  rcases h with ⟨h, _⟩ | ⟨_, A, n, f, _, _, _, h⟩
  · rw [h, List.take_length]
  · rw [h]
theorem LdS.last (h : LdS L0 S S.length L) : L.last = (lastN S : Int) := by
  unfold Lg.last lastN
  rw [h.m, mOf_keys]
  rcases List.eq_nil_or_concat S with rfl | ⟨A, p, rfl⟩
  · rfl
  · simp
theorem lastN_rng (h : Rise S) : lastN S < 4294967296 := by
  rcases List.eq_nil_or_concat S with rfl | ⟨A, p, rfl⟩
  · decide
  · obtain ⟨n, f⟩ := p
    rw [List.concat_eq_append] at h ⊢
    rw [lastN_snoc]
    exact (h.rng (n, f) (by simp)).2
/-- A log in new blocks. -/
theorem fresh_at {z mp : Nat} {size : Int} {w1 w2 : World} (hz : z ≤ w1.heap.size) (hmp : mp = w1.heap.size) (hlb : lb = w1.heap.size + 1) (hs : 0 ≤ size ∧ size ≤ 1048576) (hd : dir.size ≤ 40)
    (hw : w2 = (w1.alloc (.map #[] 0)).alloc (.cells #[.pointer (some ⟨db, 0, none⟩), .string dir, .int .i64 size, .map (some mp), .int .i64 0, .int .i64 0, .bool false, .string ⟨#[]⟩] 48)) : LoM (span lb mp z w2) w2 lb mp db [] (fresh dir size) := by
  have hsz : w2.heap.size = w1.heap.size + 2 := by rw [hw]; simp
  have hm : MapL ckZ cvS w2 mp [] := by
    rw [hw, hmp]
    exact (MapL.made w1).below ((Below.refl _ _).alloc (Nat.le_refl _) _)
  refine ⟨?_, ?_, ?_, ?_, ?_, ?_, ?_, ?_, ?_, hm, rfl, fun p hp => by simp at hp, List.Pairwise.nil, by omega, fun p hp => by simp at hp, .inl rfl, .inr (.inl rfl), fun p hp => by simp at hp, ?_, ⟨hd, fun p hp => by simp [fresh] at hp, List.Pairwise.nil, by simp [fresh], fun p hp => by simp [fresh] at hp, ⟨Int.le_refl _, (by decide : (0 : Int) ≤ 4294967295)⟩, ⟨Int.le_refl _, (by decide : (0 : Int) ≤ 1048576)⟩, by simp [fresh], hs⟩⟩
  · rw [hw, hlb]; simp [go_sem]
  · rw [hw, hlb]; simp [go_sem, fresh]
  · rw [hw, hlb]; simp [go_sem, fresh]
  · rw [hw, hlb]; simp [go_sem]
  · rw [hw, hlb]; simp [go_sem, fresh]
  · rw [hw, hlb]; simp [go_sem, fresh]
  · rw [hw, hlb]; simp [go_sem, fresh]
  · rw [hw, hlb]; simp [go_sem, fresh]; rfl
  · intro j; rw [hw, hlb]; simp [go_sem]
  · intro q hq
    rcases hq with h | h | h <;> omega

set_option maxRecDepth 100000 in
set_option maxHeartbeats 4000000 in
theorem open_any {size : Int} (h : DkAt F w db mb D) (hon : D.on = true) (ha : D.acts + 20 ≤ 1000000) (hs : SegD D dir S) (hs1 : 1 ≤ size) (hs2 : size ≤ 524288) :
    Calls Tryz.prog 6 #[.pointer (some ⟨db, 0, none⟩), .string dir, .int .i64 size] w fun e w' => OpenE F w w' db mb D S (fresh dir size) e := by
  have hd40 := hs.d40
  have c1 := h.c1
  rw [hon] at c1
  have hnm := name_any dir w (by omega)
  rw [hs.nm] at hnm
  have a1 : ¬ (40 : Int) < (dir.size : Int) := by omega
  have a2 : ¬ size < 1 := by omega
  have a3 : ¬ 524288 < size := by omega
  have hcl : ∀ W, Calls Tryz.prog 17 #[.string dir] W fun e w' => e = .returned (.string dir) ∧ Below W.heap.size W w' := fun W => clone_any W dir (by omega)
  have hmk : ∀ w, (Instr.makeMap tSeg none).run Tryz.prog w = .ok (.map (some w.heap.size)) (w.alloc (.map #[] 0)) := fun _ => rfl
  have H := Lib.hid (And.intro h (And.intro hon (And.intro ha (And.intro hs (And.intro hs1 hs2)))))
  clear h hon ha hs hs1 hs2
  go_enter Tryz.func6, Tryz.ntmps6
  go_wp2_with (first
    | (go_at_call 15; go_loud (refine hnm.mono ?_); rintro e w1 ⟨rfl, hb1⟩; have B1 := Lib.hid hb1; have c11 := (hb1.cell (p := ⟨db, 1, none⟩) (World.block_lt_of_cell? _ _ c1)).trans c1; clear hb1)
    | (go_at_call 16; go_loud (refine (on_any c11).mono ?_); rintro e w2 ⟨rfl, rfl⟩)
    | (go_at_call 17; go_loud (refine (hcl _).mono ?_); rintro e w3 ⟨rfl, hb3⟩; have B3 := Lib.hid hb3; clear hb3))
  have hb03 : Below w.heap.size w w3 := B1.out.trans (B3.out.mono B1.out.size)
  have hlo := fresh_at (db := db) (w1 := w3) (w2 := _) (z := w.heap.size) hb03.size rfl rfl (And.intro (by have := H.out.2.2.2.2.1; omega : 0 ≤ size) (by have := H.out.2.2.2.2.2; omega : size ≤ 1048576)) hd40 rfl
  obtain ⟨W5, hW5⟩ : ∃ W5, W5 = (w3.alloc (.map #[] 0)).alloc (.cells #[.pointer (some ⟨db, 0, none⟩), .string dir, .int .i64 size, .map (some w3.heap.size), .int .i64 0, .int .i64 0, .bool false, .string ⟨#[]⟩] 48) := ⟨_, rfl⟩
  rw [← hW5] at hlo
  have hb5 : Below w.heap.size w W5 := by rw [hW5]; exact (hb03.alloc hb03.size _).alloc (by have := hb03.size; simp; omega) _
  have hld := load_any (H.out.1.below hb5) H.out.2.1 H.out.2.2.2.1 hlo rfl rfl hb5.size
  have HL := Lib.hid (And.intro hld (And.intro hlo (And.intro hb5 hb03.size)))
  clear hld hlo hb5 hb03 c11 c1 hnm hcl hmk
  have h5 : W5.heap.size = w3.heap.size + 2 := by rw [hW5]; simp
  rw [← hW5]
  clear hW5
  refine HL.out.1.mono ?_
  rintro e w6 ⟨hE, ht6⟩
  have hz6 := ht6.size
  have hzw := HL.out.2.2.2
  have hD5 : DkAt (fun q => F q ∨ (w.heap.size ≤ q ∧ q < W5.heap.size)) W5 db mb D := H.out.1.more (fun q h => .inl h) (fun q h => h.imp id (fun h => h.1)) (fun q h => by
    rcases h with h | h
    · have := H.out.1.lt q h; have := HL.out.2.2.1.size; omega
    · exact h.2) HL.out.2.2.1
  have hdw := H.out.1.ltd
  have hmw := H.out.1.m.lt
  have hD6 : DkAt (fun q => F q ∨ (w.heap.size ≤ q ∧ q < w6.heap.size)) w6 db mb D := hD5.widen ht6 (fun q _ e => by
      rcases e with rfl | rfl
      · exact ⟨.inr ⟨by omega, by omega⟩, by unfold two; omega⟩
      · exact ⟨.inr ⟨by omega, by omega⟩, by unfold two; omega⟩) (fun q h => h.imp id (fun h => ⟨h.1, by omega⟩)) (fun q h => by
      rcases h with h | h
      · exact .inl (.inl h)
      · by_cases h9 : q < W5.heap.size
        · exact .inl (.inr ⟨h.1, h9⟩)
        · exact .inr (by omega)) (fun q h => by
      rcases h with h | h
      · have := H.out.1.lt q h; omega
      · exact h.2)
  have ht06 : Tn (two db mb) w w6 := (Tn.ofBelow HL.out.2.2.1).andThen ht6 (fun q e => by right; rcases e with rfl | rfl <;> omega)
  have HD := Lib.hid (And.intro hD6 (And.intro ht06 (And.intro hdw hmw)))
  clear hD5 hD6 ht06 hdw hmw ht6
  rcases hE with ⟨ms, L, rfl, hls, hlo6⟩ | ⟨rfl, hsp⟩
  · have hme := w_mended (mb := mb) (F := fun q => F q ∨ (w.heap.size ≤ q ∧ q < w6.heap.size)) ⟨_, hlo6⟩ HD.out.1 (fun q e => by
      have h1 := HD.out.2.2.1
      have h2 := HD.out.2.2.2
      rcases e with rfl | rfl | e
      · exact ⟨.inr ⟨by omega, by omega⟩, by unfold two; omega⟩
      · exact ⟨.inr ⟨by omega, by omega⟩, by unfold two; omega⟩
      · exact ⟨.inr e, by unfold two; omega⟩) H.out.2.1 H.out.2.2.1 (lastN_rng H.out.2.2.2.1.rise) hls.last
    obtain ⟨x, hx⟩ : ∃ x, L.mended D = x := ⟨_, rfl⟩
    obtain ⟨k, D2, L2⟩ := x
    rw [hx] at hme
    have HM := Lib.hid (And.intro hme (And.intro hx hls))
    clear hme hx hls hlo6
    go_wp2_with fail
    refine HM.out.1.mono ?_
    rintro e w7 ⟨rfl, hD7, hL7, ht7⟩
    simp only at hD7 hL7
    have hfin : Tn (two db mb) w w7 := HD.out.2.1.andThen ht7 (fun q e => by
      rcases e with e | e
      · exact .inl e
      · right
        rcases e with rfl | rfl | e
        · omega
        · omega
        · exact e.1)
    have H7 := Lib.hid (And.intro hD7 (And.intro hL7 hfin))
    clear hD7 hL7 ht7 hfin
    have hpost1 : ∀ e, ((k ≠ 0 ∧ k ≠ 24 ∧ e = .returned (.tuple #[.pointer none, .int .i64 k])) ∨ ((k = 0 ∨ k = 24) ∧ e = .returned (.tuple #[.pointer (some ⟨w3.heap.size + 1, 0, none⟩), .int .i64 0]))) → OpenE F w w7 db mb D S (fresh dir size) e := by
      intro e he
      refine ⟨(fun q => F q ∨ (w.heap.size ≤ q ∧ q < w6.heap.size)), fun q h => .inl h, fun q h => h.imp id (fun h => h.1), H7.out.2.2, .inr ⟨L, HM.out.2.2, ?_⟩⟩
      rw [HM.out.2.1]
      rcases he with ⟨h1, h2, h3⟩ | ⟨h1, h2⟩
      · exact .inl ⟨h1, h2, h3, H7.out.1⟩
      · refine .inr ⟨h1, _, _, _, h2, H7.out.1, H7.out.2.1, fun q e => ?_⟩
        have h1 := HD.out.2.2.1
        have h2 := HD.out.2.2.2
        rcases e with rfl | rfl | e
        · exact ⟨.inr ⟨by omega, by omega⟩, by unfold two; omega, by omega⟩
        · exact ⟨.inr ⟨by omega, by omega⟩, by unfold two; omega, by omega⟩
        · exact ⟨.inr e, by unfold two; omega, e.1⟩
    have HP := Lib.hid hpost1
    clear hpost1
    by_cases hk0 : k = 0
    · subst hk0
      go_wp2
      go_ret2
      exact HP.out _ (.inr ⟨by simp, rfl⟩)
    · by_cases hk24 : k = 24
      · subst hk24
        go_wp2
        go_ret2
        exact HP.out _ (.inr ⟨by simp, rfl⟩)
      · have t0 : (k != 0) = true := by simpa using hk0
        have t1 : (k != 24) = true := by simpa using hk24
        have HK := Lib.hid (And.intro hk0 hk24)
        go_wp2
        go_ret2
        exact HP.out _ (.inl ⟨HK.out.1, HK.out.2, rfl⟩)
  · go_wp2
    go_ret2
    exact ⟨(fun q => F q ∨ (w.heap.size ≤ q ∧ q < w6.heap.size)), fun q h => .inl h, fun q h => h.imp id (fun h => h.1), HD.out.2.1, .inl ⟨hsp, rfl, HD.out.1⟩⟩
end Go.Proofs.YtohigcpcbonaeaaGreatDoor
/-
  Wal: the walk of Drop.
-/
namespace Go.Proofs.YtohigcpcbonaeaaGreatDoor
open Go.RowKit Go.Maps Go.Sort Go.Shelf
variable {G F H : Nat → Prop} {w w' : World} {lb mp db mb bx nm : Nat} {ms : List (Int × Sg)} {L L' L0 Li : Lg} {D Di D2 : Dk} {s r : ByteArray} {S : List (Nat × Fl)} {dir : ByteArray}

theorem LoM.del {k : Int} (h : LoM G w lb mp db ms L) (hm : MapL ckZ cvS w' mp (delL ms k)) (ht : Tn (fun q => q = mp) w w') : LoM G w' lb mp db (delL ms k) { L with m := delL L.m k } := by
  have hl := World.block_lt_of_cell? _ _ h.c0
  have hn : ¬ lb = mp := h.ne
  have hsub : ∀ p ∈ delL ms k, p ∈ ms := fun p hp => (List.mem_filter.1 hp).1
  have hL : delL L.m k = (delL ms k).map (fun p => (p.1, p.2.rs)) := by
    rw [h.eq]
    unfold delL
    rw [List.filter_map]
    rfl
  have hsubL : ∀ p ∈ delL L.m k, p ∈ L.m := fun p hp => (List.mem_filter.1 hp).1
  refine ⟨ht.cell h.c0 hn, ht.cell h.c1 hn, ht.cell h.c2 hn, ht.cell h.c3 hn, ht.cell h.c4 hn, ht.cell h.c5 hn, ht.cell h.c6 hn, ht.cell h.c7 hn, fun j => (ht.frozen (p := ⟨lb, j, none⟩) hl hn).trans (h.fz j), hm, hL, ?_, ?_, h.ne, fun p hp => h.off p (hsub p hp), h.gl, h.gm, fun p hp => h.gr p (hsub p hp), fun q hq => Nat.lt_of_lt_of_le (h.lt q hq) ht.size, ⟨h.ok.dir, fun p hp => h.ok.key p (hsubL p hp), ?_, ?_, fun p hp => h.ok.recs p (hsubL p hp), h.ok.op, h.ok.long, h.ok.left, h.ok.size⟩⟩
  · intro p hp
    exact ht.row (h.rows p (hsub p hp)) (fun q hq e => (h.off p (hsub p hp) q hq).2 e)
  · exact List.Pairwise.sublist List.filter_sublist h.sep
  · exact List.Pairwise.sublist (List.filter_sublist.map _) h.ok.rise
  · exact Nat.le_trans (List.length_filter_le _ _) h.ok.few
/-- Where Drop's loop stands. -/
structure DrS (L : Lg) (D : Dk) (below : Int) (i : Nat) (Li : Lg) (Di : Dk) : Prop where
  eq : Lg.dropK below ((L.m.map (·.1)).drop i) Li Di = L.drop D below
  on : Di.on = true
  acts : Di.acts ≤ D.acts + i
  dir : Li.dir = L.dir
  op : Li.op = L.op
/-- What is left when a segment is gone. -/
def gone (L : Lg) (k : Int) : Lg := if (delL L.m k).length = 0 then { L with m := delL L.m k, torn := false, left := ByteArray.empty } else { L with m := delL L.m k }
theorem DrS.skip {below : Int} {i : Nat} (h : DrS L D below i Li Di) (hi : i < (L.m.map (·.1)).length) (hk : below ≤ (L.m.map (·.1))[i] ∨ (L.m.map (·.1))[i] = L.op) : DrS L D below (i + 1) Li Di := by
  refine ⟨?_, h.on, by have := h.acts; omega, h.dir, h.op⟩
  rw [← h.eq, List.drop_eq_getElem_cons hi, Lg.dropK, if_pos (by rw [h.op]; exact hk)]
theorem DrS.go {below : Int} {i : Nat} (h : DrS L D below i Li Di) (hi : i < (L.m.map (·.1)).length) (hk : ¬ (below ≤ (L.m.map (·.1))[i] ∨ (L.m.map (·.1))[i] = L.op)) (hr : Di.remove (segZ L.dir (L.m.map (·.1))[i]) = (0, D2)) : DrS L D below (i + 1) (gone Li (L.m.map (·.1))[i]) D2 := by
  have hg := remove_on Di h.on (segZ L.dir (L.m.map (·.1))[i])
  rw [hr] at hg
  have hg := hg.go (by simp)
  refine ⟨?_, hg.1, by have := h.acts; have := hg.2; simp only at this; omega, ?_, ?_⟩
  · have hr' : Di.remove (segZ Li.dir (L.m.map (·.1))[i]) = (0, D2) := by rw [h.dir]; exact hr
    rw [← h.eq, List.drop_eq_getElem_cons hi, Lg.dropK, if_neg (by rw [h.op]; exact hk), hr']
    rfl
  · unfold gone; split <;> exact h.dir
  · unfold gone; split <;> exact h.op
theorem DrS.err {below : Int} {i : Nat} {k : Int} (h : DrS L D below i Li Di) (hi : i < (L.m.map (·.1)).length) (hk : ¬ (below ≤ (L.m.map (·.1))[i] ∨ (L.m.map (·.1))[i] = L.op)) (hr : Di.remove (segZ L.dir (L.m.map (·.1))[i]) = (k, D2)) (h0 : k ≠ 0) : L.drop D below = (k, D2, Li) := by
  have hr' : Di.remove (segZ Li.dir (L.m.map (·.1))[i]) = (k, D2) := by rw [h.dir]; exact hr
  rw [← h.eq, List.drop_eq_getElem_cons hi, Lg.dropK, if_neg (by rw [h.op]; exact hk), hr']
  simp only
  rw [if_pos h0]

end Go.Proofs.YtohigcpcbonaeaaGreatDoor
/-
  Wal: a log that there is not: what it answers.
-/
namespace Go.Proofs.YtohigcpcbonaeaaGreatDoor
open Go.RowKit Go.Maps Go.Sort Go.Shelf
variable {w w' : World} {p : Value}

/-- There is no log: a nil one, or a zero one. -/
def Noned (w : World) (p : Value) : Prop := p = .pointer none ∨ ∃ lb, p = .pointer (some ⟨lb, 0, none⟩) ∧ w.cell? ⟨lb, 0, none⟩ = some (.pointer none)
theorem none_any (h : Noned w p) : Calls Tryz.prog 21 #[p] w fun e w' => e = .returned (.bool true) ∧ w = w' := by
  rcases h with rfl | ⟨lb, rfl, h⟩
  · exact none_nil w
  · exact none_zero h
theorem n_append (h : Noned w p) (r : ByteArray) : Calls Tryz.prog 9 #[p, .string r] w fun e w' => e = .returned (.int .i64 1) ∧ w = w' := by
  have hn := none_any h
  clear h
  go_enter Tryz.func9, Tryz.ntmps9
  go_wp2_with (go_at_call 21; go_loud (refine hn.mono ?_); rintro e w2 ⟨rfl, rfl⟩)
  go_ret
  exact ⟨rfl, rfl⟩
theorem n_sync (h : Noned w p) : Calls Tryz.prog 10 #[p] w fun e w' => e = .returned (.int .i64 1) ∧ w = w' := by
  have hn := none_any h
  clear h
  go_enter Tryz.func10, Tryz.ntmps10
  go_wp2_with (go_at_call 21; go_loud (refine hn.mono ?_); rintro e w2 ⟨rfl, rfl⟩)
  go_ret
  exact ⟨rfl, rfl⟩
theorem n_rotate (h : Noned w p) : Calls Tryz.prog 23 #[p] w fun e w' => e = .returned (.int .i64 1) ∧ w = w' := by
  have hn := none_any h
  clear h
  go_enter Tryz.func23, Tryz.ntmps23
  go_wp2_with (go_at_call 21; go_loud (refine hn.mono ?_); rintro e w2 ⟨rfl, rfl⟩)
  go_ret
  exact ⟨rfl, rfl⟩

theorem n_numbers (h : Noned w p) : Calls Tryz.prog 20 #[p] w fun e w' => e = .returned (.slice none 0 0) ∧ w = w' := by
  have hn := none_any h
  clear h
  go_enter Tryz.func20, Tryz.ntmps20
  go_wp2_with (go_at_call 21; go_loud (refine hn.mono ?_); rintro e w2 ⟨rfl, rfl⟩)
  go_ret
  exact ⟨rfl, rfl⟩

theorem n_last (h : Noned w p) : Calls Tryz.prog 14 #[p] w fun e w' => e = .returned (.int .i64 0) ∧ w = w' := by
  have hn := n_numbers h
  clear h
  go_enter Tryz.func14, Tryz.ntmps14
  go_wp2_with (go_at_call 20; go_loud (refine hn.mono ?_); rintro e w2 ⟨rfl, rfl⟩)
  go_ret
  exact ⟨rfl, rfl⟩
theorem n_records (h : Noned w p) (k : Int) : Calls Tryz.prog 8 #[p, .int .i64 k] w fun e w' => e = .returned (.slice none 0 0) ∧ w = w' := by
  have hn := n_numbers h
  clear h
  go_enter Tryz.func8, Tryz.ntmps8
  go_wp2_with (go_at_call 20; go_loud (refine hn.mono ?_); rintro e w2 ⟨rfl, rfl⟩)
  go_loopw [5, 7, 11] (fun v _ iv wr => v = .slice none 0 0 ∧ iv = .int .i64 0 ∧ wr = w) (fun _ _ _ _ => 0)
  case atStart => exact ⟨rfl, rfl, rfl⟩
  case round =>
    obtain ⟨rfl, rfl, rfl⟩ := hrel
    go_wp2
    go_ret
    exact ⟨rfl, rfl⟩
theorem n_open (dir : ByteArray) (size : Int) : Calls Tryz.prog 6 #[.pointer none, .string dir, .int .i64 size] w fun e w' => e = .returned (.tuple #[.pointer none, .int .i64 1]) ∧ w = w' := by
  go_enter Tryz.func6, Tryz.ntmps6
  go_wp2
  go_ret2
  exact ⟨rfl, rfl⟩
end Go.Proofs.YtohigcpcbonaeaaGreatDoor
