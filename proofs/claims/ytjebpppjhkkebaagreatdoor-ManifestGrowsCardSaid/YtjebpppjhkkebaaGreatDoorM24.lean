import Derived.Test.YtjebpppjhkkebaaGreatDoorM23
/-
  Wal: a record more in a segment's row: what becomes of a log's blocks.
-/
set_option linter.unusedSimpArgs false
set_option linter.unusedVariables false
namespace Go.Proofs.YtjebpppjhkkebaaGreatDoor
open Go.RowKit
variable {G F H : Nat → Prop} {w w' : World} {lb mp db mb bx nm : Nat} {ms : List (Int × Sg)} {L L' : Lg} {D : Dk} {s : ByteArray}

theorem LoM.split (h : LoM G w lb mp db ms L) {k : Int} {rs : List ByteArray} (hk : getL L.m k = some rs) : ∃ (A B : List (Int × Sg)) (xa : Option Addr) (xc : Nat), ms = A ++ (k, ⟨xa, xc, rs⟩) :: B ∧ (∀ p ∈ A, p.1 ≠ k) ∧ (∀ p ∈ B, p.1 ≠ k) ∧ getL ms k = some ⟨xa, xc, rs⟩ := by
  have h1 := h.get k
  rw [hk] at h1
  obtain ⟨x, hx, hxr⟩ := Option.map_eq_some_iff.1 h1
  obtain ⟨xa, xc, xr⟩ := x
  simp only at hxr
  subst hxr
  have hm := getL_mem hx
  obtain ⟨A, B, rfl⟩ := List.append_of_mem hm
  have hn : ((A ++ (k, (⟨xa, xc, xr⟩ : Sg)) :: B).map (·.1)).Pairwise (fun a b => a < b) := by rw [← h.keys]; exact h.ok.rise
  rw [List.map_append, List.map_cons] at hn
  obtain ⟨_, h2, h3⟩ := List.pairwise_append.1 hn
  refine ⟨A, B, xa, xc, rfl, fun p hp e => ?_, fun p hp e => ?_, hx⟩
  · have := h3 p.1 (List.mem_map_of_mem hp) k (by simp); omega
  · have := (List.pairwise_cons.1 h2).1 p.1 (List.mem_map_of_mem hp); omega
/-- A log's blocks, and one more. -/
def more (G : Nat → Prop) (v : Value) (q : Nat) : Prop := G q ∨ v.ownBlock = some q
set_option maxHeartbeats 1000000 in
theorem LoM.lay {A B : List (Int × Sg)} {k : Int} {xa : Option Addr} {xc : Nat} {rs : List ByteArray} {w5 w6 w7 : World} {a' : Option Addr} {c' n' : Nat} {r : ByteArray} (h : LoM G w5 lb mp db (A ++ (k, ⟨xa, xc, rs⟩) :: B) L) (hA : ∀ p ∈ A, p.1 ≠ k) (hB : ∀ p ∈ B, p.1 ≠ k)
    (hn : n' = (rs ++ [r]).length) (hap : Appd eStr w5 w6 0 (.slice xa rs.length xc) (.slice a' n' c') rs [r]) (hm : MapL ckZ cvS w7 mp (setL (A ++ (k, ⟨xa, xc, rs⟩) :: B) k ⟨a', c', rs ++ [r]⟩)) (ht : Tn (fun q => q = mp) w6 w7) (hrs : rs.length + 1 ≤ 1000000) :
    LoM (more G (.slice a' n' c')) w7 lb mp db (A ++ (k, ⟨a', c', rs ++ [r]⟩) :: B) { L with m := setL L.m k (rs ++ [r]) } ∧ Tn G w5 w7 ∧ (∀ q, more G (.slice a' n' c') q → G q ∨ w5.heap.size ≤ q) := by
  subst hn
  rw [setL_mid hA hB] at hm
  have hx : (k, (⟨xa, xc, rs⟩ : Sg)) ∈ A ++ (k, (⟨xa, xc, rs⟩ : Sg)) :: B := by simp
  have hxo := h.off _ hx
  have hxg := h.gr _ hx
  simp only at hxo hxg
  have hlb : lb < w5.heap.size := World.block_lt_of_cell? _ _ h.c0
  have hmp : mp < w5.heap.size := h.lt mp h.gm
  have t1 : Tn G w5 w6 := hap.tn.mono (fun q hq => hxg q hq)
  have t2 : Tn G w5 w7 := t1.trans (ht.mono (fun q e => e ▸ h.gm))
  have n1 : ¬ (Value.slice xa rs.length xc).ownBlock = some lb := fun e => (hxo lb e).1 rfl
  have n2 : ¬ lb = mp := h.ne
  have cl : ∀ {o v}, w5.cell? ⟨lb, o, none⟩ = some v → w7.cell? ⟨lb, o, none⟩ = some v := fun hc => ht.cell (hap.tn.cell hc n1) n2
  have hnew : ∀ q, (Value.slice a' (rs ++ [r]).length c').ownBlock = some q → (Value.slice xa rs.length xc).ownBlock = some q ∨ w5.heap.size ≤ q := fun q hq => by
    rcases hap.block with hb | hb
    · exact .inl (hb ▸ hq)
    · exact .inr (hb q hq)
  have hs := h.sep
  rw [List.pairwise_append, List.pairwise_cons] at hs
  obtain ⟨sA, ⟨sx, sB⟩, sAB⟩ := hs
  have oldrow : ∀ p ∈ A ++ B, (∀ q, p.2.val.ownBlock = some q → (Value.slice xa rs.length xc).ownBlock ≠ some q) ∧ (∀ q, p.2.val.ownBlock = some q → q < w5.heap.size) ∧ Own eStr w5 0 p.2.val p.2.rs ∧ (∀ q, p.2.val.ownBlock = some q → q ≠ lb ∧ q ≠ mp) ∧ (∀ q, p.2.val.ownBlock = some q → G q) := fun p hp => by
    have hpm : p ∈ A ++ (k, (⟨xa, xc, rs⟩ : Sg)) :: B := by
      rcases List.mem_append.1 hp with hp | hp
      · exact List.mem_append_left _ hp
      · exact List.mem_append_right _ (List.mem_cons_of_mem _ hp)
    refine ⟨fun q hq => ?_, fun q hq => h.lt q (h.gr p hpm q hq), h.rows p hpm, h.off p hpm, h.gr p hpm⟩
    rcases List.mem_append.1 hp with hp | hp
    · exact sAB p hp _ List.mem_cons_self q hq
    · exact fun e => sx p hp q e hq
  have hmL : setL L.m k (rs ++ [r]) = (A.map (fun p => (p.1, p.2.rs))) ++ (k, rs ++ [r]) :: B.map (fun p => (p.1, p.2.rs)) := by
    rw [h.eq, List.map_append, List.map_cons]
    exact setL_mid (fun p hp e => by obtain ⟨x, hx, rfl⟩ := List.mem_map.1 hp; exact hA x hx e) (fun p hp e => by obtain ⟨x, hx, rfl⟩ := List.mem_map.1 hp; exact hB x hx e)
  have hkeys : (setL L.m k (rs ++ [r])).map (·.1) = L.m.map (·.1) := by
    rw [hmL, h.eq]; simp
  have hlen : (setL L.m k (rs ++ [r])).length = L.m.length := by
    have := congrArg List.length hkeys
    simpa using this
  refine ⟨⟨cl h.c0, cl h.c1, cl h.c2, cl h.c3, cl h.c4, cl h.c5, cl h.c6, cl h.c7, fun j => (ht.frozen (p := ⟨lb, j, none⟩) (Nat.lt_of_lt_of_le hlb hap.tn.size) n2).trans ((hap.tn.frozen (p := ⟨lb, j, none⟩) hlb n1).trans (h.fz j)), hm, ?_, ?_, ?_, h.ne, ?_, .inl h.gl, .inl h.gm, ?_, ?_, ?_⟩, t2, ?_⟩
  · show setL L.m k (rs ++ [r]) = _
    rw [hmL, List.map_append, List.map_cons]
  · intro p hp
    rcases List.mem_append.1 hp with hp1 | hp1
    · have ho := oldrow p (List.mem_append_left _ hp1)
      exact ht.row (hap.tn.row ho.2.2.1 (fun q hq e => ho.1 q hq e)) (fun q hq e => (ho.2.2.2.1 q hq).2 e)
    · rcases List.mem_cons.1 hp1 with rfl | hp1
      · exact ht.row hap.own (fun q hq e => by
          rcases hnew q hq with h1 | h1
          · exact (hxo q h1).2 e
          · omega)
      · have ho := oldrow p (List.mem_append_right _ hp1)
        exact ht.row (hap.tn.row ho.2.2.1 (fun q hq e => ho.1 q hq e)) (fun q hq e => (ho.2.2.2.1 q hq).2 e)
  · rw [List.pairwise_append, List.pairwise_cons]
    refine ⟨sA, ⟨fun p hp q hq e => ?_, sB⟩, fun p hp p' hp' q hq e => ?_⟩
    · have ho := oldrow p (List.mem_append_right _ hp)
      rcases hnew q hq with h1 | h1
      · exact ho.1 q e h1
      · have := ho.2.1 q e; omega
    · rcases List.mem_cons.1 hp' with rfl | hp'
      · have ho := oldrow p (List.mem_append_left _ hp)
        rcases hnew q e with h1 | h1
        · exact ho.1 q hq h1
        · have := ho.2.1 q hq; omega
      · exact sAB p hp p' (List.mem_cons_of_mem _ hp') q hq e
  · intro p hp q hq
    rcases List.mem_append.1 hp with hp1 | hp1
    · exact (oldrow p (List.mem_append_left _ hp1)).2.2.2.1 q hq
    · rcases List.mem_cons.1 hp1 with rfl | hp1
      · rcases hnew q hq with h1 | h1
        · exact hxo q h1
        · exact ⟨by omega, by omega⟩
      · exact (oldrow p (List.mem_append_right _ hp1)).2.2.2.1 q hq
  · intro p hp q hq
    rcases List.mem_append.1 hp with hp1 | hp1
    · exact .inl ((oldrow p (List.mem_append_left _ hp1)).2.2.2.2 q hq)
    · rcases List.mem_cons.1 hp1 with rfl | hp1
      · exact .inr hq
      · exact .inl ((oldrow p (List.mem_append_right _ hp1)).2.2.2.2 q hq)
  · intro q hq
    rcases hq with hq | hq
    · exact Nat.lt_of_lt_of_le (h.lt q hq) t2.size
    · exact Nat.lt_of_lt_of_le (hap.own.lt q hq).2 ht.size
  · refine ⟨h.ok.dir, ?_, ?_, ?_, ?_, h.ok.op, h.ok.long, h.ok.left, h.ok.size⟩
    · intro p hp
      have h1 : p.1 ∈ (setL L.m k (rs ++ [r])).map (·.1) := List.mem_map_of_mem hp
      rw [hkeys] at h1
      obtain ⟨p', hp', e⟩ := List.mem_map.1 h1
      rw [← e]
      exact h.ok.key p' hp'
    · show ((setL L.m k (rs ++ [r])).map (·.1)).Pairwise _
      rw [hkeys]
      exact h.ok.rise
    · show (setL L.m k (rs ++ [r])).length ≤ 20000
      rw [hlen]
      exact h.ok.few
    · intro p hp
      rcases setL_mem (m := L.m) (a := k) (v := rs ++ [r]) hp with rfl | hp
      · show (rs ++ [r]).length ≤ 1000000
        rw [List.length_append]; exact hrs
      · exact h.ok.recs p hp
  · intro q hq
    rcases hq with hq | hq
    · exact .inl hq
    · rcases hnew q hq with h1 | h1
      · exact .inl (hxg q h1)
      · exact .inr h1
theorem LoM.longer (h : LoM G w lb mp db ms L) {n : Int} (hn : 0 ≤ n ∧ n ≤ 1048576) : LoM G (w.setCell ⟨lb, 5, none⟩ (.int .i64 n)) lb mp db ms { L with long := n } :=
  h.upd (Tn.setCell (F := fun q => q = lb) w ⟨lb, 5, none⟩ _ rfl) (cell_sb h.c0 (by omega)) (cell_sb h.c1 (by omega)) (cell_sb h.c2 (by omega)) (cell_sb h.c3 (by omega)) (cell_sb h.c4 (by omega)) (World.cell?_setCell_same _ _ _ h.c5) (cell_sb h.c6 (by omega)) (cell_sb h.c7 (by omega)) (fun j => by rw [World.frozen?_setCell]; exact h.fz j) rfl ⟨h.ok.dir, h.ok.key, h.ok.rise, h.ok.few, h.ok.recs, h.ok.op, hn, h.ok.left, h.ok.size⟩
/-- What an act leaves that may make blocks of the log's own. -/
def Kept (G F : Nat → Prop) (w w' : World) (lb mp db mb : Nat) (e : Ending) (r : Int × Dk × Lg) : Prop :=
  e = .returned (.int .i64 r.1) ∧ ∃ G' F' : Nat → Prop, DkAt F' w' db mb r.2.1 ∧ LoAt G' w' lb mp db r.2.2 ∧ (∀ q, G' q → F' q ∧ ¬ two db mb q) ∧ (∀ q, F q → F' q) ∧ (∀ q, F' q → F q ∨ w.heap.size ≤ q) ∧ (∀ q, G' q → G q ∨ w.heap.size ≤ q) ∧ Tn (fun q => two db mb q ∨ G q) w w'
theorem Both.kept {e : Ending} {r : Int × Dk × Lg} (h : Both G F w w' lb mp db mb e r) (hG : ∀ q, G q → F q ∧ ¬ two db mb q) : Kept G F w w' lb mp db mb e r := by
  obtain ⟨h1, h2, h3, h4⟩ := h
  exact ⟨h1, G, F, h2, h3, hG, fun _ h => h, fun _ h => .inl h, fun _ h => .inl h, h4⟩
end Go.Proofs.YtjebpppjhkkebaaGreatDoor
