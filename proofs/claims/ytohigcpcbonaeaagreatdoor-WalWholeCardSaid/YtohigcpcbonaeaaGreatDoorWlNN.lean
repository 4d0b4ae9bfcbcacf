
/-
  Wal: texts of a law's own; a crash; how long a segment grows.
-/
import Derived.Test.YtohigcpcbonaeaaGreatDoorWlMM
set_option linter.unusedSimpArgs false
set_option linter.unusedVariables false
namespace Go.Proofs.YtohigcpcbonaeaaGreatDoor
open Go.RowKit Go.Lib
variable {F F' G G' H : Nat → Prop} {B : Nat} {w w' w0 : World} {lb mp db mb k n : Nat} {L L' L1 : Lg} {D D' D1 : Dk} {S S' : List (Nat × Fl)} {M : Option Fl} {z : Option Fz} {f : Fl} {dir r : ByteArray} {size q c : Int} {v : Value} {l : List ByteArray}

/-- A slice of texts of a law's own, in a block that F has not. -/
def OwnX (F : Nat → Prop) (w : World) (v : Value) (l : List ByteArray) : Prop := Own eStr w 0 v l ∧ ∀ q, v.ownBlock = some q → ¬ F q ∧ q < w.heap.size
theorem OwnX.go (h : OwnX F w v l) (s : Step F F' w w') : OwnX F' w' v l :=
  ⟨s.t.row h.1 (fun q hq e => (h.2 q hq).1 e), fun q hq => ⟨fun e => (s.n q e).elim (h.2 q hq).1 (fun e => by have := (h.2 q hq).2; omega), Nat.lt_of_lt_of_le (h.2 q hq).2 s.t.size⟩⟩
theorem OwnX.of (h : Own eStr w B v l) (hF : ∀ q, F q → q < B) : OwnX F w v l :=
  ⟨row_mono h (Nat.zero_le _), fun q hq => ⟨fun e => by have := hF q e; have := (h.lt q hq).1; omega, (h.lt q hq).2⟩⟩
theorem c_recordsO (h : WS B w0 w F G db mb lb mp D L) (htot : (L.m.flatMap (·.2)).length ≤ 1000000) (from_ : Int) {l : List ByteArray} (hl : L.records from_ = l) {n : Nat} (hn : l.length = n) :
    Calls Tryz.prog 8 #[.pointer (some ⟨lb, 0, none⟩), .int .i64 from_] w fun e w' => ∃ a c, e = .returned (.slice a n c) ∧ OwnX F w' (.slice a n c) l ∧ Below w.heap.size w w' := by
  refine (records_any h.l htot from_).mono ?_
  rintro e w' ⟨a, c, m, rfl, hm, ho, hb⟩
  rw [hl] at hm ho
  obtain rfl : m = n := hm.trans hn
  exact ⟨a, c, rfl, OwnX.of ho h.d.d.lt, hb⟩
theorem rdC_new (hF : ∀ q, F q → q < w.heap.size) (n : Int) : RdC F (w.alloc (.cells #[.int .i64 n] 3)) (.slice (some ⟨w.heap.size, 0, none⟩) 1 1) [n] := by
  refine ⟨_, 1, rfl, .inr ⟨w.heap.size, 0, rfl, fun e => by have := hF _ e; omega, by simp, fun i hi => ?_⟩⟩
  have h0 : i = 0 := by simp at hi; omega
  subst h0
  simp [go_sem]
/-- A crash, and power again. -/
theorem crash_restore (hr : Rise S) (cuts : List Int) (flip : Int) : ∃ (g : Nat → Int) (M1 : Option Fl), ((dkF (dmap dir S M) q z k).crash cuts flip).restore = dkF (dmap dir (S.map (fun p => (p.1, cutF p.2 (g p.1) flip))) M1) q z k ∧ (M = none → M1 = none) := by
  obtain ⟨g, c, h⟩ := crash_dmap (dir := dir) (M := M) hr cuts flip
  refine ⟨g, M.map (fun f => cutF f c flip), ?_, fun e => by rw [e]; rfl⟩
  unfold Dk.crash
  rw [if_pos (show (dkF (dmap dir S M) q z k).on = true from rfl)]
  show (⟨crashL cuts flip (sortB ((dmap dir S M).map (·.1))) 0 (dmap dir S M), true, q, z, k⟩ : Dk) = _
  rw [h]
  rfl
theorem mended_long (L : Lg) (D : Dk) : (L.mended D).2.2.long = L.long := by
  unfold Lg.mended
  split
  · rfl
  · dsimp only
    repeat' split
    all_goals rfl
theorem sync_long (L : Lg) (D : Dk) (h0 : 0 ≤ L.long) : 0 ≤ (L.rotate D).2.2.long ∧ (L.rotate D).2.2.long ≤ L.long := by
  have hm := mended_long L D
  unfold Lg.rotate
  simp only
  split
  · rw [hm]; exact ⟨h0, Int.le_refl _⟩
  · split
    · show 0 ≤ (L.mended D).2.2.long ∧ (L.mended D).2.2.long ≤ L.long
      rw [hm]; exact ⟨h0, Int.le_refl _⟩
    · exact ⟨Int.le_refl _, h0⟩
theorem begin_long (L : Lg) (D : Dk) (h0 : 0 ≤ L.long) : 0 ≤ (L.begin_ D).2.2.long ∧ (L.begin_ D).2.2.long ≤ L.long := by
  unfold Lg.begin_
  simp only
  split
  · exact ⟨h0, Int.le_refl _⟩
  · split
    · exact ⟨h0, Int.le_refl _⟩
    · exact ⟨Int.le_refl _, h0⟩
theorem lay_long (L : Lg) (D : Dk) (r : ByteArray) : (L.lay D r).2.2.long ≤ L.long + (framed r).size := by
  unfold Lg.lay
  simp only
  split
  · show L.long ≤ _; omega
  · exact Int.le_refl _
theorem append_long (L : Lg) (D : Dk) (r : ByteArray) (h0 : 0 ≤ L.long) : (L.append D r).2.2.long ≤ L.long + (framed r).size := by
  unfold Lg.append
  split
  · show L.long ≤ _; omega
  · have hm := mended_long L D
    obtain ⟨a, ha⟩ : ∃ a, L.mended D = a := ⟨_, rfl⟩
    rw [ha] at hm ⊢
    simp only
    split
    · omega
    · obtain ⟨b, hb, hb1⟩ : ∃ b, b = (if a.2.2.full r then a.2.2.rotate a.2.1 else (0, a.2.1, a.2.2)) ∧ (0 ≤ b.2.2.long ∧ b.2.2.long ≤ L.long) := by
        refine ⟨_, rfl, ?_⟩
        split
        · have := sync_long a.2.2 a.2.1 (by omega)
          omega
        · show 0 ≤ a.2.2.long ∧ a.2.2.long ≤ L.long
          omega
      rw [← hb]
      split
      · omega
      · obtain ⟨c, hc, hc1⟩ : ∃ c, c = (if b.2.2.op = 0 then b.2.2.begin_ b.2.1 else (0, b.2.1, b.2.2)) ∧ (0 ≤ c.2.2.long ∧ c.2.2.long ≤ L.long) := by
          refine ⟨_, rfl, ?_⟩
          split
          · have := begin_long b.2.2 b.2.1 (by omega)
            omega
          · show 0 ≤ b.2.2.long ∧ b.2.2.long ≤ L.long
            omega
        rw [← hc]
        split
        · omega
        · have := lay_long c.2.2 c.2.1 r
          omega
/-- An append, and how long the open segment is. -/
theorem c_append_lvl (h : WS B w0 w F G db mb lb mp (dkF (dmap dir S none) q none k) L) (hd : nmB dir = true) (hd40 : dir.size ≤ 40) (hsz : size ≤ 524288) (hv : Lv dir size L S) (r : ByteArray) (hrs : r.size ≤ 131072) (hk : k + 60 ≤ 1000000) (hS : S.length + 3 ≤ 20000) (hl : lastN S + 1 < 4294967296) (hlong : L.long ≤ 700000) :
    Calls Tryz.prog 9 #[.pointer (some ⟨lb, 0, none⟩), .string r] w fun e w' => ∃ c D' L' G' F', e = .returned (.int .i64 c) ∧ LvApp dir size q S r k (c, D', L') ∧ WS B w0 w' F' G' db mb lb mp D' L' ∧ Step F F' w w' ∧ L'.long ≤ L.long + (8 + r.size) := by
  have hml : L.m.length = S.length := by rw [hv.m]; unfold mOf; rw [List.length_map]
  have hopk : L.op ≠ 0 → ∃ rs, getL L.m L.op = some rs := by
    intro h0
    rcases hv with hv | ⟨A, n, f, rfl, hv⟩
    · exact hv.opk h0
    · exact absurd hv.op.1 h0
  have hfl : ∀ p ∈ S, p.2.data.size ≤ 1048576 := by
    intro p hp
    have h1 : (segN dir p.1, p.2) ∈ dmap dir S none := by
      unfold dmap
      exact List.mem_append_left _ (List.mem_map.2 ⟨p, hp, rfl⟩)
    exact (h.d.d.ok.syn _ h1).2
  have h0 : 0 ≤ L.long := by obtain ⟨ms, hm⟩ := h.l; exact hm.ok.long.1
  refine (w_append h.l h.d.d h.sub rfl hk (n := lastN S) (by omega) (last_m hv.m) (by omega) r hrs hopk (few_of hv.m h.d.d) (by omega)).mono ?_
  intro e w' hkp
  obtain ⟨he, G', F', h1, h2⟩ := hkp.acted h
  have h3 := append_long L (dkF (dmap dir S none) q none k) r h0
  rw [framed_size] at h3
  have h4 := append_lv (q := q) (k := k) hd hd40 hsz hv hrs hS hl hfl
  obtain ⟨x, hx⟩ : ∃ x, L.append (dkF (dmap dir S none) q none k) r = x := ⟨_, rfl⟩
  rw [hx] at he h1 h3 h4
  obtain ⟨c, D', L'⟩ := x
  exact ⟨c, D', L', G', F', he, h4, h1, h2, by simp only at h3; omega⟩
theorem recs8 (b : ByteArray) : 8 * (recsOf b).length ≤ b.size := by
  obtain ⟨t, h1, h2, _⟩ := scan_spec b.data.toList
  have h3 := frames_ge (scan b.data.toList).1
  have h4 := congrArg List.length h1
  rw [List.length_append, ← ba_size] at h4
  unfold recsOf
  rw [List.length_map]
  omega
theorem allR_le (S : List (Nat × Fl)) : 8 * (allR S).length ≤ usedS S := by
  induction S with
  | nil => exact Nat.zero_le _
  | cons p S ih =>
    have h1 := recs8 p.2.data
    show 8 * (recsOf p.2.data ++ allR S).length ≤ p.2.data.size + usedS S
    rw [List.length_append]
    omega
theorem cutF_le (f : Fl) (c flip : Int) : (cutF f c flip).data.size ≤ f.data.size := by
  have h1 : (cutF f c flip).data.size = (kept f c flip).length := by unfold cutF; simp [ByteArray.size]
  rw [h1, ba_size]
  unfold kept
  split
  · rw [spoil_len, List.length_take]; omega
  · rw [List.length_take]; omega
theorem used_cut (g : Nat → Int) (flip : Int) : ∀ S : List (Nat × Fl), usedS (S.map (fun p => (p.1, cutF p.2 (g p.1) flip))) ≤ usedS S
  | [] => Nat.le_refl _
  | p :: S => by
    have h1 := cutF_le p.2 (g p.1) flip
    have h2 := used_cut g flip S
    show (cutF p.2 (g p.1) flip).data.size + usedS (S.map (fun p => (p.1, cutF p.2 (g p.1) flip))) ≤ p.2.data.size + usedS S
    omega
section
variable {P : Program} {ops : Array Oper} {Q : Exit → Act → World → Prop} {a : Act} {w : World} {rest : List Oper} {o : Oper} {α : Type} {T E : TypeId} {k by_ : Nat} {cell : α → List Value}
/-- append, of one and of many, where a guard stands ahead of it that lets it through. -/
theorem wpl_appG (e : Elm P T E k by_ cell) (hw : Region.wanted o (yielded ops a.tmps) = true) (s x : Operand) (ho : o.op = .call { callee := .builtin .append, args := #[s, x], argTypes := #[T, T] }) {B : Nat} {v xv : Value} {l l2 : List α} (hs : a.eval s = v) (hx : a.eval x = xv)
    (hown : Own e w B v l) (hsrc : Src e w xv l2) (hlen : l.length + l2.length ≤ 100000000) (hB : B ≤ w.heap.size)
    (h : ∀ a' cap w', Own e w' B (.slice a' (l.length + l2.length) cap) (l ++ l2) → Below B w w' → wpList P ops Q rest (a.put o.dst (.slice a' (l.length + l2.length) cap)) w') : wpList P ops Q (o :: rest) a w :=
  wpList_step fun K hK => by
    rw [if_pos hw]
    exact wp_app e s x ho hs hx hown hsrc hlen hB fun a' cap w' h2 h3 _ _ => hK _ _ (h a' cap w' h2 h3)
end
end Go.Proofs.YtohigcpcbonaeaaGreatDoor
