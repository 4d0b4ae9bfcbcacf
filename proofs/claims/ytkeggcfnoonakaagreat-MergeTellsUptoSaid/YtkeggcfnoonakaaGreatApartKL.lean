
/-
  Book: Apart, where lists of these kinds were kept: Keys Lists.
-/
import Derived.Test.YtkeggcfnoonakaaGreatBkNil
import Derived.Test.YtkeggcfnoonakaaGreatBkKeysE
import Derived.Test.YtkeggcfnoonakaaGreatBlistsE
set_option linter.unusedSimpArgs false
set_option linter.unusedVariables false
namespace Go.Proofs.YtkeggcfnoonakaaGreat
open Go.RowKit

/-- Of the other kinds nothing was kept. -/
def ApN (bk : Nat) (w : World) : Prop := ∀ o, o < 30 → o ≠ 6 → o ≠ 7 → o ≠ 28 → o ≠ 29 → w.cell? ⟨bk, o, none⟩ = some (.slice none 0 0)
theorem mset_foot {α : Type} {mk : Nat → Nat → α} {vo : Value} {S : List (Sl × List α)} {n q : Nat} (h : footL vo (mset mk n S) q) : footL vo S q := footL_congr (mset_fst mk n S) q h
theorem grow_foot {P : Program} {T E TS : TypeId} {k by_ : Nat} {α : Type} {cell : α → List Value} {e : Elm P T E k by_ cell} {eS : Elm P TS T 1 24 sCell} {mk : Nat → Nat → α} {w0 wr : World} {B : Nat} {vo outv : Value} {S Sg : List (Sl × List α)} {i q : Nat} (h : Grow e eS mk w0 wr B vo S outv Sg i) (hq : footL outv Sg q) : footL vo S q ∨ w0.heap.size ≤ q := by
  rcases hq with hq | ⟨j, hj, hq⟩
  · exact .inr (h.freshO q hq)
  · exact (h.freshE j hj q hq).imp (fun ⟨hj', h2⟩ => .inr ⟨j, hj', h2⟩) id
theorem mset_lens {α : Type} {mk : Nat → Nat → α} {S : List (Sl × List α)} {M : Nat} (h : ∀ i (hi : i < S.length), S[i].2.length ≤ M) : ∀ i (hi : i < (mset mk S.length S).length), (mset mk S.length S)[i].2.length ≤ M := by
  intro i hi
  have hi' : i < S.length := by rwa [mset_len] at hi
  rw [mset_get mk S.length i S hi hi', if_pos hi', marks_len]
  exact h i hi'
theorem grow_lens {P : Program} {T E TS : TypeId} {k by_ : Nat} {α : Type} {cell : α → List Value} {e : Elm P T E k by_ cell} {eS : Elm P TS T 1 24 sCell} {mk : Nat → Nat → α} {w0 wr : World} {B : Nat} {vo outv : Value} {S Sg : List (Sl × List α)} {M : Nat} (g : Grow e eS mk w0 wr B vo S outv Sg S.length) (h : ∀ i (hi : i < S.length), S[i].2.length ≤ M) : ∀ i (hi : i < Sg.length), Sg[i].2.length ≤ M + 72 := by
  intro i hi
  have hi' : i < S.length := g.len ▸ hi
  rw [g.mkd i hi hi', marks_len]
  have := h i hi'
  omega

theorem rdK_tn {w w' : World} {x : Value} {l : List KV} (h : RdK w x l) (ht : Tn (fun _ => False) w w') : RdK w' x l := h.below (ht.below (Nat.le_refl _) (fun _ e => e.elim))
theorem rows_mset {mk : Nat → Nat → LK} {n i j k : Nat} {S : List (Sl × List LK)} (h : Rows (mset mk n S) i j k) : Rows S i j k := by
  obtain ⟨hj, h1, h2⟩ := h
  have hj' : j < S.length := by rwa [mset_len] at hj
  refine ⟨hj', h1, ?_⟩
  rw [mset_get mk n j S hj hj'] at h2
  dsimp only at h2
  split at h2
  · rwa [marks_len] at h2
  · exact h2
theorem mkd_core {w : World} {N : Nat} {mk : Nat → Nat → LK} {S : List (Sl × List LK)} (hm : Mkd mk S) {A : Nat → Nat → Prop} (ha : MkAll w N mk A) (hA : ∀ i (hi : i < S.length), ∀ k, k < S[i].2.length → A i k) : (∀ i (hi : i < S.length), S[i].2.map coreK = marks mkL i 0 S[i].2.length) ∧ ∀ i (hi : i < S.length), ∀ x ∈ S[i].2, RdK w x.1.val x.2 := by
  refine ⟨fun i hi => ?_, fun i hi x hx => ?_⟩
  · rw [hm i hi, marks_len]
    unfold marks
    rw [List.map_map]
    exact List.map_congr_left (fun t ht => (ha i (0 + t) (hA i hi (0 + t) (by rw [Nat.zero_add]; exact List.mem_range.1 ht))).1)
  · rw [hm i hi] at hx
    obtain ⟨t, ht, rfl⟩ := List.mem_map.1 hx
    exact rdK_own (ha i (0 + t) (hA i hi (0 + t) (by rw [Nat.zero_add]; exact List.mem_range.1 ht))).2
theorem ga_rows {S : List (Sl × List LK)} {i : Nat} (hi : i < S.length) {k : Nat} (hk : k < S[i].2.length + 72) : GA S S.length 0 i k := ⟨hi, .inl ⟨hi, hk⟩⟩

set_option maxRecDepth 100000 in
set_option maxHeartbeats 8000000 in
theorem apart_any {w : World} {bk B : Nat} {v0 u0 : Value} {S0 T0 : List (Sl × List KV)} {v1 u1 : Value} {S1 T1 : List (Sl × List LK)} (hB : B ≤ w.heap.size) (hbk : bk < B) (hn : ApN bk w) (k0 : Kd eKV eSl w bk 6 B v0 u0 S0 T0) (k1 : KdL kLists kListsS w bk 28 B v1 u1 S1 T1) (r1 : ∀ i (hi : i < S1.length), ∀ x ∈ S1[i].2, RdK w x.1.val x.2 ∧ x.2.length ≤ 100000) (t1 : ∀ i (hi : i < T1.length), ∀ x ∈ T1[i].2, RdK w x.1.val x.2) (d01 : ∀ q, footL v0 S0 q → ¬ footL v1 S1 q) (n0 : S0.length ≤ 250) (l0 : ∀ i (hi : i < S0.length), S0[i].2.length ≤ 50000) (n1 : S1.length ≤ 250) (l1 : ∀ i (hi : i < S1.length), S1[i].2.length ≤ 50000) :
    Calls Tryz.prog 19 #[.pointer (some ⟨bk, 0, none⟩)] w fun e w' => e = .returned (.bool true) ∧ Tn (fun q => footL v0 S0 q ∨ footL v1 S1 q) w w' := by
  have Hd01 := Lib.hid d01
  have Hn0 := Lib.hid n0
  have Hl0 := Lib.hid l0
  have Hn1 := Lib.hid n1
  have Hl1 := Lib.hid l1
  have Hr1 := Lib.hid r1
  have Ht1 := Lib.hid t1
  have Hb0 := Lib.hid (show ¬ footL v0 S0 bk from fun hq => by have := (k0.l.lt hq).1; omega)
  have Hb1 := Lib.hid (show ¬ footL v1 S1 bk from fun hq => by have := (k1.l.lt hq).1; omega)
  have HB := Lib.hid (And.intro hB hbk)
  have A0 := Lib.hid (And.intro hn (And.intro k0 k1))
  clear hn hB hbk k0 k1 d01 n0 l0 n1 l1 r1 t1
  go_enter Tryz.func19, Tryz.ntmps19
  go_wp2_with fail
  refine (still_Texts (A0.out.1 0 (by decide) (by decide) (by decide) (by decide) (by decide))).mono ?_
  rintro e w' ⟨rfl, rfl⟩
  go_wp2_with fail
  refine (still_Ints (A0.out.1 2 (by decide) (by decide) (by decide) (by decide) (by decide))).mono ?_
  rintro e w' ⟨rfl, rfl⟩
  go_wp2_with fail
  refine (still_Vecs (A0.out.1 4 (by decide) (by decide) (by decide) (by decide) (by decide))).mono ?_
  rintro e w' ⟨rfl, rfl⟩
  go_wp2_with fail
  refine (still_Keys (A0.out.2.1) (by have := Hn0.out; omega) (fun i hi => by have := Hl0.out i hi; omega)).mono ?_
  rintro e x1 ⟨rfl, a1, hw⟩
  have tn : Tn (fun _ => False) w x1 := by rw [hw]; exact tn_drewN _ _
  have A1 := Lib.hid (And.intro (fun o h0 h1 h2 h3 h4 => tn.cell (A0.out.1 o h0 h1 h2 h3 h4) (fun e => e) : ApN bk x1) (And.intro ((A0.out.2.1).tn tn (fun e => e) (fun _ _ e => e)) ((A0.out.2.2).tn tn (fun e => e) (fun _ _ e => e))))
  have Z1 := Lib.hid (tn)
  clear hw tn
  go_wp2_with fail
  refine (still_Pairs (A1.out.1 8 (by decide) (by decide) (by decide) (by decide) (by decide))).mono ?_
  rintro e w' ⟨rfl, rfl⟩
  go_wp2_with fail
  refine (still_Versions (A1.out.1 10 (by decide) (by decide) (by decide) (by decide) (by decide))).mono ?_
  rintro e w' ⟨rfl, rfl⟩
  go_wp2_with fail
  refine (still_Writes (A1.out.1 12 (by decide) (by decide) (by decide) (by decide) (by decide))).mono ?_
  rintro e w' ⟨rfl, rfl⟩
  go_wp2_with fail
  refine (still_Txns (A1.out.1 14 (by decide) (by decide) (by decide) (by decide) (by decide))).mono ?_
  rintro e w' ⟨rfl, rfl⟩
  go_wp2_with fail
  refine (still_Files (A1.out.1 16 (by decide) (by decide) (by decide) (by decide) (by decide))).mono ?_
  rintro e w' ⟨rfl, rfl⟩
  go_wp2_with fail
  refine (still_Notes (A1.out.1 18 (by decide) (by decide) (by decide) (by decide) (by decide))).mono ?_
  rintro e w' ⟨rfl, rfl⟩
  go_wp2_with fail
  refine (still_Leases (A1.out.1 20 (by decide) (by decide) (by decide) (by decide) (by decide))).mono ?_
  rintro e w' ⟨rfl, rfl⟩
  go_wp2_with fail
  refine (still_Letters (A1.out.1 22 (by decide) (by decide) (by decide) (by decide) (by decide))).mono ?_
  rintro e w' ⟨rfl, rfl⟩
  go_wp2_with fail
  refine (still_Steps (A1.out.1 24 (by decide) (by decide) (by decide) (by decide) (by decide))).mono ?_
  rintro e w' ⟨rfl, rfl⟩
  go_wp2_with fail
  refine (still_Reals (A1.out.1 26 (by decide) (by decide) (by decide) (by decide) (by decide))).mono ?_
  rintro e w' ⟨rfl, rfl⟩
  go_wp2_with fail
  refine (still_Lists (A1.out.2.2) (by have := Hn1.out; omega) (fun i hi => by have := Hl1.out i hi; omega) (fun i hi x hx => ⟨rdK_tn (Hr1.out i hi x hx).1 (Z1.out), (Hr1.out i hi x hx).2⟩) (fun i hi x hx => rdK_tn (Ht1.out i hi x hx) (Z1.out))).mono ?_
  rintro e x2 ⟨rfl, a2, hw⟩
  have tn : Tn (fun _ => False) x1 x2 := by rw [hw]; exact tn_drewN _ _
  have A2 := Lib.hid (And.intro (fun o h0 h1 h2 h3 h4 => tn.cell (A1.out.1 o h0 h1 h2 h3 h4) (fun e => e) : ApN bk x2) (And.intro ((A1.out.2.1).tn tn (fun e => e) (fun _ _ e => e)) ((A1.out.2.2).tn tn (fun e => e) (fun _ _ e => e))))
  have Z2 := Lib.hid (Z1.out.trans tn)
  clear hw tn
  have hs0 := Z2.out.size
  have B0 := Lib.hid (And.intro A2.out.1 (And.intro (Z2.out.mono (fun _ e => e.elim) : Tn (fun q => footL v0 S0 q ∨ footL v1 S1 q) w x2) (And.intro A2.out.2.1.c0 (And.intro A2.out.2.1.l (And.intro A2.out.2.2.c0 A2.out.2.2.l)))))
  go_wp2_with fail
  refine (put_Versions (B0.out.1 10 (by decide) (by decide) (by decide) (by decide) (by decide))).mono ?_
  rintro e w' ⟨rfl, rfl⟩
  go_wp2_with fail
  refine (put_Txns (B0.out.1 14 (by decide) (by decide) (by decide) (by decide) (by decide))).mono ?_
  rintro e w' ⟨rfl, rfl⟩
  go_wp2_with fail
  refine (put_Leases (B0.out.1 20 (by decide) (by decide) (by decide) (by decide) (by decide))).mono ?_
  rintro e w' ⟨rfl, rfl⟩
  go_wp2_with fail
  refine (put_Steps (B0.out.1 24 (by decide) (by decide) (by decide) (by decide) (by decide))).mono ?_
  rintro e w' ⟨rfl, rfl⟩
  go_wp2_with fail
  refine (put_Lists B0.out.2.2.2.2.1 HB.out.2 B0.out.2.2.2.2.2 (by have := Hn1.out; omega) (fun i hi => by have := Hl1.out i hi; omega)).mono ?_
  rintro e y1 ⟨rfl, mkl, hl, hka, ht⟩
  have HK1 := Lib.hid hka
  clear hka
  have HF0 := Lib.hid (fun q hq => (B0.out.2.2.2.1.lt (q := q) hq).2 : ∀ q, footL v0 S0 q → q < x2.heap.size)
  have HF1 := Lib.hid (fun q hq => (B0.out.2.2.2.2.2.lt (q := q) hq).2 : ∀ q, footL v1 S1 q → q < x2.heap.size)
  have B1 := Lib.hid (And.intro (fun o h0 h1 h2 h3 h4 => ht.cell (B0.out.1 o h0 h1 h2 h3 h4) Hb1.out : ApN bk y1) (And.intro (B0.out.2.1.trans (ht.mono (fun q hq => (by first | exact .inl hq | exact .inr hq | exact hq)))) (And.intro (ht.cell B0.out.2.2.1 Hb1.out) (And.intro (B0.out.2.2.2.1.tn ht (fun q hq h2 => (Hd01.out q hq) h2)) (And.intro (ht.cell B0.out.2.2.2.2.1 Hb1.out) hl)))))
  have hsz1 := ht.size
  clear hl ht
  have HNN := Lib.hid (hsz1 : x2.heap.size ≤ y1.heap.size)
  clear hsz1
  go_wp2_with fail
  refine (put_Texts (B1.out.1 0 (by decide) (by decide) (by decide) (by decide) (by decide))).mono ?_
  rintro e w' ⟨rfl, rfl⟩
  go_wp2_with fail
  refine (put_Ints (B1.out.1 2 (by decide) (by decide) (by decide) (by decide) (by decide))).mono ?_
  rintro e w' ⟨rfl, rfl⟩
  go_wp2_with fail
  refine (put_Vecs (B1.out.1 4 (by decide) (by decide) (by decide) (by decide) (by decide))).mono ?_
  rintro e w' ⟨rfl, rfl⟩
  go_wp2_with fail
  refine (put_Keys B1.out.2.2.1 HB.out.2 B1.out.2.2.2.1 (by have := Hn0.out; omega) (fun i hi => by have := Hl0.out i hi; omega)).mono ?_
  rintro e y2 ⟨rfl, hl, ht⟩
  have HK2 := Lib.hid (HK1.out.tnLt ht HF0.out)
  clear HK1
  have B2 := Lib.hid (And.intro (fun o h0 h1 h2 h3 h4 => ht.cell (B1.out.1 o h0 h1 h2 h3 h4) Hb0.out : ApN bk y2) (And.intro (B1.out.2.1.trans (ht.mono (fun q hq => (by first | exact .inl hq | exact .inr hq | exact hq)))) (And.intro (ht.cell B1.out.2.2.1 Hb0.out) (And.intro hl (And.intro (ht.cell B1.out.2.2.2.2.1 Hb0.out) (B1.out.2.2.2.2.2.tn ht (fun q hq h2 => (Hd01.out q h2) (mset_foot hq))))))))
  have hsz2 := ht.size
  clear hl ht
  have HNN2 := Lib.hid (Nat.le_trans HNN.out hsz2)
  clear HNN hsz2
  have HNN := HNN2
  clear HNN2
  go_wp2_with fail
  refine (put_Pairs (B2.out.1 8 (by decide) (by decide) (by decide) (by decide) (by decide))).mono ?_
  rintro e w' ⟨rfl, rfl⟩
  go_wp2_with fail
  refine (put_Writes (B2.out.1 12 (by decide) (by decide) (by decide) (by decide) (by decide))).mono ?_
  rintro e w' ⟨rfl, rfl⟩
  go_wp2_with fail
  refine (put_Files (B2.out.1 16 (by decide) (by decide) (by decide) (by decide) (by decide))).mono ?_
  rintro e w' ⟨rfl, rfl⟩
  go_wp2_with fail
  refine (put_Notes (B2.out.1 18 (by decide) (by decide) (by decide) (by decide) (by decide))).mono ?_
  rintro e w' ⟨rfl, rfl⟩
  go_wp2_with fail
  refine (put_Letters (B2.out.1 22 (by decide) (by decide) (by decide) (by decide) (by decide))).mono ?_
  rintro e w' ⟨rfl, rfl⟩
  go_wp2_with fail
  refine (put_Reals (B2.out.1 26 (by decide) (by decide) (by decide) (by decide) (by decide))).mono ?_
  rintro e w' ⟨rfl, rfl⟩
  go_wp2_with fail
  refine (grow_Texts (B2.out.1 0 (by decide) (by decide) (by decide) (by decide) (by decide))).mono ?_
  rintro e w' ⟨rfl, rfl⟩
  go_wp2_with fail
  refine (grow_Ints (B2.out.1 2 (by decide) (by decide) (by decide) (by decide) (by decide))).mono ?_
  rintro e w' ⟨rfl, rfl⟩
  go_wp2_with fail
  refine (grow_Vecs (B2.out.1 4 (by decide) (by decide) (by decide) (by decide) (by decide))).mono ?_
  rintro e w' ⟨rfl, rfl⟩
  go_wp2_with fail
  have hml : (mset mkKeys S0.length S0).length = S0.length := mset_len _ _ _
  refine (grow_Keys B2.out.2.2.1 HB.out.2 B2.out.2.2.2.1 (by rw [hml]; have := Hn0.out; omega) (fun i hi => by have := mset_lens (mk := mkKeys) Hl0.out i hi; omega) (mset_all mkKeys S0) (Nat.le_trans HB.out.1 B2.out.2.1.size)).mono ?_
  rintro e y3 ⟨g0, Sg0, rfl, hg⟩
  have hg0 := hg
  rw [hml] at hg
  have HK3 := Lib.hid (HK2.out.tnLt hg.tn (fun q hq => HF0.out q (mset_foot hq)))
  clear HK2
  have hnn := HNN.out
  have HNN2 := Lib.hid (Nat.le_trans hnn hg.tn.size)
  clear hnn HNN
  have HNN := HNN2
  clear HNN2
  have ht : Tn (footL v0 S0) _ y3 := hg.tn.mono (fun q hq => mset_foot hq)
  have B3 := Lib.hid (And.intro (fun o h0 h1 h2 h3 h4 => ht.cell (B2.out.1 o h0 h1 h2 h3 h4) Hb0.out : ApN bk y3) (And.intro (B2.out.2.1.trans (ht.mono (fun q hq => (by first | exact .inl hq | exact .inr hq | exact hq)))) (And.intro (ht.cell B2.out.2.2.1 Hb0.out) (And.intro hg.l (And.intro (ht.cell B2.out.2.2.2.2.1 Hb0.out) (B2.out.2.2.2.2.2.tn ht (fun q hq h2 => (Hd01.out q h2) (mset_foot hq))))))))
  have hfar : ∀ q, footL g0 Sg0 q → ¬ (footL v1 S1 q) := fun q hq h2 => by
    rcases grow_foot hg hq with h | h
    · exact (Hd01.out q (mset_foot h)) h2
    · have := (B2.out.2.2.2.2.2.lt (q := q) (footL_congr (mset_fst _ _ _).symm q h2)).2; omega
  have G0 := Lib.hid (And.intro hg.g (And.intro (mset_len mkKeys S0.length S0 ▸ hg.len : Sg0.length = S0.length) (And.intro (grow_lens hg0 (mset_lens (mk := mkKeys) Hl0.out)) (And.intro (Grow.mkd_all hg0) hfar))))
  clear hg hg0 ht hfar hml
  go_wp2_with fail
  refine (grow_Pairs (B3.out.1 8 (by decide) (by decide) (by decide) (by decide) (by decide))).mono ?_
  rintro e w' ⟨rfl, rfl⟩
  go_wp2_with fail
  refine (grow_Versions (B3.out.1 10 (by decide) (by decide) (by decide) (by decide) (by decide))).mono ?_
  rintro e w' ⟨rfl, rfl⟩
  go_wp2_with fail
  refine (grow_Writes (B3.out.1 12 (by decide) (by decide) (by decide) (by decide) (by decide))).mono ?_
  rintro e w' ⟨rfl, rfl⟩
  go_wp2_with fail
  refine (grow_Txns (B3.out.1 14 (by decide) (by decide) (by decide) (by decide) (by decide))).mono ?_
  rintro e w' ⟨rfl, rfl⟩
  go_wp2_with fail
  refine (grow_Files (B3.out.1 16 (by decide) (by decide) (by decide) (by decide) (by decide))).mono ?_
  rintro e w' ⟨rfl, rfl⟩
  go_wp2_with fail
  refine (grow_Notes (B3.out.1 18 (by decide) (by decide) (by decide) (by decide) (by decide))).mono ?_
  rintro e w' ⟨rfl, rfl⟩
  go_wp2_with fail
  refine (grow_Leases (B3.out.1 20 (by decide) (by decide) (by decide) (by decide) (by decide))).mono ?_
  rintro e w' ⟨rfl, rfl⟩
  go_wp2_with fail
  refine (grow_Letters (B3.out.1 22 (by decide) (by decide) (by decide) (by decide) (by decide))).mono ?_
  rintro e w' ⟨rfl, rfl⟩
  go_wp2_with fail
  refine (grow_Steps (B3.out.1 24 (by decide) (by decide) (by decide) (by decide) (by decide))).mono ?_
  rintro e w' ⟨rfl, rfl⟩
  go_wp2_with fail
  refine (grow_Reals (B3.out.1 26 (by decide) (by decide) (by decide) (by decide) (by decide))).mono ?_
  rintro e w' ⟨rfl, rfl⟩
  go_wp2_with fail
  have hml : (mset mkl S1.length S1).length = S1.length := mset_len _ _ _
  have hBN : x2.heap.size ≤ y3.heap.size := by have := HNN.out; omega
  refine (grow_Lists B3.out.2.2.2.2.1 HB.out.2 B3.out.2.2.2.2.2 (by rw [hml]; have := Hn1.out; omega) (fun i hi => by have := mset_lens (mk := mkl) Hl1.out i hi; omega) (mset_all mkl S1) (fun i k ha => HK3.out i k (rows_mset (by rw [hml] at ha; exact ha))) hBN (fun q hq => HF1.out q (mset_foot hq)) (Nat.le_trans HB.out.1 B3.out.2.1.size)).mono ?_
  rintro e y4 ⟨g1, Sg1, mkg, rfl, hg, hgl⟩
  have HGL := Lib.hid (And.intro hgl hg)
  clear hgl hBN
  have hg0 := hg
  rw [hml] at hg
  have ht : Tn (footL v1 S1) _ y4 := hg.tn.mono (fun q hq => mset_foot hq)
  have B4 := Lib.hid (And.intro (fun o h0 h1 h2 h3 h4 => ht.cell (B3.out.1 o h0 h1 h2 h3 h4) Hb1.out : ApN bk y4) (And.intro (B3.out.2.1.trans (ht.mono (fun q hq => (by first | exact .inl hq | exact .inr hq | exact hq)))) (And.intro (ht.cell B3.out.2.2.1 Hb1.out) (And.intro (B3.out.2.2.2.1.tn ht (fun q hq h2 => (Hd01.out q (mset_foot hq)) h2)) (And.intro (ht.cell B3.out.2.2.2.2.1 Hb1.out) hg.l)))))
  have G0_4 := Lib.hid (And.intro (G0.out.1.tn ht (fun q hq h2 => G0.out.2.2.2.2 q hq (by first | exact .inl h2 | exact .inr h2 | exact h2))) G0.out.2)
  clear G0
  have G0 := G0_4
  clear G0_4
  have hfar : ∀ q, footL g1 Sg1 q → ¬ (False) := fun q hq h2 => h2
  have G1 := Lib.hid (And.intro hg.g (And.intro (mset_len mkl S1.length S1 ▸ hg.len : Sg1.length = S1.length) (And.intro (grow_lens hg0 (mset_lens (mk := mkl) Hl1.out)) (And.intro (Grow.mkd_all hg0) hfar))))
  clear hg hg0 ht hfar hml
  have M0 := Lib.hid (Below.refl y4.heap.size y4)
  go_wp2_with fail
  refine (marked_Texts _).mono ?_
  rintro e w' ⟨rfl, rfl⟩
  have cc := (M0.out.cell (p := ⟨bk, 0, none⟩) (World.block_lt_of_cell? _ _ (B4.out.1 0 (by decide) (by decide) (by decide) (by decide) (by decide)))).trans (B4.out.1 0 (by decide) (by decide) (by decide) (by decide) (by decide))
  go_wp2_with fail
  clear cc
  refine (marked_Texts _).mono ?_
  rintro e w' ⟨rfl, rfl⟩
  go_wp2_with fail
  refine (marked_Ints _).mono ?_
  rintro e w' ⟨rfl, rfl⟩
  have cc := (M0.out.cell (p := ⟨bk, 2, none⟩) (World.block_lt_of_cell? _ _ (B4.out.1 2 (by decide) (by decide) (by decide) (by decide) (by decide)))).trans (B4.out.1 2 (by decide) (by decide) (by decide) (by decide) (by decide))
  go_wp2_with fail
  clear cc
  refine (marked_Ints _).mono ?_
  rintro e w' ⟨rfl, rfl⟩
  go_wp2_with fail
  refine (marked_Vecs _).mono ?_
  rintro e w' ⟨rfl, rfl⟩
  have cc := (M0.out.cell (p := ⟨bk, 4, none⟩) (World.block_lt_of_cell? _ _ (B4.out.1 4 (by decide) (by decide) (by decide) (by decide) (by decide)))).trans (B4.out.1 4 (by decide) (by decide) (by decide) (by decide) (by decide))
  go_wp2_with fail
  clear cc
  refine (marked_Vecs _).mono ?_
  rintro e w' ⟨rfl, rfl⟩
  go_wp2_with fail
  refine (marked_Keys (G0.out.1.below M0.out) (by rw [G0.out.2.1]; have := Hn0.out; omega) (fun i hi => by have := G0.out.2.2.1 i hi; omega) G0.out.2.2.2.1).mono ?_
  rintro e z1 ⟨rfl, hb⟩
  have M1 := Lib.hid (M0.out.trans (hb.mono M0.out.size))
  clear hb
  have cc := (M1.out.cell (p := ⟨bk, 6, none⟩) (World.block_lt_of_cell? _ _ B4.out.2.2.1)).trans B4.out.2.2.1
  go_wp2_with fail
  clear cc
  refine (marked_Keys (B4.out.2.2.2.1.below M1.out) (by rw [mset_len]; have := Hn0.out; omega) (fun i hi => by have := mset_lens (mk := mkKeys) Hl0.out i hi; omega) (mset_all mkKeys S0)).mono ?_
  rintro e z2 ⟨rfl, hb⟩
  have M2 := Lib.hid (M1.out.trans (hb.mono M1.out.size))
  clear hb
  go_wp2_with fail
  refine (marked_Pairs _).mono ?_
  rintro e w' ⟨rfl, rfl⟩
  have cc := (M2.out.cell (p := ⟨bk, 8, none⟩) (World.block_lt_of_cell? _ _ (B4.out.1 8 (by decide) (by decide) (by decide) (by decide) (by decide)))).trans (B4.out.1 8 (by decide) (by decide) (by decide) (by decide) (by decide))
  go_wp2_with fail
  clear cc
  refine (marked_Pairs _).mono ?_
  rintro e w' ⟨rfl, rfl⟩
  go_wp2_with fail
  refine (marked_Versions _).mono ?_
  rintro e w' ⟨rfl, rfl⟩
  have cc := (M2.out.cell (p := ⟨bk, 10, none⟩) (World.block_lt_of_cell? _ _ (B4.out.1 10 (by decide) (by decide) (by decide) (by decide) (by decide)))).trans (B4.out.1 10 (by decide) (by decide) (by decide) (by decide) (by decide))
  go_wp2_with fail
  clear cc
  refine (marked_Versions _).mono ?_
  rintro e w' ⟨rfl, rfl⟩
  go_wp2_with fail
  refine (marked_Writes _).mono ?_
  rintro e w' ⟨rfl, rfl⟩
  have cc := (M2.out.cell (p := ⟨bk, 12, none⟩) (World.block_lt_of_cell? _ _ (B4.out.1 12 (by decide) (by decide) (by decide) (by decide) (by decide)))).trans (B4.out.1 12 (by decide) (by decide) (by decide) (by decide) (by decide))
  go_wp2_with fail
  clear cc
  refine (marked_Writes _).mono ?_
  rintro e w' ⟨rfl, rfl⟩
  go_wp2_with fail
  refine (marked_Txns _).mono ?_
  rintro e w' ⟨rfl, rfl⟩
  have cc := (M2.out.cell (p := ⟨bk, 14, none⟩) (World.block_lt_of_cell? _ _ (B4.out.1 14 (by decide) (by decide) (by decide) (by decide) (by decide)))).trans (B4.out.1 14 (by decide) (by decide) (by decide) (by decide) (by decide))
  go_wp2_with fail
  clear cc
  refine (marked_Txns _).mono ?_
  rintro e w' ⟨rfl, rfl⟩
  go_wp2_with fail
  refine (marked_Files _).mono ?_
  rintro e w' ⟨rfl, rfl⟩
  have cc := (M2.out.cell (p := ⟨bk, 16, none⟩) (World.block_lt_of_cell? _ _ (B4.out.1 16 (by decide) (by decide) (by decide) (by decide) (by decide)))).trans (B4.out.1 16 (by decide) (by decide) (by decide) (by decide) (by decide))
  go_wp2_with fail
  clear cc
  refine (marked_Files _).mono ?_
  rintro e w' ⟨rfl, rfl⟩
  go_wp2_with fail
  refine (marked_Notes _).mono ?_
  rintro e w' ⟨rfl, rfl⟩
  have cc := (M2.out.cell (p := ⟨bk, 18, none⟩) (World.block_lt_of_cell? _ _ (B4.out.1 18 (by decide) (by decide) (by decide) (by decide) (by decide)))).trans (B4.out.1 18 (by decide) (by decide) (by decide) (by decide) (by decide))
  go_wp2_with fail
  clear cc
  refine (marked_Notes _).mono ?_
  rintro e w' ⟨rfl, rfl⟩
  go_wp2_with fail
  refine (marked_Leases _).mono ?_
  rintro e w' ⟨rfl, rfl⟩
  have cc := (M2.out.cell (p := ⟨bk, 20, none⟩) (World.block_lt_of_cell? _ _ (B4.out.1 20 (by decide) (by decide) (by decide) (by decide) (by decide)))).trans (B4.out.1 20 (by decide) (by decide) (by decide) (by decide) (by decide))
  go_wp2_with fail
  clear cc
  refine (marked_Leases _).mono ?_
  rintro e w' ⟨rfl, rfl⟩
  go_wp2_with fail
  refine (marked_Letters _).mono ?_
  rintro e w' ⟨rfl, rfl⟩
  have cc := (M2.out.cell (p := ⟨bk, 22, none⟩) (World.block_lt_of_cell? _ _ (B4.out.1 22 (by decide) (by decide) (by decide) (by decide) (by decide)))).trans (B4.out.1 22 (by decide) (by decide) (by decide) (by decide) (by decide))
  go_wp2_with fail
  clear cc
  refine (marked_Letters _).mono ?_
  rintro e w' ⟨rfl, rfl⟩
  go_wp2_with fail
  refine (marked_Steps _).mono ?_
  rintro e w' ⟨rfl, rfl⟩
  have cc := (M2.out.cell (p := ⟨bk, 24, none⟩) (World.block_lt_of_cell? _ _ (B4.out.1 24 (by decide) (by decide) (by decide) (by decide) (by decide)))).trans (B4.out.1 24 (by decide) (by decide) (by decide) (by decide) (by decide))
  go_wp2_with fail
  clear cc
  refine (marked_Steps _).mono ?_
  rintro e w' ⟨rfl, rfl⟩
  go_wp2_with fail
  refine (marked_Reals _).mono ?_
  rintro e w' ⟨rfl, rfl⟩
  have cc := (M2.out.cell (p := ⟨bk, 26, none⟩) (World.block_lt_of_cell? _ _ (B4.out.1 26 (by decide) (by decide) (by decide) (by decide) (by decide)))).trans (B4.out.1 26 (by decide) (by decide) (by decide) (by decide) (by decide))
  go_wp2_with fail
  clear cc
  refine (marked_Reals _).mono ?_
  rintro e w' ⟨rfl, rfl⟩
  go_wp2_with fail
  have hco := mkd_core G1.out.2.2.2.1 HGL.out.1.all (fun i hi k hk => ga_rows (HGL.out.2.len ▸ hi) (by rw [HGL.out.2.mkd i hi (HGL.out.2.len ▸ hi), marks_len] at hk; exact hk))
  have HCO := Lib.hid (And.intro hco.1 (fun i hi x hx => (hco.2 i hi x hx).below M2.out))
  clear hco
  refine (marked_Lists (G1.out.1.below M2.out) (by rw [G1.out.2.1]; have := Hn1.out; omega) (fun i hi => by have := G1.out.2.2.1 i hi; omega) HCO.out.1 HCO.out.2).mono ?_
  rintro e z3 ⟨rfl, hb⟩
  have M3 := Lib.hid (M2.out.trans (hb.mono M2.out.size))
  clear hb
  have cc := (M3.out.cell (p := ⟨bk, 28, none⟩) (World.block_lt_of_cell? _ _ B4.out.2.2.2.2.1)).trans B4.out.2.2.2.2.1
  go_wp2_with fail
  clear cc
  have hco := mkd_core HGL.out.1.mkd HGL.out.1.all (fun i hi k hk => ga_rows hi (by omega))
  have HCO2 := Lib.hid (And.intro hco.1 (fun i hi x hx => (hco.2 i hi x hx).below M3.out))
  clear hco
  refine (marked_Lists (B4.out.2.2.2.2.2.below M3.out) (by rw [mset_len]; have := Hn1.out; omega) (fun i hi => by have := mset_lens (mk := mkl) Hl1.out i hi; omega) HCO2.out.1 HCO2.out.2).mono ?_
  rintro e z4 ⟨rfl, hb⟩
  have M4 := Lib.hid (M3.out.trans (hb.mono M3.out.size))
  clear hb
  go_wp2_with fail
  go_ret
  exact ⟨rfl, B4.out.2.1.trans (Tn.ofBelow M4.out)⟩
end Go.Proofs.YtkeggcfnoonakaaGreat
