
/-
  Merge: the walk of Split.
-/
import Derived.Test.YtkeggcfnoonakaaGreatMgH
import Derived.Laws.Pointers
set_option linter.unusedSimpArgs false
set_option linter.unusedVariables false
namespace Go.Proofs.YtkeggcfnoonakaaGreat
open Go.RowKit
variable {hd : ByteArray → ByteArray}

/-! ### Plain. -/
def bytesL (l : List KV) : Nat := (l.map (fun p => p.1.size + p.2.size)).sum
theorem bytesL_app (a b : List KV) : bytesL (a ++ b) = bytesL a + bytesL b := by unfold bytesL; rw [List.map_append, List.sum_append]
theorem bytesL_take (l : List KV) (i : Nat) (hi : i < l.length) : bytesL (l.take (i + 1)) = bytesL (l.take i) + (l[i].1.size + l[i].2.size) := by
  rw [List.take_succ_eq_append_getElem hi, bytesL_app]
  simp [bytesL]
theorem bytesL_le (l : List KV) (i : Nat) : bytesL (l.take i) ≤ bytesL l := by
  conv => rhs; rw [← List.take_append_drop i l, bytesL_app]
  omega
/-- A group more: in a piece of its own, or behind the last one. -/
def spStep (size : Int) (s : List (List KV) × Int) (g : List KV) : List (List KV) × Int :=
  if size ≤ s.2 then (s.1 ++ [g], (bytesL g : Int)) else match s.1.getLast? with
  | none => (s.1 ++ [g], (bytesL g : Int))
  | some y => (s.1.dropLast ++ [y ++ g], s.2 + (bytesL g : Int))
def spl (G : List (List KV)) (size : Int) : List (List KV) × Int := G.foldl (spStep size) ([], size)
theorem spl_snoc (G : List (List KV)) (g : List KV) (size : Int) : spl (G ++ [g]) size = spStep size (spl G size) g := by unfold spl; rw [List.foldl_append]; rfl
theorem spStep_last {size n : Int} {X : List (List KV)} {y g : List KV} (h : n < size) : spStep size (X ++ [y], n) g = (X ++ [y ++ g], n + (bytesL g : Int)) := by
  unfold spStep
  rw [if_neg (by simp only; omega), List.getLast?_eq_some_iff.2 ⟨X, rfl⟩]
  simp
theorem spStep_new {size n : Int} {X : List (List KV)} {g : List KV} (h : size ≤ n) : spStep size (X, n) g = (X ++ [g], (bytesL g : Int)) := by
  unfold spStep
  rw [if_pos h]
def bytesG (G : List (List KV)) : Nat := bytesL G.flatten
theorem bytesG_take (G : List (List KV)) (i : Nat) (hi : i < G.length) : bytesG (G.take (i + 1)) = bytesG (G.take i) + bytesL G[i] := by
  unfold bytesG
  rw [List.take_succ_eq_append_getElem hi, List.flatten_append, bytesL_app]
  simp
theorem bytesG_le (G : List (List KV)) (i : Nat) : bytesG (G.take i) ≤ bytesG G := by
  unfold bytesG
  conv => rhs; rw [← List.take_append_drop i G, List.flatten_append, bytesL_app]
  omega
theorem flat_take_len (G : List (List KV)) (i : Nat) : (G.take i).flatten.length ≤ G.flatten.length := by
  conv => rhs; rw [← List.take_append_drop i G, List.flatten_append, List.length_append]
  omega
/-- What is known of the pieces while they are laid. -/
structure SpInv (size : Int) (G : List (List KV)) (i : Nat) (X : List (List KV)) (n : Int) : Prop where
  eq : (X, n) = spl (G.take i) size
  n0 : 0 ≤ n
  big : (X = [] ∧ n = size) ∨ (X ≠ [] ∧ n ≤ (bytesG (G.take i) : Int))
  len : X.length ≤ i
  mem : ∀ x ∈ X, x.length ≤ (G.take i).flatten.length
theorem SpInv.new {size n : Int} {G X : List (List KV)} {i : Nat} (h : SpInv size G i X n) (hi : i < G.length) (hs : size ≤ n) : SpInv size G (i + 1) (X ++ [G[i]]) (bytesL G[i] : Int) := by
  have ht : G.take (i + 1) = G.take i ++ [G[i]] := List.take_succ_eq_append_getElem hi
  have hl : (G.take (i + 1)).flatten.length = (G.take i).flatten.length + G[i].length := by rw [ht, List.flatten_append, List.length_append]; simp
  refine ⟨by rw [ht, spl_snoc, ← h.eq, spStep_new hs], by omega, .inr ⟨by simp, ?_⟩, by have := h.len; simp; omega, fun x hx => ?_⟩
  · rw [bytesG_take G i hi]
    omega
  · rcases List.mem_append.1 hx with hx | hx
    · have := h.mem x hx; omega
    · rw [List.mem_singleton] at hx; subst hx; omega
theorem SpInv.last {size n : Int} {G X : List (List KV)} {y : List KV} {i : Nat} (h : SpInv size G i (X ++ [y]) n) (hi : i < G.length) (hs : n < size) : SpInv size G (i + 1) (X ++ [y ++ G[i]]) (n + (bytesL G[i] : Int)) := by
  have ht : G.take (i + 1) = G.take i ++ [G[i]] := List.take_succ_eq_append_getElem hi
  have hl : (G.take (i + 1)).flatten.length = (G.take i).flatten.length + G[i].length := by rw [ht, List.flatten_append, List.length_append]; simp
  have h0 := h.n0
  refine ⟨by rw [ht, spl_snoc, ← h.eq, spStep_last hs], by omega, .inr ⟨by simp, ?_⟩, by have := h.len; simp at this ⊢; omega, fun x hx => ?_⟩
  · rw [bytesG_take G i hi]
    rcases h.big with ⟨h1, _⟩ | ⟨_, h1⟩
    · simp at h1
    · omega
  · rcases List.mem_append.1 hx with hx | hx
    · have := h.mem x (List.mem_append_left _ hx); omega
    · rw [List.mem_singleton] at hx
      subst hx
      have := h.mem y (by simp)
      rw [List.length_append]
      omega

set_option maxRecDepth 100000 in
set_option maxHeartbeats 8000000 in
theorem split_any {w : World} {a : Option Addr} {c : Nat} {l : List KV} (size : Int) (hs1 : -9223372036854775808 ≤ size) (hs2 : size ≤ 9223372036854775807) (h : RdP w a c l) (hl : l.length ≤ 100000) (hby : bytesL l ≤ 1000000)
    (hh : ∀ p ∈ l, ∀ w', Below w.heap.size w w' → Calls Tryz.prog 24 #[.string p.1] w' fun e w'' => e = .returned (.string (hd p.1)) ∧ w'' = w') :
    Calls Tryz.prog 10 #[.slice a l.length c, .int .i64 size] w fun e w' => ∃ vo S, e = .returned vo ∧ Lst eKV eSl w' w.heap.size vo S ∧ S.map (·.2) = (spl (grp hd l) (max size 1)).1 ∧ Below w.heap.size w w' := by
  have hgr := group_any (c := c) hd h hl hh
  obtain ⟨n, hn⟩ : ∃ n, l.length = n := ⟨_, rfl⟩
  obtain ⟨sz, hsz⟩ : ∃ sz, max size 1 = sz := ⟨_, rfl⟩
  have hsz1 : 1 ≤ sz := by omega
  have hsz2 : sz ≤ 9223372036854775807 := by omega
  rw [hn] at hgr ⊢
  rw [hsz]
  have H := Lib.hid (And.intro hgr (And.intro hl (And.intro hby hsz)))
  clear hgr h hl hby hh
  clear hsz
  go_enter Tryz.func10, Tryz.ntmps10
  go_wp2_with fail
  rw [H.out.2.2.2]
  refine H.out.1.mono ?_
  rintro e w1 ⟨vg, SG, rfl, hSG, hG, hb1⟩
  obtain ⟨ga, gc, rfl⟩ := hSG.form
  obtain ⟨G, hGG⟩ : ∃ G, grp hd l = G := ⟨_, rfl⟩
  have hflat : G.flatten = l := by rw [← hGG]; exact grp_flat l
  rw [hGG] at hG
  have hGl : G.length = SG.length := by rw [← hG, List.length_map]
  have hGl5 : SG.length ≤ 100000 := by
    have h1 : G.length ≤ G.flatten.length := by
      rw [List.length_flatten]
      have : ∀ M : List (List KV), (∀ x ∈ M, 1 ≤ x.length) → M.length ≤ (M.map List.length).sum := by
        intro M
        induction M with
        | nil => intro _; simp
        | cons x M ih =>
          intro hM
          have h1 := hM x (List.mem_cons_self)
          have h2 := ih (fun y hy => hM y (List.mem_cons_of_mem _ hy))
          simp
          omega
      refine this G (fun x hx => ?_)
      rw [← hGG] at hx
      have := grp_ne (hd := hd) l x hx
      exact List.length_pos_iff.2 this
    rw [hflat] at h1
    have := H.out.2.1
    omega
  obtain ⟨N, hN⟩ : ∃ N, SG.length = N := ⟨_, rfl⟩
  have HG := Lib.hid (And.intro hSG (And.intro hG (And.intro hb1 (And.intro hflat (And.intro hGl (And.intro hN hGG))))))
  rw [hN] at hGl5 ⊢
  clear hSG hG hb1 hflat hGl hN hGG
  go_wp2_with fail
  go_loopw [5, 6, 17] (fun vo y x wr => ∃ (i : Nat) (S : List (Sl × List KV)) (n6 : Int), i ≤ N ∧ x = .int .i64 (i : Int) ∧ y = .int .i64 n6 ∧ Lst eKV eSl wr w1.heap.size vo S ∧ SpInv sz G i (S.map (·.2)) n6 ∧ Below w1.heap.size w1 wr) (fun _ _ x _ => N - (intOf x).toNat)
  case atStart => exact ⟨0, [], sz, by omega, rfl, rfl, Lst.nil _ _, ⟨rfl, by omega, .inl ⟨rfl, rfl⟩, by simp, fun x hx => by simp at hx⟩, Below.refl _ _⟩
  case round =>
    obtain ⟨i, S, n6, hi, rfl, rfl, hS, hinv, hbel⟩ := hrel
    obtain ⟨wo, rfl⟩ : ∃ wo, wo = wr := ⟨_, rfl⟩
    obtain ⟨va, vc, rfl⟩ := hS.form
    by_cases hlt : i < N
    · have hiS : i < SG.length := by rw [HG.out.2.2.2.2.2.1]; exact hlt
      have hiG : i < G.length := by rw [HG.out.2.2.2.2.1]; exact hiS
      obtain ⟨gb, gcap, hga, hgc⟩ := HG.out.1.read hiS
      injection hga with hga1 _ _
      subst hga1
      have hgi : G[i] = SG[i].2 := by
        have := HG.out.2.1
        have h2 : (SG.map (·.2))[i]? = G[i]? := by rw [this]
        rw [List.getElem?_map, List.getElem?_eq_getElem hiS, List.getElem?_eq_getElem hiG] at h2
        exact (Option.some.inj h2).symm
      have hown := HG.out.1.each i hiS
      have hsl := HG.out.1.sl hiS
      obtain ⟨x, hx⟩ : ∃ x, SG[i] = x := ⟨_, rfl⟩
      obtain ⟨⟨ea, en, ec⟩, gl⟩ := x
      rw [hx] at hgi hown hsl hgc
      simp only at hgi hown hsl
      have hgc2 : wo.cell? ⟨gb, i, none⟩ = some (.slice ea en ec) := (hbel.cell (p := ⟨gb, i, none⟩) (World.block_lt_of_cell? _ _ hgc)).trans hgc
      have hbyG : bytesG G ≤ 1000000 := by unfold bytesG; rw [HG.out.2.2.2.1]; exact H.out.2.2.1
      have hgt := bytesG_take G i hiG
      have hgle := bytesG_le G (i + 1)
      rw [hgi] at hgt
      have hglen : gl.length ≤ 100000 := by
        have h1 := len_flat (G := G) (g := gl) (by rw [← hgi]; exact List.getElem_mem hiG)
        rw [HG.out.2.2.2.1] at h1
        have := H.out.2.1
        omega
      have hfl9 := flat_take_len G i
      rw [HG.out.2.2.2.1] at hfl9
      have hl9 := H.out.2.1
      have hSlen := hinv.len
      rw [List.length_map] at hSlen
      obtain ⟨m, hm⟩ : ∃ m, gl.length = m := ⟨_, rfl⟩
      obtain rfl : m = en := (hsl.trans hm).symm
      have hb9 : bytesL gl ≤ 1000000 := by omega
      rw [hm] at hglen
      have HX := Lib.hid (And.intro hx (And.intro hm (And.intro hown (And.intro hgi hgle))))
      have z0 : (i : Int) < (N : Int) := by omega
      clear hx hm hown hgc hgt hgle hbyG hsl
      by_cases hc : sz ≤ n6
      · have hnew := hinv.new hiG hc
        have HINV := Lib.hid hnew
        have hLa : Lst eKV eSl (wo.alloc (.cells #[.slice none 0 0] 23)) w1.heap.size (.slice va S.length vc) S := hS.below ((Below.refl _ _).alloc (Nat.le_refl _) _)
        have hsrcN : Src eSl (wo.alloc (.cells #[.slice none 0 0] 23)) (.slice (some ⟨wo.heap.size, 0, none⟩) 1 1) [(⟨none, 0, 0⟩ : Sl)] := src_one (e := eSl) wo (⟨none, 0, 0⟩ : Sl) #[.slice none 0 0] 23 rfl 1
        have HA := Lib.hid (And.intro hLa (And.intro hsrcN hbel))
        have HLE : Hid ((S.map (·.1)).length + ([(⟨none, 0, 0⟩ : Sl)]).length ≤ 100000000) := by unfold Hid; simp; omega
        have hwz := hbel.size
        clear hnew hLa hsrcN hS hinv hgi hbel
        go_wp2_with (at_builtin; go_loud (refine wpl_app2 eSl rfl (.tmp 24) (.tmp 25) rfl rfl rfl (v := .slice va S.length vc) (l := S.map (·.1)) (l2 := [(⟨none, 0, 0⟩ : Sl)]) HA.out.1.outer HA.out.2.1 HLE.out (by simp; omega) ?_); rw [List.length_map]; intro a5 cap5 w5 ha5; have H5 := Lib.hid ha5; clear ha5)
        have hst : Lst eKV eSl w5 w1.heap.size (.slice a5 (S.length + 1) cap5) (S ++ [((⟨none, 0, 0⟩ : Sl), ([] : List KV))]) :=
          HA.out.1.add (World.ownsRow_nil _ _ _ _) (fun q hq => by simp [Sl.val, Value.ownBlock] at hq) H5.out
        have hb5 : Below w1.heap.size w1 w5 := (HA.out.2.2.alloc (by omega) _).trans (H5.out.tn.below (by simp; omega) (fun q hq => (HA.out.1.outer.lt q hq).1))
        have ST := Lib.hid (And.intro hst hb5)
        have HLY : Hid (([] : List KV).length ≤ 100000 ∧ gl.length ≤ 100000) := ⟨by simp, by rw [HX.out.2.1]; exact hglen⟩
        clear hst hb5
        go_loopw [6, 29] (fun y x wr => ∃ (k : Nat) (s9 : Sl), k ≤ m ∧ x = .int .i64 (k : Int) ∧ y = .int .i64 ((0 : Int) + (bytesL (gl.take k) : Int)) ∧ Lst eKV eSl wr w1.heap.size (.slice a5 (S.length + 1) cap5) (S ++ [(s9, ([] : List KV) ++ gl.take k)]) ∧ Below w1.heap.size w1 wr) (fun _ x _ => m - (intOf x).toNat)
        case atStart => exact ⟨0, (⟨none, 0, 0⟩ : Sl), by omega, rfl, by simp [bytesL], by have := ST.out.1; simpa using this, ST.out.2⟩
        case round =>
          obtain ⟨k, ⟨sa, sn, sc⟩, hk, rfl, rfl, hL, hbl⟩ := hrel
          have hbt := bytesL_le gl k
          by_cases hkm : k < m
          · have hkl : k < gl.length := by rw [HX.out.2.1]; exact hkm
            obtain ⟨hb, hcap, hv, _, _, hblt, k0, k1⟩ := kv_cells HX.out.2.2.1 hkl
            have hea : ea = some ⟨hb, 0, none⟩ := by
              unfold Sl.val at hv
              injection hv
            subst hea
            have d0 := (hbl.cell (p := ⟨hb, k * 2, none⟩) hblt).trans k0
            have d1 := (hbl.cell (p := ⟨hb, k * 2 + 1, none⟩) hblt).trans k1
            have hbw : hb < wr.heap.size := Nat.lt_of_lt_of_le hblt hbl.size
            have hnx := bytesL_take gl k hkl
            have htk : gl.take (k + 1) = gl.take k ++ [gl[k]] := List.take_succ_eq_append_getElem hkl
            have hbt2 := bytesL_le gl (k + 1)
            obtain ⟨p, hp⟩ : ∃ p, gl[k] = p := ⟨_, rfl⟩
            rw [hp] at d0 d1 hnx htk
            obtain ⟨kp, vp⟩ := p
            simp only at d0 d1 hnx
            obtain ⟨og, ocap, hvo, hcell⟩ := hL.read (i := S.length) (by simp)
            have hlastS : (S ++ [((⟨sa, sn, sc⟩ : Sl), ([] : List KV) ++ gl.take k)])[S.length]'(by simp) = (⟨sa, sn, sc⟩, ([] : List KV) ++ gl.take k) := by simp
            rw [hlastS] at hcell
            injection hvo with hvo1 _ hvo3
            subst hvo1 hvo3
            have hgB := (hL.outer.lt og rfl).2
            have hfz : wr.frozen? ⟨og, S.length, none⟩ = false := by
              have h1 := hL.outer
              obtain ⟨_, h2⟩ := h1
              rcases h2 with ⟨h2, _⟩ | ⟨g', cap', cur, h2, _, hh, _⟩
              · simp at h2
              · simp only [Value.slice.injEq, Option.some.injEq, Addr.mk.injEq, and_true] at h2
                obtain ⟨rfl, _⟩ := h2
                simp [World.frozen?, hh]
            have hne : ¬ og = wr.heap.size := by omega
            have hown := hL.each S.length (by simp)
            rw [hlastS] at hown
            have hsg : (Sl.val ⟨sa, sn, sc⟩).ownBlock ≠ some og := by
              have := hL.sepO S.length (by simp) og rfl
              rw [hlastS] at this
              exact this
            have hsp : (Sl.val ⟨sa, sn, sc⟩).ownBlock ≠ some wr.heap.size := fun e => by
              have := (hown.lt _ e).2
              omega
            obtain ⟨w4, hw4⟩ : ∃ w4, w4 = wr.alloc (.cells #[.string kp, .string vp] 54) := ⟨_, rfl⟩
            have hb4 : Below wr.heap.size wr w4 := by rw [hw4]; exact (Below.refl _ _).alloc (Nat.le_refl _) _
            have u0 : w4.cell? ⟨og, S.length, none⟩ = some (.slice sa sn sc) := (hb4.cell (p := ⟨og, S.length, none⟩) hgB).trans hcell
            have uf : w4.frozen? ⟨og, S.length, none⟩ = false := (hb4.frozen (p := ⟨og, S.length, none⟩) hgB).trans hfz
            have u1 : w4.cell? ⟨wr.heap.size, 0, none⟩ = some (.string kp) := by rw [hw4]; simp [go_sem]
            have u2 : w4.cell? ⟨wr.heap.size, 1, none⟩ = some (.string vp) := by rw [hw4]; simp [go_sem]
            have hz4 : wr.heap.size ≤ w4.heap.size := hb4.size
            have hwz1 := hbl.size
            obtain ⟨m0, hm0⟩ : ∃ m0, S.length = m0 := ⟨_, rfl⟩
            obtain ⟨nn, hnn⟩ : ∃ nn : Int, (0 : Int) + (bytesL (gl.take k) : Int) = nn := ⟨_, rfl⟩
            have hnn0 : 0 ≤ nn := by omega
            have hnn1 : nn ≤ 2000000 := by omega
            have hsz5 : kp.size + vp.size ≤ 1000000 := by omega
            rw [hm0] at u0 uf
            rw [hnn]
            have hm5 : m0 ≤ 100000 := by omega
            have y0' : (0 : Int) ≤ (m0 : Int) := by omega
            have y3 : IntKind.i64.wrap (m0 : Int) = (m0 : Int) := IntWalk.i64_in _ (by omega)
            have y4 : (m0 : Int) < (m0 : Int) + 1 := by omega
            have z5 : (k : Int) < (m : Int) := by omega
            have hl4 := hL.below hb4
            have ho4 := row_below hown hb4
            have hln : (([] : List KV) ++ gl.take k).length + ([(kp, vp)] : List KV).length ≤ 100000000 := by
              rw [List.length_append, List.length_take]
              have h2 : ([(kp, vp)] : List KV).length = 1 := rfl
              have h3 := HLY.out
              omega
            have HK := Lib.hid (And.intro hl4 (And.intro ho4 (And.intro hsg (And.intro hsp (And.intro hb4 (And.intro hbl (And.intro hnx (And.intro htk (And.intro hnn (And.intro hm0 hln))))))))))
            rw [hm0]
            clear hl4 ho4 hsg hsp hb4 hbl hnx htk hnn hm0 hln hL hown hcell hlastS hfz k0 k1 hv hp hbt hbt2
            go_wp2_with fail
            rw [← hw4]
            clear hw4 d0 d1
            refine wp_region_K (fun w' => w'.cell? ⟨og, m0, none⟩ = some (.slice sa sn sc) ∧ w'.cell? ⟨wr.heap.size, 0, none⟩ = some (.string kp) ∧ w'.cell? ⟨wr.heap.size, 1, none⟩ = some (.string vp)) 14 15 (by kernel_rfl) (by kernel_rfl) ⟨u0, u1, u2⟩ (fun hH => ?_)
            refine wpAnyK_take (i := 0) [14] (v := ?v1) rfl (by kernel_rfl) (by kernel_rfl) (by kernel_rfl) (by kernel_rfl) (fun _ _ _ h => h) (Or.inl ⟨by rfl, ?hy1⟩) hH ?rest1
            case hy1 => (intro w hSw; (try dsimp only at hSw); go_simp; with_reducible rfl)
            try simp only [Act.put, List.setIfInBounds_toArray, List.set_cons_zero, List.set_cons_succ]
            refine wpAnyK_take (i := 1) [14] (v := ?v2) rfl (by kernel_rfl) (by kernel_rfl) (by kernel_rfl) (by kernel_rfl) (fun _ _ _ h => h) (Or.inl ⟨by rfl, ?hy2⟩) hH ?rest2
            case hy2 => (intro w hSw; (try dsimp only at hSw); go_simp; with_reducible rfl)
            try simp only [Act.put, List.setIfInBounds_toArray, List.set_cons_zero, List.set_cons_succ]
            refine wpAnyK_take (i := 2) [14] (v := ?v3) rfl (by kernel_rfl) (by kernel_rfl) (by kernel_rfl) (by kernel_rfl) (fun _ _ _ h => h) (Or.inl ⟨by rfl, ?hy3⟩) hH ?rest3
            case hy3 => (intro w hSw; (try dsimp only at hSw); go_simp; with_reducible rfl)
            try simp only [Act.put, List.setIfInBounds_toArray, List.set_cons_zero, List.set_cons_succ]
            refine wpAnyK_take (i := 3) [14] (v := ?v4) rfl (by kernel_rfl) (by kernel_rfl) (by kernel_rfl) (by kernel_rfl) (fun _ _ _ h => h) (Or.inl ⟨by rfl, ?hy4⟩) hH ?rest4
            case hy4 => (intro w hSw; (try dsimp only at hSw); go_simp; with_reducible rfl)
            try simp only [Act.put, List.setIfInBounds_toArray, List.set_cons_zero, List.set_cons_succ]
            refine wpAnyK_take (i := 4) [14] (v := ?v5) rfl (by kernel_rfl) (by kernel_rfl) (by kernel_rfl) (by kernel_rfl) (fun _ _ _ h => h) (Or.inl ⟨by rfl, ?hy5⟩) hH ?rest5
            case hy5 => (intro w hSw; (try dsimp only at hSw); go_simp; with_reducible rfl)
            try simp only [Act.put, List.setIfInBounds_toArray, List.set_cons_zero, List.set_cons_succ]
            refine wpAnyK_take (i := 5) [14] (v := ?v6) rfl (by kernel_rfl) (by kernel_rfl) (by kernel_rfl) (by kernel_rfl) (fun _ _ _ h => h) (Or.inl ⟨by rfl, ?hy6⟩) hH ?rest6
            case hy6 => (intro w hSw; (try dsimp only at hSw); go_simp; with_reducible rfl)
            try simp only [Act.put, List.setIfInBounds_toArray, List.set_cons_zero, List.set_cons_succ]
            refine wpAnyK_take (i := 6) [14] (v := ?v7) rfl (by kernel_rfl) (by kernel_rfl) (by kernel_rfl) (by kernel_rfl) (fun _ _ _ h => h) (Or.inl ⟨by rfl, ?hy7⟩) hH ?rest7
            case hy7 => (intro w hSw; (try dsimp only at hSw); go_simp; with_reducible rfl)
            try simp only [Act.put, List.setIfInBounds_toArray, List.set_cons_zero, List.set_cons_succ]
            refine wpAnyK_take (i := 7) [14] (v := ?v8) rfl (by kernel_rfl) (by kernel_rfl) (by kernel_rfl) (by kernel_rfl) (fun _ _ _ h => h) (Or.inl ⟨by rfl, ?hy8⟩) hH ?rest8
            case hy8 => (intro w hSw; (try dsimp only at hSw); go_simp; with_reducible rfl)
            try simp only [Act.put, List.setIfInBounds_toArray, List.set_cons_zero, List.set_cons_succ]
            refine wpAnyK_take (i := 8) [14] (v := ?v9) rfl (by kernel_rfl) (by kernel_rfl) (by kernel_rfl) (by kernel_rfl) (fun _ _ _ h => h) (Or.inl ⟨by rfl, ?hy9⟩) hH ?rest9
            case hy9 => (intro w hSw; (try dsimp only at hSw); go_simp; with_reducible rfl)
            try simp only [Act.put, List.setIfInBounds_toArray, List.set_cons_zero, List.set_cons_succ]
            refine wpAnyK_take (i := 9) [14] (v := ?v10) rfl (by kernel_rfl) (by kernel_rfl) (by kernel_rfl) (by kernel_rfl) (fun _ _ _ h => h) (Or.inl ⟨by rfl, ?hy10⟩) hH ?rest10
            case hy10 => (intro w hSw; (try dsimp only at hSw); go_simp; with_reducible rfl)
            try simp only [Act.put, List.setIfInBounds_toArray, List.set_cons_zero, List.set_cons_succ]
            refine wpAnyK_take (i := 10) [14] (v := ?v11) rfl (by kernel_rfl) (by kernel_rfl) (by kernel_rfl) (by kernel_rfl) (fun _ _ _ h => h) (Or.inl ⟨by rfl, ?hy11⟩) hH ?rest11
            case hy11 => (intro w hSw; (try dsimp only at hSw); go_simp; with_reducible rfl)
            try simp only [Act.put, List.setIfInBounds_toArray, List.set_cons_zero, List.set_cons_succ]
            refine wpAnyK_one (i := 11) (by kernel_rfl) rfl (fun K hK => ?_) (by kernel_rfl)
            go_simp
            obtain ⟨w6, hw6⟩ : ∃ w6, w6 = (w4.alloc (.cells #[.string kp, .string vp] 54)).drew := ⟨_, rfl⟩
            rw [← hw6]
            have hb6 : Below w4.heap.size w4 w6 := by rw [hw6]; exact ((Below.refl _ _).alloc (Nat.le_refl _) _).drew
            have hsrc6 : Src eKV w6 (.slice (some ⟨w4.heap.size, 0, none⟩) 1 1) [(kp, vp)] := by rw [hw6]; exact src_one (e := eKV) w4 (kp, vp) #[.string kp, .string vp] 54 rfl 1
            have x0 := (hb6.cell (p := ⟨og, m0, none⟩) (World.block_lt_of_cell? _ _ u0)).trans u0
            have xf := (hb6.frozen (p := ⟨og, m0, none⟩) (World.block_lt_of_cell? _ _ u0)).trans uf
            have x1 := (hb6.cell (p := ⟨wr.heap.size, 0, none⟩) (World.block_lt_of_cell? _ _ u1)).trans u1
            have x2 := (hb6.cell (p := ⟨wr.heap.size, 1, none⟩) (World.block_lt_of_cell? _ _ u2)).trans u2
            have hl6 := HK.out.1.below hb6
            have hown6 := row_below HK.out.2.1 hb6
            have hz6 := hb6.size
            have H6 := Lib.hid (And.intro hl6 (And.intro hown6 (And.intro hsrc6 hb6)))
            clear hw6 hb6 hsrc6 hl6 hown6 u0 u1 u2 uf
            refine hK.out _ _ ⟨x0, x1, x2⟩ (fun hH => ?_)
            clear hK K
            try simp only [Act.put, List.setIfInBounds_toArray, List.set_cons_zero, List.set_cons_succ]
            refine wpAnyK_one (i := 12) (by kernel_rfl) rfl (fun K hK => ?_) (by kernel_rfl)
            refine step_app2 eKV rfl (.tmp 42) (.tmp 44) rfl (v := Sl.val ⟨sa, sn, sc⟩) (l := ([] : List KV) ++ gl.take k) (l2 := [(kp, vp)]) rfl rfl H6.out.2.1 H6.out.2.2.1 HK.out.2.2.2.2.2.2.2.2.2.2 (by omega) ?_
            intro a7 cap7 w7 ha7
            have q0 := ha7.tn.cell x0 HK.out.2.2.1
            have qf := (ha7.tn.frozen (p := ⟨og, m0, none⟩) (World.block_lt_of_cell? _ _ x0) HK.out.2.2.1).trans xf
            have q1 := ha7.tn.cell x1 HK.out.2.2.2.1
            have q2 := ha7.tn.cell x2 HK.out.2.2.2.1
            obtain ⟨yn, hyn⟩ : ∃ yn, (([] : List KV) ++ gl.take k).length + ([(kp, vp)] : List KV).length = yn := ⟨_, rfl⟩
            rw [hyn] at ha7 ⊢
            have H7 := Lib.hid (And.intro ha7 hyn)
            clear ha7 hyn
            refine hK.out _ _ ⟨q0, q1, q2⟩ (fun hH => ?_)
            clear hK K x0 x1 x2 xf
            try simp only [Act.put, List.setIfInBounds_toArray, List.set_cons_zero, List.set_cons_succ]
            refine wpAnyK_take (i := 13) [14] (v := ?v12) rfl (by kernel_rfl) (by kernel_rfl) (by kernel_rfl) (by kernel_rfl) (fun _ _ _ h => h) (Or.inl ⟨by rfl, ?hy12⟩) hH ?rest12
            case hy12 => (intro w hSw; (try dsimp only at hSw); go_simp; with_reducible rfl)
            try simp only [Act.put, List.setIfInBounds_toArray, List.set_cons_zero, List.set_cons_succ]
            refine wpAnyK_last (by kernel_rfl) rfl (fun K hK => ?_) (by kernel_rfl)
            go_simp
            refine hK.out _ _ (wpAnyK_done (by kernel_rfl) ?_ _)
            clear hK K hH y3
            have hne2 : ¬ wr.heap.size = og := fun e => hne e.symm
            have r1 : (w7.setCell ⟨og, m0, none⟩ (.slice a7 yn cap7)).cell? ⟨wr.heap.size, 0, none⟩ = some (.string kp) := by
              rw [World.cell?_setCell_other _ _ _ _ (by intro e; injection e with e; exact hne e)]; exact q1
            have r2 : (w7.setCell ⟨og, m0, none⟩ (.slice a7 yn cap7)).cell? ⟨wr.heap.size, 1, none⟩ = some (.string vp) := by
              rw [World.cell?_setCell_other _ _ _ _ (by intro e; injection e with e; exact hne e)]; exact q2
            go_wp2_with fail
            go_roundw
            case rel =>
              have hrg := Lst.regrow (s' := (⟨a7, yn, cap7⟩ : Sl)) H6.out.1 H7.out.1
              rw [HK.out.2.2.2.2.2.2.2.2.2.1] at hrg
              refine ⟨k + 1, (⟨a7, yn, cap7⟩ : Sl), by omega, by go_num, ?_, ?_, ?_⟩
              · rw [HK.out.2.2.2.2.2.2.1, ← HK.out.2.2.2.2.2.2.2.2.1]; congr 1; omega
              · rw [HK.out.2.2.2.2.2.2.2.1, ← List.append_assoc]; exact hrg
              · have t1 : Below w1.heap.size w6 w7 := H7.out.1.tn.below (by omega) (fun q hq => (H6.out.2.1.lt q hq).1)
                have t2 : Below w1.heap.size w1 w6 := (HK.out.2.2.2.2.2.1.trans (HK.out.2.2.2.2.1.mono hwz1)).trans (H6.out.2.2.2.mono (by omega))
                exact (t2.trans t1).setCell (by show w1.heap.size ≤ og; exact (H6.out.1.outer.lt og rfl).1) _
            case measure => simp [intOf]; omega
          · obtain rfl : k = m := by omega
            have hft : gl.take k = gl := List.take_of_length_le (by rw [HX.out.2.1]; exact Nat.le_refl _)
            rw [hft] at hL ⊢
            have HF := Lib.hid (And.intro hL hbl)
            clear hL hbl hft hbt
            have z5 : ¬ (k : Int) < (k : Int) := by omega
            go_wp2_with fail
            go_roundw
            case rel =>
              refine ⟨.slice a5 (S.length + 1) cap5, .int .i64 ((bytesL gl : Int)), .slice ea k ec, _, .int .i64 ((i : Int) + 1), ⟨i + 1, by omega, by go_num, S ++ [((⟨sa, sn, sc⟩ : Sl), ([] : List KV) ++ gl)], (bytesL gl : Int), rfl, ?_, ?_, HF.out.2⟩, rfl, rfl, rfl, rfl, rfl⟩
              · exact HF.out.1
              · rw [List.map_append]
                have h9 := HINV.out
                rw [HX.out.2.2.2.1] at h9
                exact h9
            case measure => simp [intOf]; omega
      · have hc2 : n6 < sz := by omega
        obtain ⟨S0, ⟨s0, y0⟩, rfl⟩ : ∃ S0 y, S = S0 ++ [y] := by
          rcases List.eq_nil_or_concat S with h | ⟨x, y, h⟩
          · rcases hinv.big with ⟨_, h2⟩ | ⟨h2, _⟩
            · omega
            · rw [h] at h2; exact absurd rfl h2
          · exact ⟨x, y, by rw [h, List.concat_eq_append]⟩
        have hSl : (S0 ++ [(s0, y0)]).length = S0.length + 1 := by simp
        rw [List.map_append] at hinv
        have hnew := SpInv.last hinv hiG hc2
        have HINV := Lib.hid hnew
        have hn6a := hinv.n0
        have hn6b : n6 ≤ 1000000 := by
          rcases hinv.big with ⟨h2, _⟩ | ⟨_, h2⟩
          · simp at h2
          · have h3 := bytesG_le G i
            have h4 : bytesG G ≤ 1000000 := by unfold bytesG; rw [HG.out.2.2.2.1]; exact H.out.2.2.1
            omega
        have hy0 := hinv.mem y0 (by simp)
        rw [hSl] at hS hSlen ⊢
        have ST := Lib.hid (And.intro hS hbel)
        have HLY : Hid (y0.length ≤ 100000 ∧ gl.length ≤ 100000) := ⟨by omega, by rw [HX.out.2.1]; exact hglen⟩
        clear hnew hinv hSl hS hbel hgi hy0
        go_wp2_with fail
        go_loopw [6, 29] (fun y x wr => ∃ (k : Nat) (s9 : Sl), k ≤ m ∧ x = .int .i64 (k : Int) ∧ y = .int .i64 (n6 + (bytesL (gl.take k) : Int)) ∧ Lst eKV eSl wr w1.heap.size (.slice va (S0.length + 1) vc) (S0 ++ [(s9, y0 ++ gl.take k)]) ∧ Below w1.heap.size w1 wr) (fun _ x _ => m - (intOf x).toNat)
        case atStart => exact ⟨0, s0, by omega, rfl, by simp [bytesL], by have := ST.out.1; simpa using this, ST.out.2⟩
        case round =>
          obtain ⟨k, ⟨sa, sn, sc⟩, hk, rfl, rfl, hL, hbl⟩ := hrel
          have hbt := bytesL_le gl k
          by_cases hkm : k < m
          · have hkl : k < gl.length := by rw [HX.out.2.1]; exact hkm
            obtain ⟨hb, hcap, hv, _, _, hblt, k0, k1⟩ := kv_cells HX.out.2.2.1 hkl
            have hea : ea = some ⟨hb, 0, none⟩ := by
              unfold Sl.val at hv
              injection hv
            subst hea
            have d0 := (hbl.cell (p := ⟨hb, k * 2, none⟩) hblt).trans k0
            have d1 := (hbl.cell (p := ⟨hb, k * 2 + 1, none⟩) hblt).trans k1
            have hbw : hb < wr.heap.size := Nat.lt_of_lt_of_le hblt hbl.size
            have hnx := bytesL_take gl k hkl
            have htk : gl.take (k + 1) = gl.take k ++ [gl[k]] := List.take_succ_eq_append_getElem hkl
            have hbt2 := bytesL_le gl (k + 1)
            obtain ⟨p, hp⟩ : ∃ p, gl[k] = p := ⟨_, rfl⟩
            rw [hp] at d0 d1 hnx htk
            obtain ⟨kp, vp⟩ := p
            simp only at d0 d1 hnx
            obtain ⟨og, ocap, hvo, hcell⟩ := hL.read (i := S0.length) (by simp)
            have hlastS : (S0 ++ [((⟨sa, sn, sc⟩ : Sl), y0 ++ gl.take k)])[S0.length]'(by simp) = (⟨sa, sn, sc⟩, y0 ++ gl.take k) := by simp
            rw [hlastS] at hcell
            injection hvo with hvo1 _ hvo3
            subst hvo1 hvo3
            have hgB := (hL.outer.lt og rfl).2
            have hfz : wr.frozen? ⟨og, S0.length, none⟩ = false := by
              have h1 := hL.outer
              obtain ⟨_, h2⟩ := h1
              rcases h2 with ⟨h2, _⟩ | ⟨g', cap', cur, h2, _, hh, _⟩
              · simp at h2
              · simp only [Value.slice.injEq, Option.some.injEq, Addr.mk.injEq, and_true] at h2
                obtain ⟨rfl, _⟩ := h2
                simp [World.frozen?, hh]
            have hne : ¬ og = wr.heap.size := by omega
            have hown := hL.each S0.length (by simp)
            rw [hlastS] at hown
            have hsg : (Sl.val ⟨sa, sn, sc⟩).ownBlock ≠ some og := by
              have := hL.sepO S0.length (by simp) og rfl
              rw [hlastS] at this
              exact this
            have hsp : (Sl.val ⟨sa, sn, sc⟩).ownBlock ≠ some wr.heap.size := fun e => by
              have := (hown.lt _ e).2
              omega
            obtain ⟨w4, hw4⟩ : ∃ w4, w4 = wr.alloc (.cells #[.string kp, .string vp] 54) := ⟨_, rfl⟩
            have hb4 : Below wr.heap.size wr w4 := by rw [hw4]; exact (Below.refl _ _).alloc (Nat.le_refl _) _
            have u0 : w4.cell? ⟨og, S0.length, none⟩ = some (.slice sa sn sc) := (hb4.cell (p := ⟨og, S0.length, none⟩) hgB).trans hcell
            have uf : w4.frozen? ⟨og, S0.length, none⟩ = false := (hb4.frozen (p := ⟨og, S0.length, none⟩) hgB).trans hfz
            have u1 : w4.cell? ⟨wr.heap.size, 0, none⟩ = some (.string kp) := by rw [hw4]; simp [go_sem]
            have u2 : w4.cell? ⟨wr.heap.size, 1, none⟩ = some (.string vp) := by rw [hw4]; simp [go_sem]
            have hz4 : wr.heap.size ≤ w4.heap.size := hb4.size
            have hwz1 := hbl.size
            obtain ⟨m0, hm0⟩ : ∃ m0, S0.length = m0 := ⟨_, rfl⟩
            obtain ⟨nn, hnn⟩ : ∃ nn : Int, n6 + (bytesL (gl.take k) : Int) = nn := ⟨_, rfl⟩
            have hnn0 : 0 ≤ nn := by omega
            have hnn1 : nn ≤ 2000000 := by omega
            have hsz5 : kp.size + vp.size ≤ 1000000 := by omega
            rw [hm0] at u0 uf
            rw [hnn]
            have hm5 : m0 ≤ 100000 := by omega
            have y0' : (0 : Int) ≤ (m0 : Int) := by omega
            have y3 : IntKind.i64.wrap (m0 : Int) = (m0 : Int) := IntWalk.i64_in _ (by omega)
            have y4 : (m0 : Int) < (m0 : Int) + 1 := by omega
            have z5 : (k : Int) < (m : Int) := by omega
            have hl4 := hL.below hb4
            have ho4 := row_below hown hb4
            have hln : (y0 ++ gl.take k).length + ([(kp, vp)] : List KV).length ≤ 100000000 := by
              rw [List.length_append, List.length_take]
              have h2 : ([(kp, vp)] : List KV).length = 1 := rfl
              have h3 := HLY.out
              omega
            have HK := Lib.hid (And.intro hl4 (And.intro ho4 (And.intro hsg (And.intro hsp (And.intro hb4 (And.intro hbl (And.intro hnx (And.intro htk (And.intro hnn (And.intro hm0 hln))))))))))
            rw [hm0]
            clear hl4 ho4 hsg hsp hb4 hbl hnx htk hnn hm0 hln hL hown hcell hlastS hfz k0 k1 hv hp hbt hbt2
            go_wp2_with fail
            rw [← hw4]
            clear hw4 d0 d1
            refine wp_region_K (fun w' => w'.cell? ⟨og, m0, none⟩ = some (.slice sa sn sc) ∧ w'.cell? ⟨wr.heap.size, 0, none⟩ = some (.string kp) ∧ w'.cell? ⟨wr.heap.size, 1, none⟩ = some (.string vp)) 14 15 (by kernel_rfl) (by kernel_rfl) ⟨u0, u1, u2⟩ (fun hH => ?_)
            refine wpAnyK_take (i := 0) [14] (v := ?v13) rfl (by kernel_rfl) (by kernel_rfl) (by kernel_rfl) (by kernel_rfl) (fun _ _ _ h => h) (Or.inl ⟨by rfl, ?hy13⟩) hH ?rest13
            case hy13 => (intro w hSw; (try dsimp only at hSw); go_simp; with_reducible rfl)
            try simp only [Act.put, List.setIfInBounds_toArray, List.set_cons_zero, List.set_cons_succ]
            refine wpAnyK_take (i := 1) [14] (v := ?v14) rfl (by kernel_rfl) (by kernel_rfl) (by kernel_rfl) (by kernel_rfl) (fun _ _ _ h => h) (Or.inl ⟨by rfl, ?hy14⟩) hH ?rest14
            case hy14 => (intro w hSw; (try dsimp only at hSw); go_simp; with_reducible rfl)
            try simp only [Act.put, List.setIfInBounds_toArray, List.set_cons_zero, List.set_cons_succ]
            refine wpAnyK_take (i := 2) [14] (v := ?v15) rfl (by kernel_rfl) (by kernel_rfl) (by kernel_rfl) (by kernel_rfl) (fun _ _ _ h => h) (Or.inl ⟨by rfl, ?hy15⟩) hH ?rest15
            case hy15 => (intro w hSw; (try dsimp only at hSw); go_simp; with_reducible rfl)
            try simp only [Act.put, List.setIfInBounds_toArray, List.set_cons_zero, List.set_cons_succ]
            refine wpAnyK_take (i := 3) [14] (v := ?v16) rfl (by kernel_rfl) (by kernel_rfl) (by kernel_rfl) (by kernel_rfl) (fun _ _ _ h => h) (Or.inl ⟨by rfl, ?hy16⟩) hH ?rest16
            case hy16 => (intro w hSw; (try dsimp only at hSw); go_simp; with_reducible rfl)
            try simp only [Act.put, List.setIfInBounds_toArray, List.set_cons_zero, List.set_cons_succ]
            refine wpAnyK_take (i := 4) [14] (v := ?v17) rfl (by kernel_rfl) (by kernel_rfl) (by kernel_rfl) (by kernel_rfl) (fun _ _ _ h => h) (Or.inl ⟨by rfl, ?hy17⟩) hH ?rest17
            case hy17 => (intro w hSw; (try dsimp only at hSw); go_simp; with_reducible rfl)
            try simp only [Act.put, List.setIfInBounds_toArray, List.set_cons_zero, List.set_cons_succ]
            refine wpAnyK_take (i := 5) [14] (v := ?v18) rfl (by kernel_rfl) (by kernel_rfl) (by kernel_rfl) (by kernel_rfl) (fun _ _ _ h => h) (Or.inl ⟨by rfl, ?hy18⟩) hH ?rest18
            case hy18 => (intro w hSw; (try dsimp only at hSw); go_simp; with_reducible rfl)
            try simp only [Act.put, List.setIfInBounds_toArray, List.set_cons_zero, List.set_cons_succ]
            refine wpAnyK_take (i := 6) [14] (v := ?v19) rfl (by kernel_rfl) (by kernel_rfl) (by kernel_rfl) (by kernel_rfl) (fun _ _ _ h => h) (Or.inl ⟨by rfl, ?hy19⟩) hH ?rest19
            case hy19 => (intro w hSw; (try dsimp only at hSw); go_simp; with_reducible rfl)
            try simp only [Act.put, List.setIfInBounds_toArray, List.set_cons_zero, List.set_cons_succ]
            refine wpAnyK_take (i := 7) [14] (v := ?v20) rfl (by kernel_rfl) (by kernel_rfl) (by kernel_rfl) (by kernel_rfl) (fun _ _ _ h => h) (Or.inl ⟨by rfl, ?hy20⟩) hH ?rest20
            case hy20 => (intro w hSw; (try dsimp only at hSw); go_simp; with_reducible rfl)
            try simp only [Act.put, List.setIfInBounds_toArray, List.set_cons_zero, List.set_cons_succ]
            refine wpAnyK_take (i := 8) [14] (v := ?v21) rfl (by kernel_rfl) (by kernel_rfl) (by kernel_rfl) (by kernel_rfl) (fun _ _ _ h => h) (Or.inl ⟨by rfl, ?hy21⟩) hH ?rest21
            case hy21 => (intro w hSw; (try dsimp only at hSw); go_simp; with_reducible rfl)
            try simp only [Act.put, List.setIfInBounds_toArray, List.set_cons_zero, List.set_cons_succ]
            refine wpAnyK_take (i := 9) [14] (v := ?v22) rfl (by kernel_rfl) (by kernel_rfl) (by kernel_rfl) (by kernel_rfl) (fun _ _ _ h => h) (Or.inl ⟨by rfl, ?hy22⟩) hH ?rest22
            case hy22 => (intro w hSw; (try dsimp only at hSw); go_simp; with_reducible rfl)
            try simp only [Act.put, List.setIfInBounds_toArray, List.set_cons_zero, List.set_cons_succ]
            refine wpAnyK_take (i := 10) [14] (v := ?v23) rfl (by kernel_rfl) (by kernel_rfl) (by kernel_rfl) (by kernel_rfl) (fun _ _ _ h => h) (Or.inl ⟨by rfl, ?hy23⟩) hH ?rest23
            case hy23 => (intro w hSw; (try dsimp only at hSw); go_simp; with_reducible rfl)
            try simp only [Act.put, List.setIfInBounds_toArray, List.set_cons_zero, List.set_cons_succ]
            refine wpAnyK_one (i := 11) (by kernel_rfl) rfl (fun K hK => ?_) (by kernel_rfl)
            go_simp
            obtain ⟨w6, hw6⟩ : ∃ w6, w6 = (w4.alloc (.cells #[.string kp, .string vp] 54)).drew := ⟨_, rfl⟩
            rw [← hw6]
            have hb6 : Below w4.heap.size w4 w6 := by rw [hw6]; exact ((Below.refl _ _).alloc (Nat.le_refl _) _).drew
            have hsrc6 : Src eKV w6 (.slice (some ⟨w4.heap.size, 0, none⟩) 1 1) [(kp, vp)] := by rw [hw6]; exact src_one (e := eKV) w4 (kp, vp) #[.string kp, .string vp] 54 rfl 1
            have x0 := (hb6.cell (p := ⟨og, m0, none⟩) (World.block_lt_of_cell? _ _ u0)).trans u0
            have xf := (hb6.frozen (p := ⟨og, m0, none⟩) (World.block_lt_of_cell? _ _ u0)).trans uf
            have x1 := (hb6.cell (p := ⟨wr.heap.size, 0, none⟩) (World.block_lt_of_cell? _ _ u1)).trans u1
            have x2 := (hb6.cell (p := ⟨wr.heap.size, 1, none⟩) (World.block_lt_of_cell? _ _ u2)).trans u2
            have hl6 := HK.out.1.below hb6
            have hown6 := row_below HK.out.2.1 hb6
            have hz6 := hb6.size
            have H6 := Lib.hid (And.intro hl6 (And.intro hown6 (And.intro hsrc6 hb6)))
            clear hw6 hb6 hsrc6 hl6 hown6 u0 u1 u2 uf
            refine hK.out _ _ ⟨x0, x1, x2⟩ (fun hH => ?_)
            clear hK K
            try simp only [Act.put, List.setIfInBounds_toArray, List.set_cons_zero, List.set_cons_succ]
            refine wpAnyK_one (i := 12) (by kernel_rfl) rfl (fun K hK => ?_) (by kernel_rfl)
            refine step_app2 eKV rfl (.tmp 42) (.tmp 44) rfl (v := Sl.val ⟨sa, sn, sc⟩) (l := y0 ++ gl.take k) (l2 := [(kp, vp)]) rfl rfl H6.out.2.1 H6.out.2.2.1 HK.out.2.2.2.2.2.2.2.2.2.2 (by omega) ?_
            intro a7 cap7 w7 ha7
            have q0 := ha7.tn.cell x0 HK.out.2.2.1
            have qf := (ha7.tn.frozen (p := ⟨og, m0, none⟩) (World.block_lt_of_cell? _ _ x0) HK.out.2.2.1).trans xf
            have q1 := ha7.tn.cell x1 HK.out.2.2.2.1
            have q2 := ha7.tn.cell x2 HK.out.2.2.2.1
            obtain ⟨yn, hyn⟩ : ∃ yn, (y0 ++ gl.take k).length + ([(kp, vp)] : List KV).length = yn := ⟨_, rfl⟩
            rw [hyn] at ha7 ⊢
            have H7 := Lib.hid (And.intro ha7 hyn)
            clear ha7 hyn
            refine hK.out _ _ ⟨q0, q1, q2⟩ (fun hH => ?_)
            clear hK K x0 x1 x2 xf
            try simp only [Act.put, List.setIfInBounds_toArray, List.set_cons_zero, List.set_cons_succ]
            refine wpAnyK_take (i := 13) [14] (v := ?v24) rfl (by kernel_rfl) (by kernel_rfl) (by kernel_rfl) (by kernel_rfl) (fun _ _ _ h => h) (Or.inl ⟨by rfl, ?hy24⟩) hH ?rest24
            case hy24 => (intro w hSw; (try dsimp only at hSw); go_simp; with_reducible rfl)
            try simp only [Act.put, List.setIfInBounds_toArray, List.set_cons_zero, List.set_cons_succ]
            refine wpAnyK_last (by kernel_rfl) rfl (fun K hK => ?_) (by kernel_rfl)
            go_simp
            refine hK.out _ _ (wpAnyK_done (by kernel_rfl) ?_ _)
            clear hK K hH y3
            have hne2 : ¬ wr.heap.size = og := fun e => hne e.symm
            have r1 : (w7.setCell ⟨og, m0, none⟩ (.slice a7 yn cap7)).cell? ⟨wr.heap.size, 0, none⟩ = some (.string kp) := by
              rw [World.cell?_setCell_other _ _ _ _ (by intro e; injection e with e; exact hne e)]; exact q1
            have r2 : (w7.setCell ⟨og, m0, none⟩ (.slice a7 yn cap7)).cell? ⟨wr.heap.size, 1, none⟩ = some (.string vp) := by
              rw [World.cell?_setCell_other _ _ _ _ (by intro e; injection e with e; exact hne e)]; exact q2
            go_wp2_with fail
            go_roundw
            case rel =>
              have hrg := Lst.regrow (s' := (⟨a7, yn, cap7⟩ : Sl)) H6.out.1 H7.out.1
              rw [HK.out.2.2.2.2.2.2.2.2.2.1] at hrg
              refine ⟨k + 1, (⟨a7, yn, cap7⟩ : Sl), by omega, by go_num, ?_, ?_, ?_⟩
              · rw [HK.out.2.2.2.2.2.2.1, ← HK.out.2.2.2.2.2.2.2.2.1]; congr 1; omega
              · rw [HK.out.2.2.2.2.2.2.2.1, ← List.append_assoc]; exact hrg
              · have t1 : Below w1.heap.size w6 w7 := H7.out.1.tn.below (by omega) (fun q hq => (H6.out.2.1.lt q hq).1)
                have t2 : Below w1.heap.size w1 w6 := (HK.out.2.2.2.2.2.1.trans (HK.out.2.2.2.2.1.mono hwz1)).trans (H6.out.2.2.2.mono (by omega))
                exact (t2.trans t1).setCell (by show w1.heap.size ≤ og; exact (H6.out.1.outer.lt og rfl).1) _
            case measure => simp [intOf]; omega
          · obtain rfl : k = m := by omega
            have hft : gl.take k = gl := List.take_of_length_le (by rw [HX.out.2.1]; exact Nat.le_refl _)
            rw [hft] at hL ⊢
            have HF := Lib.hid (And.intro hL hbl)
            clear hL hbl hft hbt
            have z5 : ¬ (k : Int) < (k : Int) := by omega
            go_wp2_with fail
            go_roundw
            case rel =>
              refine ⟨.slice va (S0.length + 1) vc, .int .i64 (n6 + (bytesL gl : Int)), .slice ea k ec, _, .int .i64 ((i : Int) + 1), ⟨i + 1, by omega, by go_num, S0 ++ [((⟨sa, sn, sc⟩ : Sl), y0 ++ gl)], n6 + (bytesL gl : Int), rfl, ?_, ?_, HF.out.2⟩, rfl, rfl, rfl, rfl, rfl⟩
              · exact HF.out.1
              · rw [List.map_append]
                have h9 := HINV.out
                rw [HX.out.2.2.2.1] at h9
                exact h9
            case measure => simp [intOf]; omega
    · obtain rfl : i = N := by omega
      have hfull : G.take i = G := List.take_of_length_le (by rw [HG.out.2.2.2.2.1, HG.out.2.2.2.2.2.1]; exact Nat.le_refl _)
      have HF := Lib.hid (And.intro hS (And.intro hinv hbel))
      clear hS hinv hbel
      go_wp2_with fail
      go_ret
      have h1 := HF.out.2.1.eq
      rw [hfull] at h1
      refine ⟨_, S, rfl, HF.out.1.mono HG.out.2.2.1.size, ?_, HG.out.2.2.1.trans (HF.out.2.2.mono HG.out.2.2.1.size)⟩
      rw [HG.out.2.2.2.2.2.2, ← h1]
end Go.Proofs.YtkeggcfnoonakaaGreat
