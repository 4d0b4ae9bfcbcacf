/-
  The document: Split.
-/
import Derived.Test.YtkeggcfnoonakaaGreatMgL
import Derived.Test.YtkeggcfnoonakaaGreatMgM
set_option linter.unusedSimpArgs false
set_option linter.unusedVariables false
namespace Go.Proofs.YtkeggcfnoonakaaGreat
open Go.RowKit
variable {hd : ByteArray → ByteArray}

theorem drew_below (w : World) (d : Nat) : Below w.heap.size w (w.drewN d) := (tn_drewN (F := fun _ => False) w d).below (Nat.le_refl _) (fun _ e => e.elim)
theorem frozen_outer {w : World} {B og n cap i : Nat} {S : List Sl} (h : Own eSl w B (.slice (some ⟨og, 0, none⟩) n cap) S) : w.frozen? ⟨og, i, none⟩ = false := by
  obtain ⟨_, h2⟩ := h
  rcases h2 with ⟨h2, _⟩ | ⟨g', cap', cur, h2, _, hh, _⟩
  · simp at h2
  · simp only [Value.slice.injEq, Option.some.injEq, Addr.mk.injEq, and_true] at h2
    obtain ⟨rfl, _⟩ := h2
    simp [World.frozen?, hh]
set_option maxRecDepth 100000 in
set_option maxHeartbeats 8000000 in
theorem refsplit_any {w : World} {a : Option Addr} {c : Nat} {l : List KV} (size : Int) (hs1 : -9223372036854775808 ≤ size) (hs2 : size ≤ 9223372036854775807) (h : RdP w a c l) (hl : l.length ≤ 100000) (hby : bytesL l ≤ 1000000)
    (hh : ∀ p ∈ l, ∀ w', Below w.heap.size w w' → Calls Tryz.prog 25 #[.string p.1] w' fun e w'' => e = .returned (.string (hd p.1)) ∧ w'' = w') :
    Calls Tryz.prog 14 #[.slice a l.length c, .int .i64 size] w fun e w' => ∃ vo S, e = .returned vo ∧ Lst eKV eSl w' w.heap.size vo S ∧ S.map (·.2) = (spl (grp hd l) (max size 1)).1 ∧ Below w.heap.size w w' := by
  have hgr := refgroup_any (c := c) hd h hl hh
  obtain ⟨n, hn⟩ : ∃ n, l.length = n := ⟨_, rfl⟩
  obtain ⟨sz, hsz⟩ : ∃ sz, max size 1 = sz := ⟨_, rfl⟩
  have hsz1 : 1 ≤ sz := by omega
  have hsz2 : sz ≤ 9223372036854775807 := by omega
  rw [hn] at hgr ⊢
  rw [hsz]
  have H := Lib.hid (And.intro hgr (And.intro hl (And.intro hby hsz)))
  clear hgr h hl hby hh
  go_enter Tryz.func14, Tryz.ntmps14
  -- the size is at least 1
  by_cases hlt1 : size < 1
  · obtain rfl : sz = 1 := by omega
    clear hsz
    go_wp2_with fail
    refine H.out.1.mono ?_
    rintro e w1 ⟨vg, SG, rfl, hSG, hG, hb1⟩
    obtain ⟨ga, gc, rfl⟩ := hSG.form
    obtain ⟨G, hGG⟩ : ∃ G, grp hd l = G := ⟨_, rfl⟩
    have hflat : G.flatten = l := by rw [← hGG]; exact grp_flat l
    rw [hGG] at hG
    have hGl : G.length = SG.length := by rw [← hG, List.length_map]
    have hGl5 : SG.length ≤ 100000 := by
      have := grp_len hd l
      rw [hGG, hGl] at this
      have := H.out.2.1
      omega
    obtain ⟨N, hN⟩ : ∃ N, SG.length = N := ⟨_, rfl⟩
    have HG := Lib.hid (And.intro hSG (And.intro hG (And.intro hb1 (And.intro hflat (And.intro hGl (And.intro hN hGG))))))
    rw [hN] at hGl5 ⊢
    clear hSG hG hb1 hflat hGl hN hGG
    go_wp2_with fail
    go_loopw [6, 7, 8, 9] (fun vo o9 y x wr => ∃ (i : Nat) (S : List (Sl × List KV)) (n6 : Int) (nr : Int), i ≤ N ∧ x = .int .i64 (i : Int) ∧ y = .int .i64 nr ∧ o9 = .bool (decide (n6 < (1 : Int))) ∧ (n6 < (1 : Int) → nr = n6) ∧ Lst eKV eSl wr w1.heap.size vo S ∧ SpInv (1 : Int) G i (S.map (·.2)) n6 ∧ Below w1.heap.size w1 wr) (fun _ _ _ x _ => N - (intOf x).toNat)
    case atStart => exact ⟨0, [], (1 : Int), 0, by omega, rfl, rfl, by rw [decide_eq_false (by omega)], fun h => by omega, Lst.nil _ _, ⟨rfl, by omega, .inl ⟨rfl, rfl⟩, by simp, fun x hx => by simp at hx⟩, Below.refl _ _⟩
    case round =>
      obtain ⟨i, S, n6, nr, hi, rfl, rfl, rfl, hnr, hS, hinv, hbel⟩ := hrel
      obtain ⟨wo, rfl⟩ : ∃ wo, wo = wr := ⟨_, rfl⟩
      obtain ⟨va, vc, rfl⟩ := hS.form
      by_cases hlt : i < N
      · have hiS : i < SG.length := by rw [HG.out.2.2.2.2.2.1]; exact hlt
        have hiG : i < G.length := by rw [HG.out.2.2.2.2.1]; exact hiS
        obtain ⟨gb, gcap, hga, hgc⟩ := HG.out.1.read hiS
        injection hga with hga1 _ hga3
        subst hga1
        have hgi : G[i] = SG[i].2 := by
          have := HG.out.2.1
          have h2 : (SG.map (·.2))[i]? = G[i]? := by rw [this]
          rw [List.getElem?_map, List.getElem?_eq_getElem hiS, List.getElem?_eq_getElem hiG] at h2
          exact (Option.some.inj h2).symm
        have hown := HG.out.1.each i hiS
        have hsl := HG.out.1.sl hiS
        obtain ⟨x, hx⟩ : ∃ x, SG[i] = x := ⟨_, rfl⟩
        obtain ⟨⟨ea, en, ec⟩, gl⟩ := x
        rw [hx] at hgi hown hsl hgc
        simp only at hgi hown hsl
        have hgc2 : w1.cell? ⟨gb, i, none⟩ = some (.slice ea en ec) := hgc
        have hbyG : bytesG G ≤ 1000000 := by unfold bytesG; rw [HG.out.2.2.2.1]; exact H.out.2.2.1
        have hgt := bytesG_take G i hiG
        have hgle := bytesG_le G (i + 1)
        rw [hgi] at hgt
        have hglen : gl.length ≤ 100000 := by
          have h1 := len_flat (G := G) (g := gl) (by rw [← hgi]; exact List.getElem_mem hiG)
          rw [HG.out.2.2.2.1] at h1
          have := H.out.2.1
          omega
        have hfl9 := flat_take_len G i
        rw [HG.out.2.2.2.1] at hfl9
        have hl9 := H.out.2.1
        have hSlen := hinv.len
        rw [List.length_map] at hSlen
        obtain ⟨m, hm⟩ : ∃ m, gl.length = m := ⟨_, rfl⟩
        obtain rfl : m = en := (hsl.trans hm).symm
        have hb9 : bytesL gl ≤ 1000000 := by omega
        rw [hm] at hglen
        have HX := Lib.hid (And.intro hx (And.intro hm (And.intro hown (And.intro hgi (And.intro hgle hgc2)))))
        have z0 : (i : Int) < (N : Int) := by omega
        clear hx hm hown hgc hgc2 hgt hgle hbyG hsl
        by_cases hc : (1 : Int) ≤ n6
        · have hnew := hinv.new hiG hc
          have HINV := Lib.hid hnew
          have hLa : Lst eKV eSl (wo.alloc (.cells #[.slice none 0 0] 23)) w1.heap.size (.slice va S.length vc) S := hS.below ((Below.refl _ _).alloc (Nat.le_refl _) _)
          have hsrcN : Src eSl (wo.alloc (.cells #[.slice none 0 0] 23)) (.slice (some ⟨wo.heap.size, 0, none⟩) 1 1) [(⟨none, 0, 0⟩ : Sl)] := src_one (e := eSl) wo (⟨none, 0, 0⟩ : Sl) #[.slice none 0 0] 23 rfl 1
          have HA := Lib.hid (And.intro hLa (And.intro hsrcN hbel))
          have HLE : Hid ((S.map (·.1)).length + ([(⟨none, 0, 0⟩ : Sl)]).length ≤ 100000000) := by unfold Hid; simp; omega
          have hwz := hbel.size
          have hop : decide (n6 < (1 : Int)) = false := decide_eq_false (by omega)
          rw [hop]
          clear hnew hLa hsrcN hS hinv hgi hbel hnr hop
          go_wp2_with (at_builtin; go_loud (refine wpl_app2 eSl rfl (.tmp 23) (.tmp 24) rfl rfl rfl (v := .slice va S.length vc) (l := S.map (·.1)) (l2 := [(⟨none, 0, 0⟩ : Sl)]) HA.out.1.outer HA.out.2.1 HLE.out (by simp; omega) ?_); rw [List.length_map]; intro a5 cap5 w5 ha5; have H5 := Lib.hid ha5; clear ha5)
          have hst : Lst eKV eSl w5 w1.heap.size (.slice a5 (S.length + 1) cap5) (S ++ [((⟨none, 0, 0⟩ : Sl), ([] : List KV))]) :=
            HA.out.1.add (World.ownsRow_nil _ _ _ _) (fun q hq => by simp [Sl.val, Value.ownBlock] at hq) H5.out
          have hb5 : Below w1.heap.size w1 w5 := (HA.out.2.2.alloc (by omega) _).trans (H5.out.tn.below (by simp; omega) (fun q hq => (HA.out.1.outer.lt q hq).1))
          have ST := Lib.hid (And.intro hst hb5)
          have HLY : Hid (([] : List KV).length ≤ 100000 ∧ gl.length ≤ 100000) := ⟨by simp, by rw [HX.out.2.1]; exact hglen⟩
          clear hst hb5
          go_loopw [8, 10] (fun y x wr => ∃ (k : Nat) (s9 : Sl), k ≤ m ∧ x = .int .i64 (k : Int) ∧ y = .int .i64 ((0 : Int) + (bytesL (gl.take k) : Int)) ∧ Lst eKV eSl wr w1.heap.size (.slice a5 (S.length + 1) cap5) (S ++ [(s9, ([] : List KV) ++ gl.take k)]) ∧ Below w1.heap.size w1 wr) (fun _ x _ => m - (intOf x).toNat)
          case atStart => exact ⟨0, (⟨none, 0, 0⟩ : Sl), by omega, rfl, by simp [bytesL], by have := ST.out.1; simpa using this, ST.out.2⟩
          case round =>
            obtain ⟨k, ⟨sa, sn, sc⟩, hk, rfl, rfl, hL, hbl⟩ := hrel
            have hbt := bytesL_le gl k
            have g0 := (hbl.cell (p := ⟨gb, i, none⟩) (World.block_lt_of_cell? _ _ HX.out.2.2.2.2.2)).trans HX.out.2.2.2.2.2
            by_cases hkm : k < m
            · have hkl : k < gl.length := by rw [HX.out.2.1]; exact hkm
              obtain ⟨hb, hcap, hv, hvc, hvd, hblt, k0, k1⟩ := kv_cells HX.out.2.2.1 hkl
              have hea : ea = some ⟨hb, 0, none⟩ := by
                unfold Sl.val at hv
                injection hv
              have hec : hcap = ec := by
                unfold Sl.val at hv
                injection hv with _ _ e
                exact e.symm
              subst hea hec
              have hgbw : gb < w1.heap.size := World.block_lt_of_cell? _ _ HX.out.2.2.2.2.2
              have d0 := (hbl.cell (p := ⟨hb, k * 2, none⟩) hblt).trans k0
              have d1 := (hbl.cell (p := ⟨hb, k * 2 + 1, none⟩) hblt).trans k1
              have hnx := bytesL_take gl k hkl
              have htk : gl.take (k + 1) = gl.take k ++ [gl[k]] := List.take_succ_eq_append_getElem hkl
              have hbt2 := bytesL_le gl (k + 1)
              obtain ⟨p, hp⟩ : ∃ p, gl[k] = p := ⟨_, rfl⟩
              rw [hp] at d0 d1 hnx htk
              obtain ⟨kp, vp⟩ := p
              simp only at d0 d1 hnx
              obtain ⟨og, ocap, hvo, hcell⟩ := hL.read (i := S.length) (by simp)
              have hlastS : (S ++ [((⟨sa, sn, sc⟩ : Sl), ([] : List KV) ++ gl.take k)])[S.length]'(by simp) = (⟨sa, sn, sc⟩, ([] : List KV) ++ gl.take k) := by simp
              rw [hlastS] at hcell
              injection hvo with hvo1 _ hvo3
              subst hvo1 hvo3
              have hgB := (hL.outer.lt og rfl).2
              have hgBl := (hL.outer.lt og rfl).1
              have hfz : wr.frozen? ⟨og, S.length, none⟩ = false := frozen_outer hL.outer
              have hneg : ¬ gb = og := by omega
              have hneb : ¬ hb = og := by omega
              have hown := hL.each S.length (by simp)
              rw [hlastS] at hown
              have hsg : (Sl.val ⟨sa, sn, sc⟩).ownBlock ≠ some og := by
                have := hL.sepO S.length (by simp) og rfl
                rw [hlastS] at this
                exact this
              have hspg : (Sl.val ⟨sa, sn, sc⟩).ownBlock ≠ some gb := fun e => by
                have := (hown.lt _ e).1
                omega
              have hspb : (Sl.val ⟨sa, sn, sc⟩).ownBlock ≠ some hb := fun e => by
                have := (hown.lt _ e).1
                omega
              have hwz1 := hbl.size
              obtain ⟨m0, hm0⟩ : ∃ m0, S.length = m0 := ⟨_, rfl⟩
              obtain ⟨nn, hnn⟩ : ∃ nn : Int, (0 : Int) + (bytesL (gl.take k) : Int) = nn := ⟨_, rfl⟩
              have hnn0 : 0 ≤ nn := by omega
              have hnn1 : nn ≤ 2000000 := by omega
              have hsz5 : kp.size + vp.size ≤ 1000000 := by omega
              rw [hm0] at hcell hfz
              rw [hnn]
              have hm5 : m0 ≤ 100000 := by omega
              have y0' : (0 : Int) ≤ (m0 : Int) := by omega
              have y3 : IntKind.i64.wrap (m0 : Int) = (m0 : Int) := IntWalk.i64_in _ (by omega)
              have y4 : (m0 : Int) < (m0 : Int) + 1 := by omega
              have z5 : (k : Int) < (m : Int) := by omega
              have z6 : (0 : Int) ≤ (k : Int) := by omega
              have z7 : (0 : Int) ≤ (i : Int) := by omega
              have z8 : (i : Int) < (N : Int) := by omega
              have hln : (([] : List KV) ++ gl.take k).length + ([(kp, vp)] : List KV).length ≤ 100000000 := by
                rw [List.length_append, List.length_take]
                have h2 : ([(kp, vp)] : List KV).length = 1 := rfl
                have h3 := HLY.out
                omega
              have HK := Lib.hid (And.intro hL (And.intro hown (And.intro hsg (And.intro hspg (And.intro hspb (And.intro hbl (And.intro hnx (And.intro htk (And.intro hnn (And.intro hm0 hln))))))))))
              rw [hm0]
              clear hL hown hsg hspg hspb hbl hnx htk hnn hm0 hln hlastS k0 k1 hv hp hbt hbt2 hgB hgBl hvc hvd
              go_wp2_with fail
              refine wp_region_K (fun w' => w'.cell? ⟨og, m0, none⟩ = some (.slice sa sn sc) ∧ w'.cell? ⟨gb, i, none⟩ = some (.slice (some ⟨hb, 0, none⟩) m hcap) ∧ w'.cell? ⟨hb, k * 2, none⟩ = some (.string kp) ∧ w'.cell? ⟨hb, k * 2 + 1, none⟩ = some (.string vp)) 20 21 (by kernel_rfl) (by kernel_rfl) ⟨hcell, g0, d0, d1⟩ (fun hH => ?_)
              refine wpAnyK_take (i := 0) [20] (v := ?v1) rfl (by kernel_rfl) (by kernel_rfl) (by kernel_rfl) (by kernel_rfl) (fun _ _ _ h => h) (Or.inl ⟨by rfl, ?hy1⟩) hH ?rest1
              case hy1 => (intro w hSw; (try dsimp only at hSw); go_simp; with_reducible rfl)
              try simp only [Act.put, List.setIfInBounds_toArray, List.set_cons_zero, List.set_cons_succ]
              refine wpAnyK_take (i := 1) [20] (v := ?v2) rfl (by kernel_rfl) (by kernel_rfl) (by kernel_rfl) (by kernel_rfl) (fun _ _ _ h => h) (Or.inl ⟨by rfl, ?hy2⟩) hH ?rest2
              case hy2 => (intro w hSw; (try dsimp only at hSw); go_simp; with_reducible rfl)
              try simp only [Act.put, List.setIfInBounds_toArray, List.set_cons_zero, List.set_cons_succ]
              refine wpAnyK_take (i := 2) [20] (v := ?v3) rfl (by kernel_rfl) (by kernel_rfl) (by kernel_rfl) (by kernel_rfl) (fun _ _ _ h => h) (Or.inl ⟨by rfl, ?hy3⟩) hH ?rest3
              case hy3 => (intro w hSw; (try dsimp only at hSw); go_simp; with_reducible rfl)
              try simp only [Act.put, List.setIfInBounds_toArray, List.set_cons_zero, List.set_cons_succ]
              refine wpAnyK_take (i := 3) [20] (v := ?v4) rfl (by kernel_rfl) (by kernel_rfl) (by kernel_rfl) (by kernel_rfl) (fun _ _ _ h => h) (Or.inl ⟨by rfl, ?hy4⟩) hH ?rest4
              case hy4 => (intro w hSw; (try dsimp only at hSw); go_simp; with_reducible rfl)
              try simp only [Act.put, List.setIfInBounds_toArray, List.set_cons_zero, List.set_cons_succ]
              refine wpAnyK_take (i := 4) [20] (v := ?v5) rfl (by kernel_rfl) (by kernel_rfl) (by kernel_rfl) (by kernel_rfl) (fun _ _ _ h => h) (Or.inl ⟨by rfl, ?hy5⟩) hH ?rest5
              case hy5 => (intro w hSw; (try dsimp only at hSw); go_simp; with_reducible rfl)
              try simp only [Act.put, List.setIfInBounds_toArray, List.set_cons_zero, List.set_cons_succ]
              refine wpAnyK_take (i := 5) [20] (v := ?v6) rfl (by kernel_rfl) (by kernel_rfl) (by kernel_rfl) (by kernel_rfl) (fun _ _ _ h => h) (Or.inl ⟨by rfl, ?hy6⟩) hH ?rest6
              case hy6 => (intro w hSw; (try dsimp only at hSw); go_simp; with_reducible rfl)
              try simp only [Act.put, List.setIfInBounds_toArray, List.set_cons_zero, List.set_cons_succ]
              refine wpAnyK_take (i := 6) [20] (v := ?v7) rfl (by kernel_rfl) (by kernel_rfl) (by kernel_rfl) (by kernel_rfl) (fun _ _ _ h => h) (Or.inl ⟨by rfl, ?hy7⟩) hH ?rest7
              case hy7 => (intro w hSw; (try dsimp only at hSw); go_simp; with_reducible rfl)
              try simp only [Act.put, List.setIfInBounds_toArray, List.set_cons_zero, List.set_cons_succ]
              refine wpAnyK_take (i := 7) [20] (v := ?v8) rfl (by kernel_rfl) (by kernel_rfl) (by kernel_rfl) (by kernel_rfl) (fun _ _ _ h => h) (Or.inl ⟨by rfl, ?hy8⟩) hH ?rest8
              case hy8 => (intro w hSw; (try dsimp only at hSw); go_simp; with_reducible rfl)
              try simp only [Act.put, List.setIfInBounds_toArray, List.set_cons_zero, List.set_cons_succ]
              refine wpAnyK_take (i := 8) [20] (v := ?v9) rfl (by kernel_rfl) (by kernel_rfl) (by kernel_rfl) (by kernel_rfl) (fun _ _ _ h => h) (Or.inl ⟨by rfl, ?hy9⟩) hH ?rest9
              case hy9 => (intro w hSw; (try dsimp only at hSw); go_simp; with_reducible rfl)
              try simp only [Act.put, List.setIfInBounds_toArray, List.set_cons_zero, List.set_cons_succ]
              refine wpAnyK_take (i := 9) [20] (v := ?v10) rfl (by kernel_rfl) (by kernel_rfl) (by kernel_rfl) (by kernel_rfl) (fun _ _ _ h => h) (Or.inl ⟨by rfl, ?hy10⟩) hH ?rest10
              case hy10 => (intro w hSw; (try dsimp only at hSw); go_simp; with_reducible rfl)
              try simp only [Act.put, List.setIfInBounds_toArray, List.set_cons_zero, List.set_cons_succ]
              refine wpAnyK_take (i := 10) [20] (v := ?v11) rfl (by kernel_rfl) (by kernel_rfl) (by kernel_rfl) (by kernel_rfl) (fun _ _ _ h => h) (Or.inl ⟨by rfl, ?hy11⟩) hH ?rest11
              case hy11 => (intro w hSw; (try dsimp only at hSw); go_simp; with_reducible rfl)
              try simp only [Act.put, List.setIfInBounds_toArray, List.set_cons_zero, List.set_cons_succ]
              refine wpAnyK_take (i := 11) [20] (v := ?v12) rfl (by kernel_rfl) (by kernel_rfl) (by kernel_rfl) (by kernel_rfl) (fun _ _ _ h => h) (Or.inl ⟨by rfl, ?hy12⟩) hH ?rest12
              case hy12 => (intro w hSw; (try dsimp only at hSw); go_simp; with_reducible rfl)
              try simp only [Act.put, List.setIfInBounds_toArray, List.set_cons_zero, List.set_cons_succ]
              refine wpAnyK_take (i := 12) [20] (v := ?v13) rfl (by kernel_rfl) (by kernel_rfl) (by kernel_rfl) (by kernel_rfl) (fun _ _ _ h => h) (Or.inl ⟨by rfl, ?hy13⟩) hH ?rest13
              case hy13 => (intro w hSw; (try dsimp only at hSw); go_simp; with_reducible rfl)
              try simp only [Act.put, List.setIfInBounds_toArray, List.set_cons_zero, List.set_cons_succ]
              refine wpAnyK_take (i := 13) [20] (v := ?v14) rfl (by kernel_rfl) (by kernel_rfl) (by kernel_rfl) (by kernel_rfl) (fun _ _ _ h => h) (Or.inl ⟨by rfl, ?hy14⟩) hH ?rest14
              case hy14 => (intro w hSw; (try dsimp only at hSw); go_simp; with_reducible rfl)
              try simp only [Act.put, List.setIfInBounds_toArray, List.set_cons_zero, List.set_cons_succ]
              refine wpAnyK_take (i := 14) [20] (v := ?v15) rfl (by kernel_rfl) (by kernel_rfl) (by kernel_rfl) (by kernel_rfl) (fun _ _ _ h => h) (Or.inl ⟨by rfl, ?hy15⟩) hH ?rest15
              case hy15 => (intro w hSw; (try dsimp only at hSw); go_simp; with_reducible rfl)
              try simp only [Act.put, List.setIfInBounds_toArray, List.set_cons_zero, List.set_cons_succ]
              refine wpAnyK_take (i := 15) [20] (v := ?v16) rfl (by kernel_rfl) (by kernel_rfl) (by kernel_rfl) (by kernel_rfl) (fun _ _ _ h => h) (Or.inl ⟨by rfl, ?hy16⟩) hH ?rest16
              case hy16 => (intro w hSw; (try dsimp only at hSw); go_simp; with_reducible rfl)
              try simp only [Act.put, List.setIfInBounds_toArray, List.set_cons_zero, List.set_cons_succ]
              refine wpAnyK_take (i := 16) [20] (v := ?v17) rfl (by kernel_rfl) (by kernel_rfl) (by kernel_rfl) (by kernel_rfl) (fun _ _ _ h => h) (Or.inl ⟨by rfl, ?hy17⟩) hH ?rest17
              case hy17 => (intro w hSw; (try dsimp only at hSw); go_simp; with_reducible rfl)
              try simp only [Act.put, List.setIfInBounds_toArray, List.set_cons_zero, List.set_cons_succ]
              refine wpAnyK_one (i := 17) (by kernel_rfl) rfl (fun K hK => ?_) (by kernel_rfl)
              go_simp
              obtain ⟨w6, hw6⟩ : ∃ w6, w6 = (wr.alloc (.cells #[.string kp, .string vp] 54)).drew := ⟨_, rfl⟩
              rw [← hw6]
              have hb6 : Below wr.heap.size wr w6 := by rw [hw6]; exact ((Below.refl _ _).alloc (Nat.le_refl _) _).drew
              have hsrc6 : Src eKV w6 (.slice (some ⟨wr.heap.size, 0, none⟩) 1 1) [(kp, vp)] := by rw [hw6]; exact src_one (e := eKV) wr (kp, vp) #[.string kp, .string vp] 54 rfl 1
              have x0 := (hb6.cell (p := ⟨og, m0, none⟩) (World.block_lt_of_cell? _ _ hcell)).trans hcell
              have xf := (hb6.frozen (p := ⟨og, m0, none⟩) (World.block_lt_of_cell? _ _ hcell)).trans hfz
              have x3 := (hb6.cell (p := ⟨gb, i, none⟩) (World.block_lt_of_cell? _ _ g0)).trans g0
              have x1 := (hb6.cell (p := ⟨hb, k * 2, none⟩) (World.block_lt_of_cell? _ _ d0)).trans d0
              have x2 := (hb6.cell (p := ⟨hb, k * 2 + 1, none⟩) (World.block_lt_of_cell? _ _ d1)).trans d1
              have hl6 := HK.out.1.below hb6
              have hown6 := row_below HK.out.2.1 hb6
              have hz6 := hb6.size
              have H6 := Lib.hid (And.intro hl6 (And.intro hown6 (And.intro hsrc6 hb6)))
              clear hw6 hb6 hsrc6 hl6 hown6 hcell hfz g0 d0 d1
              refine hK.out _ _ ⟨x0, x3, x1, x2⟩ (fun hH => ?_)
              clear hK K
              try simp only [Act.put, List.setIfInBounds_toArray, List.set_cons_zero, List.set_cons_succ]
              refine wpAnyK_one (i := 18) (by kernel_rfl) rfl (fun K hK => ?_) (by kernel_rfl)
              refine step_app2 eKV rfl (.tmp 44) (.tmp 52) rfl (v := Sl.val ⟨sa, sn, sc⟩) (l := ([] : List KV) ++ gl.take k) (l2 := [(kp, vp)]) rfl rfl H6.out.2.1 H6.out.2.2.1 HK.out.2.2.2.2.2.2.2.2.2.2 (by omega) ?_
              intro a7 cap7 w7 ha7
              have q0 := ha7.tn.cell x0 HK.out.2.2.1
              have qf := (ha7.tn.frozen (p := ⟨og, m0, none⟩) (World.block_lt_of_cell? _ _ x0) HK.out.2.2.1).trans xf
              have q3 := ha7.tn.cell x3 HK.out.2.2.2.1
              have q1 := ha7.tn.cell x1 HK.out.2.2.2.2.1
              have q2 := ha7.tn.cell x2 HK.out.2.2.2.2.1
              obtain ⟨yn, hyn⟩ : ∃ yn, (([] : List KV) ++ gl.take k).length + ([(kp, vp)] : List KV).length = yn := ⟨_, rfl⟩
              rw [hyn] at ha7 ⊢
              have H7 := Lib.hid (And.intro ha7 hyn)
              clear ha7 hyn
              refine hK.out _ _ ⟨q0, q3, q1, q2⟩ (fun hH => ?_)
              clear hK K x0 x1 x2 x3 xf
              try simp only [Act.put, List.setIfInBounds_toArray, List.set_cons_zero, List.set_cons_succ]
              refine wpAnyK_take (i := 19) [20] (v := ?v18) rfl (by kernel_rfl) (by kernel_rfl) (by kernel_rfl) (by kernel_rfl) (fun _ _ _ h => h) (Or.inl ⟨by rfl, ?hy18⟩) hH ?rest18
              case hy18 => (intro w hSw; (try dsimp only at hSw); go_simp; with_reducible rfl)
              try simp only [Act.put, List.setIfInBounds_toArray, List.set_cons_zero, List.set_cons_succ]
              refine wpAnyK_last (by kernel_rfl) rfl (fun K hK => ?_) (by kernel_rfl)
              go_simp
              refine hK.out _ _ (wpAnyK_done (by kernel_rfl) ?_ _)
              clear hK K hH y3
              have r3 : (w7.setCell ⟨og, m0, none⟩ (.slice a7 yn cap7)).cell? ⟨gb, i, none⟩ = some (.slice (some ⟨hb, 0, none⟩) m hcap) := by
                rw [World.cell?_setCell_other _ _ _ _ (by intro e; injection e with e; exact hneg e.symm)]; exact q3
              have r1 : (w7.setCell ⟨og, m0, none⟩ (.slice a7 yn cap7)).cell? ⟨hb, k * 2, none⟩ = some (.string kp) := by
                rw [World.cell?_setCell_other _ _ _ _ (by intro e; injection e with e; exact hneb e.symm)]; exact q1
              have r2 : (w7.setCell ⟨og, m0, none⟩ (.slice a7 yn cap7)).cell? ⟨hb, k * 2 + 1, none⟩ = some (.string vp) := by
                rw [World.cell?_setCell_other _ _ _ _ (by intro e; injection e with e; exact hneb e.symm)]; exact q2
              have t2 : Below w1.heap.size w1 (w7.setCell ⟨og, m0, none⟩ (.slice a7 yn cap7)) := by
                have t1 : Below w1.heap.size w6 w7 := H7.out.1.tn.below (by omega) (fun q hq => (H6.out.2.1.lt q hq).1)
                have t2 : Below w1.heap.size w1 w6 := HK.out.2.2.2.2.2.1.trans (H6.out.2.2.2.mono (by omega))
                exact (t2.trans t1).setCell (by show w1.heap.size ≤ og; exact (H6.out.1.outer.lt og rfl).1) _
              have hrg := Lst.regrow (s' := (⟨a7, yn, cap7⟩ : Sl)) H6.out.1 H7.out.1
              rw [HK.out.2.2.2.2.2.2.2.2.2.1] at hrg
              change Lst eKV eSl (w7.setCell ⟨og, _, none⟩ (.slice a7 yn cap7)) _ _ _ at hrg
              obtain ⟨w8, hw8⟩ : ∃ w8, w8 = w7.setCell ⟨og, m0, none⟩ (.slice a7 yn cap7) := ⟨_, rfl⟩
              rw [← hw8] at r1 r2 r3 t2 hrg ⊢
              have H8 := Lib.hid (And.intro t2 hrg)
              clear hw8 t2 hrg q0 q1 q2 q3 qf
              have y5 : IntKind.i64.wrap (nn + (kp.size : Int)) = nn + (kp.size : Int) := IntWalk.i64_in _ (by omega)
              have y6 : IntKind.i64.wrap (nn + (kp.size : Int) + (vp.size : Int)) = nn + (kp.size : Int) + (vp.size : Int) := IntWalk.i64_in _ (by omega)
              go_wp2_with fail
              go_quiet (fail)
              clear y5 y6
              go_wp2_with fail
              go_roundw
              case rel =>
                refine ⟨k + 1, (⟨a7, yn, cap7⟩ : Sl), by omega, by go_num, ?_, ?_, ?_⟩
                · rw [HK.out.2.2.2.2.2.2.1, ← HK.out.2.2.2.2.2.2.2.2.1]; congr 1; omega
                · rw [HK.out.2.2.2.2.2.2.2.1, ← List.append_assoc]
                  exact H8.out.2.below (drew_below _ _)
                · exact H8.out.1.trans ((drew_below _ _).mono H8.out.1.size)
              case measure => simp [intOf]; omega
            · obtain rfl : k = m := by omega
              have hft : gl.take k = gl := List.take_of_length_le (by rw [HX.out.2.1]; exact Nat.le_refl _)
              rw [hft] at hL ⊢
              have HF := Lib.hid (And.intro hL hbl)
              clear hL hbl hft hbt
              have z5 : ¬ (k : Int) < (k : Int) := by omega
              have z7 : (0 : Int) ≤ (i : Int) := by omega
              obtain ⟨nz, hnz⟩ : ∃ nz : Int, (0 : Int) + (bytesL gl : Int) = nz := ⟨_, rfl⟩
              have HNZ := Lib.hid hnz
              rw [hnz]
              clear hnz
              by_cases hge : (1 : Int) ≤ nz
              · go_wp2_with fail
                go_roundw
                case rel =>
                  have hop : decide (nz < (1 : Int)) = false := decide_eq_false (by omega)
                  refine ⟨.slice a5 (S.length + 1) cap5, .bool false, .int .i64 nz, .int .i64 ((i : Int) + 1), ⟨i + 1, by omega, by go_num, S ++ [((⟨sa, sn, sc⟩ : Sl), ([] : List KV) ++ gl)], nz, nz, rfl, by rw [hop], fun _ => rfl, HF.out.1, ?_, HF.out.2⟩, rfl, rfl, rfl, rfl⟩
                  rw [List.map_append, ← HNZ.out, Int.zero_add]
                  have h9 := HINV.out
                  rw [HX.out.2.2.2.1] at h9
                  exact h9
                case measure => simp [intOf]; omega
              · go_wp2_with fail
                go_roundw
                case rel =>
                  have hop : decide (nz < (1 : Int)) = true := decide_eq_true (by omega)
                  refine ⟨.slice a5 (S.length + 1) cap5, .bool true, .int .i64 nz, .int .i64 ((i : Int) + 1), ⟨i + 1, by omega, by go_num, S ++ [((⟨sa, sn, sc⟩ : Sl), ([] : List KV) ++ gl)], nz, nz, rfl, by rw [hop], fun _ => rfl, HF.out.1, ?_, HF.out.2⟩, rfl, rfl, rfl, rfl⟩
                  rw [List.map_append, ← HNZ.out, Int.zero_add]
                  have h9 := HINV.out
                  rw [HX.out.2.2.2.1] at h9
                  exact h9
                case measure => simp [intOf]; omega
        · have hc2 : n6 < (1 : Int) := by omega
          obtain ⟨S0, ⟨s0, y0⟩, rfl⟩ : ∃ S0 y, S = S0 ++ [y] := by
            rcases List.eq_nil_or_concat S with h | ⟨x, y, h⟩
            · rcases hinv.big with ⟨_, h2⟩ | ⟨h2, _⟩
              · omega
              · rw [h] at h2; exact absurd rfl h2
            · exact ⟨x, y, by rw [h, List.concat_eq_append]⟩
          have hSl : (S0 ++ [(s0, y0)]).length = S0.length + 1 := by simp
          rw [List.map_append] at hinv
          have hnew := SpInv.last hinv hiG hc2
          have HINV := Lib.hid hnew
          have hn6a := hinv.n0
          have hn6b : n6 ≤ 1000000 := by
            rcases hinv.big with ⟨h2, _⟩ | ⟨_, h2⟩
            · simp at h2
            · have h3 := bytesG_le G i
              have h4 : bytesG G ≤ 1000000 := by unfold bytesG; rw [HG.out.2.2.2.1]; exact H.out.2.2.1
              omega
          have hy0 := hinv.mem y0 (by simp)
          rw [hSl] at hS hSlen ⊢
          have ST := Lib.hid (And.intro hS hbel)
          have HLY : Hid (y0.length ≤ 100000 ∧ gl.length ≤ 100000) := ⟨by omega, by rw [HX.out.2.1]; exact hglen⟩
          obtain rfl : nr = n6 := hnr hc2
          have hop : decide (nr < (1 : Int)) = true := decide_eq_true hc2
          rw [hop]
          clear hnew hinv hSl hS hbel hgi hy0 hnr hop
          go_wp2_with fail
          go_loopw [8, 10] (fun y x wr => ∃ (k : Nat) (s9 : Sl), k ≤ m ∧ x = .int .i64 (k : Int) ∧ y = .int .i64 (nr + (bytesL (gl.take k) : Int)) ∧ Lst eKV eSl wr w1.heap.size (.slice va (S0.length + 1) vc) (S0 ++ [(s9, y0 ++ gl.take k)]) ∧ Below w1.heap.size w1 wr) (fun _ x _ => m - (intOf x).toNat)
          case atStart => exact ⟨0, s0, by omega, rfl, by simp [bytesL], by have := ST.out.1; simpa using this, ST.out.2⟩
          case round =>
            obtain ⟨k, ⟨sa, sn, sc⟩, hk, rfl, rfl, hL, hbl⟩ := hrel
            have hbt := bytesL_le gl k
            have g0 := (hbl.cell (p := ⟨gb, i, none⟩) (World.block_lt_of_cell? _ _ HX.out.2.2.2.2.2)).trans HX.out.2.2.2.2.2
            by_cases hkm : k < m
            · have hkl : k < gl.length := by rw [HX.out.2.1]; exact hkm
              obtain ⟨hb, hcap, hv, hvc, hvd, hblt, k0, k1⟩ := kv_cells HX.out.2.2.1 hkl
              have hea : ea = some ⟨hb, 0, none⟩ := by
                unfold Sl.val at hv
                injection hv
              have hec : hcap = ec := by
                unfold Sl.val at hv
                injection hv with _ _ e
                exact e.symm
              subst hea hec
              have hgbw : gb < w1.heap.size := World.block_lt_of_cell? _ _ HX.out.2.2.2.2.2
              have d0 := (hbl.cell (p := ⟨hb, k * 2, none⟩) hblt).trans k0
              have d1 := (hbl.cell (p := ⟨hb, k * 2 + 1, none⟩) hblt).trans k1
              have hnx := bytesL_take gl k hkl
              have htk : gl.take (k + 1) = gl.take k ++ [gl[k]] := List.take_succ_eq_append_getElem hkl
              have hbt2 := bytesL_le gl (k + 1)
              obtain ⟨p, hp⟩ : ∃ p, gl[k] = p := ⟨_, rfl⟩
              rw [hp] at d0 d1 hnx htk
              obtain ⟨kp, vp⟩ := p
              simp only at d0 d1 hnx
              obtain ⟨og, ocap, hvo, hcell⟩ := hL.read (i := S0.length) (by simp)
              have hlastS : (S0 ++ [((⟨sa, sn, sc⟩ : Sl), y0 ++ gl.take k)])[S0.length]'(by simp) = (⟨sa, sn, sc⟩, y0 ++ gl.take k) := by simp
              rw [hlastS] at hcell
              injection hvo with hvo1 _ hvo3
              subst hvo1 hvo3
              have hgB := (hL.outer.lt og rfl).2
              have hgBl := (hL.outer.lt og rfl).1
              have hfz : wr.frozen? ⟨og, S0.length, none⟩ = false := frozen_outer hL.outer
              have hneg : ¬ gb = og := by omega
              have hneb : ¬ hb = og := by omega
              have hown := hL.each S0.length (by simp)
              rw [hlastS] at hown
              have hsg : (Sl.val ⟨sa, sn, sc⟩).ownBlock ≠ some og := by
                have := hL.sepO S0.length (by simp) og rfl
                rw [hlastS] at this
                exact this
              have hspg : (Sl.val ⟨sa, sn, sc⟩).ownBlock ≠ some gb := fun e => by
                have := (hown.lt _ e).1
                omega
              have hspb : (Sl.val ⟨sa, sn, sc⟩).ownBlock ≠ some hb := fun e => by
                have := (hown.lt _ e).1
                omega
              have hwz1 := hbl.size
              obtain ⟨m0, hm0⟩ : ∃ m0, S0.length = m0 := ⟨_, rfl⟩
              obtain ⟨nn, hnn⟩ : ∃ nn : Int, nr + (bytesL (gl.take k) : Int) = nn := ⟨_, rfl⟩
              have hnn0 : 0 ≤ nn := by omega
              have hnn1 : nn ≤ 2000000 := by omega
              have hsz5 : kp.size + vp.size ≤ 1000000 := by omega
              rw [hm0] at hcell hfz
              rw [hnn]
              have hm5 : m0 ≤ 100000 := by omega
              have y0' : (0 : Int) ≤ (m0 : Int) := by omega
              have y3 : IntKind.i64.wrap (m0 : Int) = (m0 : Int) := IntWalk.i64_in _ (by omega)
              have y4 : (m0 : Int) < (m0 : Int) + 1 := by omega
              have z5 : (k : Int) < (m : Int) := by omega
              have z6 : (0 : Int) ≤ (k : Int) := by omega
              have z7 : (0 : Int) ≤ (i : Int) := by omega
              have z8 : (i : Int) < (N : Int) := by omega
              have hln : (y0 ++ gl.take k).length + ([(kp, vp)] : List KV).length ≤ 100000000 := by
                rw [List.length_append, List.length_take]
                have h2 : ([(kp, vp)] : List KV).length = 1 := rfl
                have h3 := HLY.out
                omega
              have HK := Lib.hid (And.intro hL (And.intro hown (And.intro hsg (And.intro hspg (And.intro hspb (And.intro hbl (And.intro hnx (And.intro htk (And.intro hnn (And.intro hm0 hln))))))))))
              rw [hm0]
              clear hL hown hsg hspg hspb hbl hnx htk hnn hm0 hln hlastS k0 k1 hv hp hbt hbt2 hgB hgBl hvc hvd
              go_wp2_with fail
              refine wp_region_K (fun w' => w'.cell? ⟨og, m0, none⟩ = some (.slice sa sn sc) ∧ w'.cell? ⟨gb, i, none⟩ = some (.slice (some ⟨hb, 0, none⟩) m hcap) ∧ w'.cell? ⟨hb, k * 2, none⟩ = some (.string kp) ∧ w'.cell? ⟨hb, k * 2 + 1, none⟩ = some (.string vp)) 20 21 (by kernel_rfl) (by kernel_rfl) ⟨hcell, g0, d0, d1⟩ (fun hH => ?_)
              refine wpAnyK_take (i := 0) [20] (v := ?v19) rfl (by kernel_rfl) (by kernel_rfl) (by kernel_rfl) (by kernel_rfl) (fun _ _ _ h => h) (Or.inl ⟨by rfl, ?hy19⟩) hH ?rest19
              case hy19 => (intro w hSw; (try dsimp only at hSw); go_simp; with_reducible rfl)
              try simp only [Act.put, List.setIfInBounds_toArray, List.set_cons_zero, List.set_cons_succ]
              refine wpAnyK_take (i := 1) [20] (v := ?v20) rfl (by kernel_rfl) (by kernel_rfl) (by kernel_rfl) (by kernel_rfl) (fun _ _ _ h => h) (Or.inl ⟨by rfl, ?hy20⟩) hH ?rest20
              case hy20 => (intro w hSw; (try dsimp only at hSw); go_simp; with_reducible rfl)
              try simp only [Act.put, List.setIfInBounds_toArray, List.set_cons_zero, List.set_cons_succ]
              refine wpAnyK_take (i := 2) [20] (v := ?v21) rfl (by kernel_rfl) (by kernel_rfl) (by kernel_rfl) (by kernel_rfl) (fun _ _ _ h => h) (Or.inl ⟨by rfl, ?hy21⟩) hH ?rest21
              case hy21 => (intro w hSw; (try dsimp only at hSw); go_simp; with_reducible rfl)
              try simp only [Act.put, List.setIfInBounds_toArray, List.set_cons_zero, List.set_cons_succ]
              refine wpAnyK_take (i := 3) [20] (v := ?v22) rfl (by kernel_rfl) (by kernel_rfl) (by kernel_rfl) (by kernel_rfl) (fun _ _ _ h => h) (Or.inl ⟨by rfl, ?hy22⟩) hH ?rest22
              case hy22 => (intro w hSw; (try dsimp only at hSw); go_simp; with_reducible rfl)
              try simp only [Act.put, List.setIfInBounds_toArray, List.set_cons_zero, List.set_cons_succ]
              refine wpAnyK_take (i := 4) [20] (v := ?v23) rfl (by kernel_rfl) (by kernel_rfl) (by kernel_rfl) (by kernel_rfl) (fun _ _ _ h => h) (Or.inl ⟨by rfl, ?hy23⟩) hH ?rest23
              case hy23 => (intro w hSw; (try dsimp only at hSw); go_simp; with_reducible rfl)
              try simp only [Act.put, List.setIfInBounds_toArray, List.set_cons_zero, List.set_cons_succ]
              refine wpAnyK_take (i := 5) [20] (v := ?v24) rfl (by kernel_rfl) (by kernel_rfl) (by kernel_rfl) (by kernel_rfl) (fun _ _ _ h => h) (Or.inl ⟨by rfl, ?hy24⟩) hH ?rest24
              case hy24 => (intro w hSw; (try dsimp only at hSw); go_simp; with_reducible rfl)
              try simp only [Act.put, List.setIfInBounds_toArray, List.set_cons_zero, List.set_cons_succ]
              refine wpAnyK_take (i := 6) [20] (v := ?v25) rfl (by kernel_rfl) (by kernel_rfl) (by kernel_rfl) (by kernel_rfl) (fun _ _ _ h => h) (Or.inl ⟨by rfl, ?hy25⟩) hH ?rest25
              case hy25 => (intro w hSw; (try dsimp only at hSw); go_simp; with_reducible rfl)
              try simp only [Act.put, List.setIfInBounds_toArray, List.set_cons_zero, List.set_cons_succ]
              refine wpAnyK_take (i := 7) [20] (v := ?v26) rfl (by kernel_rfl) (by kernel_rfl) (by kernel_rfl) (by kernel_rfl) (fun _ _ _ h => h) (Or.inl ⟨by rfl, ?hy26⟩) hH ?rest26
              case hy26 => (intro w hSw; (try dsimp only at hSw); go_simp; with_reducible rfl)
              try simp only [Act.put, List.setIfInBounds_toArray, List.set_cons_zero, List.set_cons_succ]
              refine wpAnyK_take (i := 8) [20] (v := ?v27) rfl (by kernel_rfl) (by kernel_rfl) (by kernel_rfl) (by kernel_rfl) (fun _ _ _ h => h) (Or.inl ⟨by rfl, ?hy27⟩) hH ?rest27
              case hy27 => (intro w hSw; (try dsimp only at hSw); go_simp; with_reducible rfl)
              try simp only [Act.put, List.setIfInBounds_toArray, List.set_cons_zero, List.set_cons_succ]
              refine wpAnyK_take (i := 9) [20] (v := ?v28) rfl (by kernel_rfl) (by kernel_rfl) (by kernel_rfl) (by kernel_rfl) (fun _ _ _ h => h) (Or.inl ⟨by rfl, ?hy28⟩) hH ?rest28
              case hy28 => (intro w hSw; (try dsimp only at hSw); go_simp; with_reducible rfl)
              try simp only [Act.put, List.setIfInBounds_toArray, List.set_cons_zero, List.set_cons_succ]
              refine wpAnyK_take (i := 10) [20] (v := ?v29) rfl (by kernel_rfl) (by kernel_rfl) (by kernel_rfl) (by kernel_rfl) (fun _ _ _ h => h) (Or.inl ⟨by rfl, ?hy29⟩) hH ?rest29
              case hy29 => (intro w hSw; (try dsimp only at hSw); go_simp; with_reducible rfl)
              try simp only [Act.put, List.setIfInBounds_toArray, List.set_cons_zero, List.set_cons_succ]
              refine wpAnyK_take (i := 11) [20] (v := ?v30) rfl (by kernel_rfl) (by kernel_rfl) (by kernel_rfl) (by kernel_rfl) (fun _ _ _ h => h) (Or.inl ⟨by rfl, ?hy30⟩) hH ?rest30
              case hy30 => (intro w hSw; (try dsimp only at hSw); go_simp; with_reducible rfl)
              try simp only [Act.put, List.setIfInBounds_toArray, List.set_cons_zero, List.set_cons_succ]
              refine wpAnyK_take (i := 12) [20] (v := ?v31) rfl (by kernel_rfl) (by kernel_rfl) (by kernel_rfl) (by kernel_rfl) (fun _ _ _ h => h) (Or.inl ⟨by rfl, ?hy31⟩) hH ?rest31
              case hy31 => (intro w hSw; (try dsimp only at hSw); go_simp; with_reducible rfl)
              try simp only [Act.put, List.setIfInBounds_toArray, List.set_cons_zero, List.set_cons_succ]
              refine wpAnyK_take (i := 13) [20] (v := ?v32) rfl (by kernel_rfl) (by kernel_rfl) (by kernel_rfl) (by kernel_rfl) (fun _ _ _ h => h) (Or.inl ⟨by rfl, ?hy32⟩) hH ?rest32
              case hy32 => (intro w hSw; (try dsimp only at hSw); go_simp; with_reducible rfl)
              try simp only [Act.put, List.setIfInBounds_toArray, List.set_cons_zero, List.set_cons_succ]
              refine wpAnyK_take (i := 14) [20] (v := ?v33) rfl (by kernel_rfl) (by kernel_rfl) (by kernel_rfl) (by kernel_rfl) (fun _ _ _ h => h) (Or.inl ⟨by rfl, ?hy33⟩) hH ?rest33
              case hy33 => (intro w hSw; (try dsimp only at hSw); go_simp; with_reducible rfl)
              try simp only [Act.put, List.setIfInBounds_toArray, List.set_cons_zero, List.set_cons_succ]
              refine wpAnyK_take (i := 15) [20] (v := ?v34) rfl (by kernel_rfl) (by kernel_rfl) (by kernel_rfl) (by kernel_rfl) (fun _ _ _ h => h) (Or.inl ⟨by rfl, ?hy34⟩) hH ?rest34
              case hy34 => (intro w hSw; (try dsimp only at hSw); go_simp; with_reducible rfl)
              try simp only [Act.put, List.setIfInBounds_toArray, List.set_cons_zero, List.set_cons_succ]
              refine wpAnyK_take (i := 16) [20] (v := ?v35) rfl (by kernel_rfl) (by kernel_rfl) (by kernel_rfl) (by kernel_rfl) (fun _ _ _ h => h) (Or.inl ⟨by rfl, ?hy35⟩) hH ?rest35
              case hy35 => (intro w hSw; (try dsimp only at hSw); go_simp; with_reducible rfl)
              try simp only [Act.put, List.setIfInBounds_toArray, List.set_cons_zero, List.set_cons_succ]
              refine wpAnyK_one (i := 17) (by kernel_rfl) rfl (fun K hK => ?_) (by kernel_rfl)
              go_simp
              obtain ⟨w6, hw6⟩ : ∃ w6, w6 = (wr.alloc (.cells #[.string kp, .string vp] 54)).drew := ⟨_, rfl⟩
              rw [← hw6]
              have hb6 : Below wr.heap.size wr w6 := by rw [hw6]; exact ((Below.refl _ _).alloc (Nat.le_refl _) _).drew
              have hsrc6 : Src eKV w6 (.slice (some ⟨wr.heap.size, 0, none⟩) 1 1) [(kp, vp)] := by rw [hw6]; exact src_one (e := eKV) wr (kp, vp) #[.string kp, .string vp] 54 rfl 1
              have x0 := (hb6.cell (p := ⟨og, m0, none⟩) (World.block_lt_of_cell? _ _ hcell)).trans hcell
              have xf := (hb6.frozen (p := ⟨og, m0, none⟩) (World.block_lt_of_cell? _ _ hcell)).trans hfz
              have x3 := (hb6.cell (p := ⟨gb, i, none⟩) (World.block_lt_of_cell? _ _ g0)).trans g0
              have x1 := (hb6.cell (p := ⟨hb, k * 2, none⟩) (World.block_lt_of_cell? _ _ d0)).trans d0
              have x2 := (hb6.cell (p := ⟨hb, k * 2 + 1, none⟩) (World.block_lt_of_cell? _ _ d1)).trans d1
              have hl6 := HK.out.1.below hb6
              have hown6 := row_below HK.out.2.1 hb6
              have hz6 := hb6.size
              have H6 := Lib.hid (And.intro hl6 (And.intro hown6 (And.intro hsrc6 hb6)))
              clear hw6 hb6 hsrc6 hl6 hown6 hcell hfz g0 d0 d1
              refine hK.out _ _ ⟨x0, x3, x1, x2⟩ (fun hH => ?_)
              clear hK K
              try simp only [Act.put, List.setIfInBounds_toArray, List.set_cons_zero, List.set_cons_succ]
              refine wpAnyK_one (i := 18) (by kernel_rfl) rfl (fun K hK => ?_) (by kernel_rfl)
              refine step_app2 eKV rfl (.tmp 44) (.tmp 52) rfl (v := Sl.val ⟨sa, sn, sc⟩) (l := y0 ++ gl.take k) (l2 := [(kp, vp)]) rfl rfl H6.out.2.1 H6.out.2.2.1 HK.out.2.2.2.2.2.2.2.2.2.2 (by omega) ?_
              intro a7 cap7 w7 ha7
              have q0 := ha7.tn.cell x0 HK.out.2.2.1
              have qf := (ha7.tn.frozen (p := ⟨og, m0, none⟩) (World.block_lt_of_cell? _ _ x0) HK.out.2.2.1).trans xf
              have q3 := ha7.tn.cell x3 HK.out.2.2.2.1
              have q1 := ha7.tn.cell x1 HK.out.2.2.2.2.1
              have q2 := ha7.tn.cell x2 HK.out.2.2.2.2.1
              obtain ⟨yn, hyn⟩ : ∃ yn, (y0 ++ gl.take k).length + ([(kp, vp)] : List KV).length = yn := ⟨_, rfl⟩
              rw [hyn] at ha7 ⊢
              have H7 := Lib.hid (And.intro ha7 hyn)
              clear ha7 hyn
              refine hK.out _ _ ⟨q0, q3, q1, q2⟩ (fun hH => ?_)
              clear hK K x0 x1 x2 x3 xf
              try simp only [Act.put, List.setIfInBounds_toArray, List.set_cons_zero, List.set_cons_succ]
              refine wpAnyK_take (i := 19) [20] (v := ?v36) rfl (by kernel_rfl) (by kernel_rfl) (by kernel_rfl) (by kernel_rfl) (fun _ _ _ h => h) (Or.inl ⟨by rfl, ?hy36⟩) hH ?rest36
              case hy36 => (intro w hSw; (try dsimp only at hSw); go_simp; with_reducible rfl)
              try simp only [Act.put, List.setIfInBounds_toArray, List.set_cons_zero, List.set_cons_succ]
              refine wpAnyK_last (by kernel_rfl) rfl (fun K hK => ?_) (by kernel_rfl)
              go_simp
              refine hK.out _ _ (wpAnyK_done (by kernel_rfl) ?_ _)
              clear hK K hH y3
              have r3 : (w7.setCell ⟨og, m0, none⟩ (.slice a7 yn cap7)).cell? ⟨gb, i, none⟩ = some (.slice (some ⟨hb, 0, none⟩) m hcap) := by
                rw [World.cell?_setCell_other _ _ _ _ (by intro e; injection e with e; exact hneg e.symm)]; exact q3
              have r1 : (w7.setCell ⟨og, m0, none⟩ (.slice a7 yn cap7)).cell? ⟨hb, k * 2, none⟩ = some (.string kp) := by
                rw [World.cell?_setCell_other _ _ _ _ (by intro e; injection e with e; exact hneb e.symm)]; exact q1
              have r2 : (w7.setCell ⟨og, m0, none⟩ (.slice a7 yn cap7)).cell? ⟨hb, k * 2 + 1, none⟩ = some (.string vp) := by
                rw [World.cell?_setCell_other _ _ _ _ (by intro e; injection e with e; exact hneb e.symm)]; exact q2
              have t2 : Below w1.heap.size w1 (w7.setCell ⟨og, m0, none⟩ (.slice a7 yn cap7)) := by
                have t1 : Below w1.heap.size w6 w7 := H7.out.1.tn.below (by omega) (fun q hq => (H6.out.2.1.lt q hq).1)
                have t2 : Below w1.heap.size w1 w6 := HK.out.2.2.2.2.2.1.trans (H6.out.2.2.2.mono (by omega))
                exact (t2.trans t1).setCell (by show w1.heap.size ≤ og; exact (H6.out.1.outer.lt og rfl).1) _
              have hrg := Lst.regrow (s' := (⟨a7, yn, cap7⟩ : Sl)) H6.out.1 H7.out.1
              rw [HK.out.2.2.2.2.2.2.2.2.2.1] at hrg
              change Lst eKV eSl (w7.setCell ⟨og, _, none⟩ (.slice a7 yn cap7)) _ _ _ at hrg
              obtain ⟨w8, hw8⟩ : ∃ w8, w8 = w7.setCell ⟨og, m0, none⟩ (.slice a7 yn cap7) := ⟨_, rfl⟩
              rw [← hw8] at r1 r2 r3 t2 hrg ⊢
              have H8 := Lib.hid (And.intro t2 hrg)
              clear hw8 t2 hrg q0 q1 q2 q3 qf
              have y5 : IntKind.i64.wrap (nn + (kp.size : Int)) = nn + (kp.size : Int) := IntWalk.i64_in _ (by omega)
              have y6 : IntKind.i64.wrap (nn + (kp.size : Int) + (vp.size : Int)) = nn + (kp.size : Int) + (vp.size : Int) := IntWalk.i64_in _ (by omega)
              go_wp2_with fail
              go_quiet (fail)
              clear y5 y6
              go_wp2_with fail
              go_roundw
              case rel =>
                refine ⟨k + 1, (⟨a7, yn, cap7⟩ : Sl), by omega, by go_num, ?_, ?_, ?_⟩
                · rw [HK.out.2.2.2.2.2.2.1, ← HK.out.2.2.2.2.2.2.2.2.1]; congr 1; omega
                · rw [HK.out.2.2.2.2.2.2.2.1, ← List.append_assoc]
                  exact H8.out.2.below (drew_below _ _)
                · exact H8.out.1.trans ((drew_below _ _).mono H8.out.1.size)
              case measure => simp [intOf]; omega
            · obtain rfl : k = m := by omega
              have hft : gl.take k = gl := List.take_of_length_le (by rw [HX.out.2.1]; exact Nat.le_refl _)
              rw [hft] at hL ⊢
              have HF := Lib.hid (And.intro hL hbl)
              clear hL hbl hft hbt
              have z5 : ¬ (k : Int) < (k : Int) := by omega
              have z7 : (0 : Int) ≤ (i : Int) := by omega
              obtain ⟨nz, hnz⟩ : ∃ nz : Int, nr + (bytesL gl : Int) = nz := ⟨_, rfl⟩
              have HNZ := Lib.hid hnz
              rw [hnz]
              clear hnz
              by_cases hge : (1 : Int) ≤ nz
              · go_wp2_with fail
                go_roundw
                case rel =>
                  have hop : decide (nz < (1 : Int)) = false := decide_eq_false (by omega)
                  refine ⟨.slice va (S0.length + 1) vc, .bool false, .int .i64 nz, .int .i64 ((i : Int) + 1), ⟨i + 1, by omega, by go_num, S0 ++ [((⟨sa, sn, sc⟩ : Sl), y0 ++ gl)], nz, nz, rfl, by rw [hop], fun _ => rfl, HF.out.1, ?_, HF.out.2⟩, rfl, rfl, rfl, rfl⟩
                  rw [List.map_append, ← HNZ.out]
                  have h9 := HINV.out
                  rw [HX.out.2.2.2.1] at h9
                  exact h9
                case measure => simp [intOf]; omega
              · go_wp2_with fail
                go_roundw
                case rel =>
                  have hop : decide (nz < (1 : Int)) = true := decide_eq_true (by omega)
                  refine ⟨.slice va (S0.length + 1) vc, .bool true, .int .i64 nz, .int .i64 ((i : Int) + 1), ⟨i + 1, by omega, by go_num, S0 ++ [((⟨sa, sn, sc⟩ : Sl), y0 ++ gl)], nz, nz, rfl, by rw [hop], fun _ => rfl, HF.out.1, ?_, HF.out.2⟩, rfl, rfl, rfl, rfl⟩
                  rw [List.map_append, ← HNZ.out]
                  have h9 := HINV.out
                  rw [HX.out.2.2.2.1] at h9
                  exact h9
                case measure => simp [intOf]; omega
      · obtain rfl : i = N := by omega
        have hfull : G.take i = G := by rw [← HG.out.2.2.2.2.2.1, ← HG.out.2.2.2.2.1]; exact List.take_length
        have he := hinv.eq
        rw [hfull] at he
        have HF := Lib.hid (And.intro hS (And.intro he hbel))
        have z0 : ¬ (i : Int) < (i : Int) := by omega
        clear hS he hbel hinv hfull hnr
        go_wp2_with fail
        go_ret
        refine ⟨_, rfl, S, HF.out.1.mono HG.out.2.2.1.size, ?_, HG.out.2.2.1.trans (HF.out.2.2.mono HG.out.2.2.1.size)⟩
        rw [HG.out.2.2.2.2.2.2, ← HF.out.2.1]
  · obtain rfl : size = sz := by omega
    clear hsz
    go_wp2_with fail
    refine H.out.1.mono ?_
    rintro e w1 ⟨vg, SG, rfl, hSG, hG, hb1⟩
    obtain ⟨ga, gc, rfl⟩ := hSG.form
    obtain ⟨G, hGG⟩ : ∃ G, grp hd l = G := ⟨_, rfl⟩
    have hflat : G.flatten = l := by rw [← hGG]; exact grp_flat l
    rw [hGG] at hG
    have hGl : G.length = SG.length := by rw [← hG, List.length_map]
    have hGl5 : SG.length ≤ 100000 := by
      have := grp_len hd l
      rw [hGG, hGl] at this
      have := H.out.2.1
      omega
    obtain ⟨N, hN⟩ : ∃ N, SG.length = N := ⟨_, rfl⟩
    have HG := Lib.hid (And.intro hSG (And.intro hG (And.intro hb1 (And.intro hflat (And.intro hGl (And.intro hN hGG))))))
    rw [hN] at hGl5 ⊢
    clear hSG hG hb1 hflat hGl hN hGG
    go_wp2_with fail
    go_loopw [6, 7, 8, 9] (fun vo o9 y x wr => ∃ (i : Nat) (S : List (Sl × List KV)) (n6 : Int) (nr : Int), i ≤ N ∧ x = .int .i64 (i : Int) ∧ y = .int .i64 nr ∧ o9 = .bool (decide (n6 < size)) ∧ (n6 < size → nr = n6) ∧ Lst eKV eSl wr w1.heap.size vo S ∧ SpInv size G i (S.map (·.2)) n6 ∧ Below w1.heap.size w1 wr) (fun _ _ _ x _ => N - (intOf x).toNat)
    case atStart => exact ⟨0, [], size, 0, by omega, rfl, rfl, by rw [decide_eq_false (by omega)], fun h => by omega, Lst.nil _ _, ⟨rfl, by omega, .inl ⟨rfl, rfl⟩, by simp, fun x hx => by simp at hx⟩, Below.refl _ _⟩
    case round =>
      obtain ⟨i, S, n6, nr, hi, rfl, rfl, rfl, hnr, hS, hinv, hbel⟩ := hrel
      obtain ⟨wo, rfl⟩ : ∃ wo, wo = wr := ⟨_, rfl⟩
      obtain ⟨va, vc, rfl⟩ := hS.form
      by_cases hlt : i < N
      · have hiS : i < SG.length := by rw [HG.out.2.2.2.2.2.1]; exact hlt
        have hiG : i < G.length := by rw [HG.out.2.2.2.2.1]; exact hiS
        obtain ⟨gb, gcap, hga, hgc⟩ := HG.out.1.read hiS
        injection hga with hga1 _ hga3
        subst hga1
        have hgi : G[i] = SG[i].2 := by
          have := HG.out.2.1
          have h2 : (SG.map (·.2))[i]? = G[i]? := by rw [this]
          rw [List.getElem?_map, List.getElem?_eq_getElem hiS, List.getElem?_eq_getElem hiG] at h2
          exact (Option.some.inj h2).symm
        have hown := HG.out.1.each i hiS
        have hsl := HG.out.1.sl hiS
        obtain ⟨x, hx⟩ : ∃ x, SG[i] = x := ⟨_, rfl⟩
        obtain ⟨⟨ea, en, ec⟩, gl⟩ := x
        rw [hx] at hgi hown hsl hgc
        simp only at hgi hown hsl
        have hgc2 : w1.cell? ⟨gb, i, none⟩ = some (.slice ea en ec) := hgc
        have hbyG : bytesG G ≤ 1000000 := by unfold bytesG; rw [HG.out.2.2.2.1]; exact H.out.2.2.1
        have hgt := bytesG_take G i hiG
        have hgle := bytesG_le G (i + 1)
        rw [hgi] at hgt
        have hglen : gl.length ≤ 100000 := by
          have h1 := len_flat (G := G) (g := gl) (by rw [← hgi]; exact List.getElem_mem hiG)
          rw [HG.out.2.2.2.1] at h1
          have := H.out.2.1
          omega
        have hfl9 := flat_take_len G i
        rw [HG.out.2.2.2.1] at hfl9
        have hl9 := H.out.2.1
        have hSlen := hinv.len
        rw [List.length_map] at hSlen
        obtain ⟨m, hm⟩ : ∃ m, gl.length = m := ⟨_, rfl⟩
        obtain rfl : m = en := (hsl.trans hm).symm
        have hb9 : bytesL gl ≤ 1000000 := by omega
        rw [hm] at hglen
        have HX := Lib.hid (And.intro hx (And.intro hm (And.intro hown (And.intro hgi (And.intro hgle hgc2)))))
        have z0 : (i : Int) < (N : Int) := by omega
        clear hx hm hown hgc hgc2 hgt hgle hbyG hsl
        by_cases hc : size ≤ n6
        · have hnew := hinv.new hiG hc
          have HINV := Lib.hid hnew
          have hLa : Lst eKV eSl (wo.alloc (.cells #[.slice none 0 0] 23)) w1.heap.size (.slice va S.length vc) S := hS.below ((Below.refl _ _).alloc (Nat.le_refl _) _)
          have hsrcN : Src eSl (wo.alloc (.cells #[.slice none 0 0] 23)) (.slice (some ⟨wo.heap.size, 0, none⟩) 1 1) [(⟨none, 0, 0⟩ : Sl)] := src_one (e := eSl) wo (⟨none, 0, 0⟩ : Sl) #[.slice none 0 0] 23 rfl 1
          have HA := Lib.hid (And.intro hLa (And.intro hsrcN hbel))
          have HLE : Hid ((S.map (·.1)).length + ([(⟨none, 0, 0⟩ : Sl)]).length ≤ 100000000) := by unfold Hid; simp; omega
          have hwz := hbel.size
          have hop : decide (n6 < size) = false := decide_eq_false (by omega)
          rw [hop]
          clear hnew hLa hsrcN hS hinv hgi hbel hnr hop
          go_wp2_with (at_builtin; go_loud (refine wpl_app2 eSl rfl (.tmp 23) (.tmp 24) rfl rfl rfl (v := .slice va S.length vc) (l := S.map (·.1)) (l2 := [(⟨none, 0, 0⟩ : Sl)]) HA.out.1.outer HA.out.2.1 HLE.out (by simp; omega) ?_); rw [List.length_map]; intro a5 cap5 w5 ha5; have H5 := Lib.hid ha5; clear ha5)
          have hst : Lst eKV eSl w5 w1.heap.size (.slice a5 (S.length + 1) cap5) (S ++ [((⟨none, 0, 0⟩ : Sl), ([] : List KV))]) :=
            HA.out.1.add (World.ownsRow_nil _ _ _ _) (fun q hq => by simp [Sl.val, Value.ownBlock] at hq) H5.out
          have hb5 : Below w1.heap.size w1 w5 := (HA.out.2.2.alloc (by omega) _).trans (H5.out.tn.below (by simp; omega) (fun q hq => (HA.out.1.outer.lt q hq).1))
          have ST := Lib.hid (And.intro hst hb5)
          have HLY : Hid (([] : List KV).length ≤ 100000 ∧ gl.length ≤ 100000) := ⟨by simp, by rw [HX.out.2.1]; exact hglen⟩
          clear hst hb5
          go_loopw [8, 10] (fun y x wr => ∃ (k : Nat) (s9 : Sl), k ≤ m ∧ x = .int .i64 (k : Int) ∧ y = .int .i64 ((0 : Int) + (bytesL (gl.take k) : Int)) ∧ Lst eKV eSl wr w1.heap.size (.slice a5 (S.length + 1) cap5) (S ++ [(s9, ([] : List KV) ++ gl.take k)]) ∧ Below w1.heap.size w1 wr) (fun _ x _ => m - (intOf x).toNat)
          case atStart => exact ⟨0, (⟨none, 0, 0⟩ : Sl), by omega, rfl, by simp [bytesL], by have := ST.out.1; simpa using this, ST.out.2⟩
          case round =>
            obtain ⟨k, ⟨sa, sn, sc⟩, hk, rfl, rfl, hL, hbl⟩ := hrel
            have hbt := bytesL_le gl k
            have g0 := (hbl.cell (p := ⟨gb, i, none⟩) (World.block_lt_of_cell? _ _ HX.out.2.2.2.2.2)).trans HX.out.2.2.2.2.2
            by_cases hkm : k < m
            · have hkl : k < gl.length := by rw [HX.out.2.1]; exact hkm
              obtain ⟨hb, hcap, hv, hvc, hvd, hblt, k0, k1⟩ := kv_cells HX.out.2.2.1 hkl
              have hea : ea = some ⟨hb, 0, none⟩ := by
                unfold Sl.val at hv
                injection hv
              have hec : hcap = ec := by
                unfold Sl.val at hv
                injection hv with _ _ e
                exact e.symm
              subst hea hec
              have hgbw : gb < w1.heap.size := World.block_lt_of_cell? _ _ HX.out.2.2.2.2.2
              have d0 := (hbl.cell (p := ⟨hb, k * 2, none⟩) hblt).trans k0
              have d1 := (hbl.cell (p := ⟨hb, k * 2 + 1, none⟩) hblt).trans k1
              have hnx := bytesL_take gl k hkl
              have htk : gl.take (k + 1) = gl.take k ++ [gl[k]] := List.take_succ_eq_append_getElem hkl
              have hbt2 := bytesL_le gl (k + 1)
              obtain ⟨p, hp⟩ : ∃ p, gl[k] = p := ⟨_, rfl⟩
              rw [hp] at d0 d1 hnx htk
              obtain ⟨kp, vp⟩ := p
              simp only at d0 d1 hnx
              obtain ⟨og, ocap, hvo, hcell⟩ := hL.read (i := S.length) (by simp)
              have hlastS : (S ++ [((⟨sa, sn, sc⟩ : Sl), ([] : List KV) ++ gl.take k)])[S.length]'(by simp) = (⟨sa, sn, sc⟩, ([] : List KV) ++ gl.take k) := by simp
              rw [hlastS] at hcell
              injection hvo with hvo1 _ hvo3
              subst hvo1 hvo3
              have hgB := (hL.outer.lt og rfl).2
              have hgBl := (hL.outer.lt og rfl).1
              have hfz : wr.frozen? ⟨og, S.length, none⟩ = false := frozen_outer hL.outer
              have hneg : ¬ gb = og := by omega
              have hneb : ¬ hb = og := by omega
              have hown := hL.each S.length (by simp)
              rw [hlastS] at hown
              have hsg : (Sl.val ⟨sa, sn, sc⟩).ownBlock ≠ some og := by
                have := hL.sepO S.length (by simp) og rfl
                rw [hlastS] at this
                exact this
              have hspg : (Sl.val ⟨sa, sn, sc⟩).ownBlock ≠ some gb := fun e => by
                have := (hown.lt _ e).1
                omega
              have hspb : (Sl.val ⟨sa, sn, sc⟩).ownBlock ≠ some hb := fun e => by
                have := (hown.lt _ e).1
                omega
              have hwz1 := hbl.size
              obtain ⟨m0, hm0⟩ : ∃ m0, S.length = m0 := ⟨_, rfl⟩
              obtain ⟨nn, hnn⟩ : ∃ nn : Int, (0 : Int) + (bytesL (gl.take k) : Int) = nn := ⟨_, rfl⟩
              have hnn0 : 0 ≤ nn := by omega
              have hnn1 : nn ≤ 2000000 := by omega
              have hsz5 : kp.size + vp.size ≤ 1000000 := by omega
              rw [hm0] at hcell hfz
              rw [hnn]
              have hm5 : m0 ≤ 100000 := by omega
              have y0' : (0 : Int) ≤ (m0 : Int) := by omega
              have y3 : IntKind.i64.wrap (m0 : Int) = (m0 : Int) := IntWalk.i64_in _ (by omega)
              have y4 : (m0 : Int) < (m0 : Int) + 1 := by omega
              have z5 : (k : Int) < (m : Int) := by omega
              have z6 : (0 : Int) ≤ (k : Int) := by omega
              have z7 : (0 : Int) ≤ (i : Int) := by omega
              have z8 : (i : Int) < (N : Int) := by omega
              have hln : (([] : List KV) ++ gl.take k).length + ([(kp, vp)] : List KV).length ≤ 100000000 := by
                rw [List.length_append, List.length_take]
                have h2 : ([(kp, vp)] : List KV).length = 1 := rfl
                have h3 := HLY.out
                omega
              have HK := Lib.hid (And.intro hL (And.intro hown (And.intro hsg (And.intro hspg (And.intro hspb (And.intro hbl (And.intro hnx (And.intro htk (And.intro hnn (And.intro hm0 hln))))))))))
              rw [hm0]
              clear hL hown hsg hspg hspb hbl hnx htk hnn hm0 hln hlastS k0 k1 hv hp hbt hbt2 hgB hgBl hvc hvd
              go_wp2_with fail
              refine wp_region_K (fun w' => w'.cell? ⟨og, m0, none⟩ = some (.slice sa sn sc) ∧ w'.cell? ⟨gb, i, none⟩ = some (.slice (some ⟨hb, 0, none⟩) m hcap) ∧ w'.cell? ⟨hb, k * 2, none⟩ = some (.string kp) ∧ w'.cell? ⟨hb, k * 2 + 1, none⟩ = some (.string vp)) 20 21 (by kernel_rfl) (by kernel_rfl) ⟨hcell, g0, d0, d1⟩ (fun hH => ?_)
              refine wpAnyK_take (i := 0) [20] (v := ?v37) rfl (by kernel_rfl) (by kernel_rfl) (by kernel_rfl) (by kernel_rfl) (fun _ _ _ h => h) (Or.inl ⟨by rfl, ?hy37⟩) hH ?rest37
              case hy37 => (intro w hSw; (try dsimp only at hSw); go_simp; with_reducible rfl)
              try simp only [Act.put, List.setIfInBounds_toArray, List.set_cons_zero, List.set_cons_succ]
              refine wpAnyK_take (i := 1) [20] (v := ?v38) rfl (by kernel_rfl) (by kernel_rfl) (by kernel_rfl) (by kernel_rfl) (fun _ _ _ h => h) (Or.inl ⟨by rfl, ?hy38⟩) hH ?rest38
              case hy38 => (intro w hSw; (try dsimp only at hSw); go_simp; with_reducible rfl)
              try simp only [Act.put, List.setIfInBounds_toArray, List.set_cons_zero, List.set_cons_succ]
              refine wpAnyK_take (i := 2) [20] (v := ?v39) rfl (by kernel_rfl) (by kernel_rfl) (by kernel_rfl) (by kernel_rfl) (fun _ _ _ h => h) (Or.inl ⟨by rfl, ?hy39⟩) hH ?rest39
              case hy39 => (intro w hSw; (try dsimp only at hSw); go_simp; with_reducible rfl)
              try simp only [Act.put, List.setIfInBounds_toArray, List.set_cons_zero, List.set_cons_succ]
              refine wpAnyK_take (i := 3) [20] (v := ?v40) rfl (by kernel_rfl) (by kernel_rfl) (by kernel_rfl) (by kernel_rfl) (fun _ _ _ h => h) (Or.inl ⟨by rfl, ?hy40⟩) hH ?rest40
              case hy40 => (intro w hSw; (try dsimp only at hSw); go_simp; with_reducible rfl)
              try simp only [Act.put, List.setIfInBounds_toArray, List.set_cons_zero, List.set_cons_succ]
              refine wpAnyK_take (i := 4) [20] (v := ?v41) rfl (by kernel_rfl) (by kernel_rfl) (by kernel_rfl) (by kernel_rfl) (fun _ _ _ h => h) (Or.inl ⟨by rfl, ?hy41⟩) hH ?rest41
              case hy41 => (intro w hSw; (try dsimp only at hSw); go_simp; with_reducible rfl)
              try simp only [Act.put, List.setIfInBounds_toArray, List.set_cons_zero, List.set_cons_succ]
              refine wpAnyK_take (i := 5) [20] (v := ?v42) rfl (by kernel_rfl) (by kernel_rfl) (by kernel_rfl) (by kernel_rfl) (fun _ _ _ h => h) (Or.inl ⟨by rfl, ?hy42⟩) hH ?rest42
              case hy42 => (intro w hSw; (try dsimp only at hSw); go_simp; with_reducible rfl)
              try simp only [Act.put, List.setIfInBounds_toArray, List.set_cons_zero, List.set_cons_succ]
              refine wpAnyK_take (i := 6) [20] (v := ?v43) rfl (by kernel_rfl) (by kernel_rfl) (by kernel_rfl) (by kernel_rfl) (fun _ _ _ h => h) (Or.inl ⟨by rfl, ?hy43⟩) hH ?rest43
              case hy43 => (intro w hSw; (try dsimp only at hSw); go_simp; with_reducible rfl)
              try simp only [Act.put, List.setIfInBounds_toArray, List.set_cons_zero, List.set_cons_succ]
              refine wpAnyK_take (i := 7) [20] (v := ?v44) rfl (by kernel_rfl) (by kernel_rfl) (by kernel_rfl) (by kernel_rfl) (fun _ _ _ h => h) (Or.inl ⟨by rfl, ?hy44⟩) hH ?rest44
              case hy44 => (intro w hSw; (try dsimp only at hSw); go_simp; with_reducible rfl)
              try simp only [Act.put, List.setIfInBounds_toArray, List.set_cons_zero, List.set_cons_succ]
              refine wpAnyK_take (i := 8) [20] (v := ?v45) rfl (by kernel_rfl) (by kernel_rfl) (by kernel_rfl) (by kernel_rfl) (fun _ _ _ h => h) (Or.inl ⟨by rfl, ?hy45⟩) hH ?rest45
              case hy45 => (intro w hSw; (try dsimp only at hSw); go_simp; with_reducible rfl)
              try simp only [Act.put, List.setIfInBounds_toArray, List.set_cons_zero, List.set_cons_succ]
              refine wpAnyK_take (i := 9) [20] (v := ?v46) rfl (by kernel_rfl) (by kernel_rfl) (by kernel_rfl) (by kernel_rfl) (fun _ _ _ h => h) (Or.inl ⟨by rfl, ?hy46⟩) hH ?rest46
              case hy46 => (intro w hSw; (try dsimp only at hSw); go_simp; with_reducible rfl)
              try simp only [Act.put, List.setIfInBounds_toArray, List.set_cons_zero, List.set_cons_succ]
              refine wpAnyK_take (i := 10) [20] (v := ?v47) rfl (by kernel_rfl) (by kernel_rfl) (by kernel_rfl) (by kernel_rfl) (fun _ _ _ h => h) (Or.inl ⟨by rfl, ?hy47⟩) hH ?rest47
              case hy47 => (intro w hSw; (try dsimp only at hSw); go_simp; with_reducible rfl)
              try simp only [Act.put, List.setIfInBounds_toArray, List.set_cons_zero, List.set_cons_succ]
              refine wpAnyK_take (i := 11) [20] (v := ?v48) rfl (by kernel_rfl) (by kernel_rfl) (by kernel_rfl) (by kernel_rfl) (fun _ _ _ h => h) (Or.inl ⟨by rfl, ?hy48⟩) hH ?rest48
              case hy48 => (intro w hSw; (try dsimp only at hSw); go_simp; with_reducible rfl)
              try simp only [Act.put, List.setIfInBounds_toArray, List.set_cons_zero, List.set_cons_succ]
              refine wpAnyK_take (i := 12) [20] (v := ?v49) rfl (by kernel_rfl) (by kernel_rfl) (by kernel_rfl) (by kernel_rfl) (fun _ _ _ h => h) (Or.inl ⟨by rfl, ?hy49⟩) hH ?rest49
              case hy49 => (intro w hSw; (try dsimp only at hSw); go_simp; with_reducible rfl)
              try simp only [Act.put, List.setIfInBounds_toArray, List.set_cons_zero, List.set_cons_succ]
              refine wpAnyK_take (i := 13) [20] (v := ?v50) rfl (by kernel_rfl) (by kernel_rfl) (by kernel_rfl) (by kernel_rfl) (fun _ _ _ h => h) (Or.inl ⟨by rfl, ?hy50⟩) hH ?rest50
              case hy50 => (intro w hSw; (try dsimp only at hSw); go_simp; with_reducible rfl)
              try simp only [Act.put, List.setIfInBounds_toArray, List.set_cons_zero, List.set_cons_succ]
              refine wpAnyK_take (i := 14) [20] (v := ?v51) rfl (by kernel_rfl) (by kernel_rfl) (by kernel_rfl) (by kernel_rfl) (fun _ _ _ h => h) (Or.inl ⟨by rfl, ?hy51⟩) hH ?rest51
              case hy51 => (intro w hSw; (try dsimp only at hSw); go_simp; with_reducible rfl)
              try simp only [Act.put, List.setIfInBounds_toArray, List.set_cons_zero, List.set_cons_succ]
              refine wpAnyK_take (i := 15) [20] (v := ?v52) rfl (by kernel_rfl) (by kernel_rfl) (by kernel_rfl) (by kernel_rfl) (fun _ _ _ h => h) (Or.inl ⟨by rfl, ?hy52⟩) hH ?rest52
              case hy52 => (intro w hSw; (try dsimp only at hSw); go_simp; with_reducible rfl)
              try simp only [Act.put, List.setIfInBounds_toArray, List.set_cons_zero, List.set_cons_succ]
              refine wpAnyK_take (i := 16) [20] (v := ?v53) rfl (by kernel_rfl) (by kernel_rfl) (by kernel_rfl) (by kernel_rfl) (fun _ _ _ h => h) (Or.inl ⟨by rfl, ?hy53⟩) hH ?rest53
              case hy53 => (intro w hSw; (try dsimp only at hSw); go_simp; with_reducible rfl)
              try simp only [Act.put, List.setIfInBounds_toArray, List.set_cons_zero, List.set_cons_succ]
              refine wpAnyK_one (i := 17) (by kernel_rfl) rfl (fun K hK => ?_) (by kernel_rfl)
              go_simp
              obtain ⟨w6, hw6⟩ : ∃ w6, w6 = (wr.alloc (.cells #[.string kp, .string vp] 54)).drew := ⟨_, rfl⟩
              rw [← hw6]
              have hb6 : Below wr.heap.size wr w6 := by rw [hw6]; exact ((Below.refl _ _).alloc (Nat.le_refl _) _).drew
              have hsrc6 : Src eKV w6 (.slice (some ⟨wr.heap.size, 0, none⟩) 1 1) [(kp, vp)] := by rw [hw6]; exact src_one (e := eKV) wr (kp, vp) #[.string kp, .string vp] 54 rfl 1
              have x0 := (hb6.cell (p := ⟨og, m0, none⟩) (World.block_lt_of_cell? _ _ hcell)).trans hcell
              have xf := (hb6.frozen (p := ⟨og, m0, none⟩) (World.block_lt_of_cell? _ _ hcell)).trans hfz
              have x3 := (hb6.cell (p := ⟨gb, i, none⟩) (World.block_lt_of_cell? _ _ g0)).trans g0
              have x1 := (hb6.cell (p := ⟨hb, k * 2, none⟩) (World.block_lt_of_cell? _ _ d0)).trans d0
              have x2 := (hb6.cell (p := ⟨hb, k * 2 + 1, none⟩) (World.block_lt_of_cell? _ _ d1)).trans d1
              have hl6 := HK.out.1.below hb6
              have hown6 := row_below HK.out.2.1 hb6
              have hz6 := hb6.size
              have H6 := Lib.hid (And.intro hl6 (And.intro hown6 (And.intro hsrc6 hb6)))
              clear hw6 hb6 hsrc6 hl6 hown6 hcell hfz g0 d0 d1
              refine hK.out _ _ ⟨x0, x3, x1, x2⟩ (fun hH => ?_)
              clear hK K
              try simp only [Act.put, List.setIfInBounds_toArray, List.set_cons_zero, List.set_cons_succ]
              refine wpAnyK_one (i := 18) (by kernel_rfl) rfl (fun K hK => ?_) (by kernel_rfl)
              refine step_app2 eKV rfl (.tmp 44) (.tmp 52) rfl (v := Sl.val ⟨sa, sn, sc⟩) (l := ([] : List KV) ++ gl.take k) (l2 := [(kp, vp)]) rfl rfl H6.out.2.1 H6.out.2.2.1 HK.out.2.2.2.2.2.2.2.2.2.2 (by omega) ?_
              intro a7 cap7 w7 ha7
              have q0 := ha7.tn.cell x0 HK.out.2.2.1
              have qf := (ha7.tn.frozen (p := ⟨og, m0, none⟩) (World.block_lt_of_cell? _ _ x0) HK.out.2.2.1).trans xf
              have q3 := ha7.tn.cell x3 HK.out.2.2.2.1
              have q1 := ha7.tn.cell x1 HK.out.2.2.2.2.1
              have q2 := ha7.tn.cell x2 HK.out.2.2.2.2.1
              obtain ⟨yn, hyn⟩ : ∃ yn, (([] : List KV) ++ gl.take k).length + ([(kp, vp)] : List KV).length = yn := ⟨_, rfl⟩
              rw [hyn] at ha7 ⊢
              have H7 := Lib.hid (And.intro ha7 hyn)
              clear ha7 hyn
              refine hK.out _ _ ⟨q0, q3, q1, q2⟩ (fun hH => ?_)
              clear hK K x0 x1 x2 x3 xf
              try simp only [Act.put, List.setIfInBounds_toArray, List.set_cons_zero, List.set_cons_succ]
              refine wpAnyK_take (i := 19) [20] (v := ?v54) rfl (by kernel_rfl) (by kernel_rfl) (by kernel_rfl) (by kernel_rfl) (fun _ _ _ h => h) (Or.inl ⟨by rfl, ?hy54⟩) hH ?rest54
              case hy54 => (intro w hSw; (try dsimp only at hSw); go_simp; with_reducible rfl)
              try simp only [Act.put, List.setIfInBounds_toArray, List.set_cons_zero, List.set_cons_succ]
              refine wpAnyK_last (by kernel_rfl) rfl (fun K hK => ?_) (by kernel_rfl)
              go_simp
              refine hK.out _ _ (wpAnyK_done (by kernel_rfl) ?_ _)
              clear hK K hH y3
              have r3 : (w7.setCell ⟨og, m0, none⟩ (.slice a7 yn cap7)).cell? ⟨gb, i, none⟩ = some (.slice (some ⟨hb, 0, none⟩) m hcap) := by
                rw [World.cell?_setCell_other _ _ _ _ (by intro e; injection e with e; exact hneg e.symm)]; exact q3
              have r1 : (w7.setCell ⟨og, m0, none⟩ (.slice a7 yn cap7)).cell? ⟨hb, k * 2, none⟩ = some (.string kp) := by
                rw [World.cell?_setCell_other _ _ _ _ (by intro e; injection e with e; exact hneb e.symm)]; exact q1
              have r2 : (w7.setCell ⟨og, m0, none⟩ (.slice a7 yn cap7)).cell? ⟨hb, k * 2 + 1, none⟩ = some (.string vp) := by
                rw [World.cell?_setCell_other _ _ _ _ (by intro e; injection e with e; exact hneb e.symm)]; exact q2
              have t2 : Below w1.heap.size w1 (w7.setCell ⟨og, m0, none⟩ (.slice a7 yn cap7)) := by
                have t1 : Below w1.heap.size w6 w7 := H7.out.1.tn.below (by omega) (fun q hq => (H6.out.2.1.lt q hq).1)
                have t2 : Below w1.heap.size w1 w6 := HK.out.2.2.2.2.2.1.trans (H6.out.2.2.2.mono (by omega))
                exact (t2.trans t1).setCell (by show w1.heap.size ≤ og; exact (H6.out.1.outer.lt og rfl).1) _
              have hrg := Lst.regrow (s' := (⟨a7, yn, cap7⟩ : Sl)) H6.out.1 H7.out.1
              rw [HK.out.2.2.2.2.2.2.2.2.2.1] at hrg
              change Lst eKV eSl (w7.setCell ⟨og, _, none⟩ (.slice a7 yn cap7)) _ _ _ at hrg
              obtain ⟨w8, hw8⟩ : ∃ w8, w8 = w7.setCell ⟨og, m0, none⟩ (.slice a7 yn cap7) := ⟨_, rfl⟩
              rw [← hw8] at r1 r2 r3 t2 hrg ⊢
              have H8 := Lib.hid (And.intro t2 hrg)
              clear hw8 t2 hrg q0 q1 q2 q3 qf
              have y5 : IntKind.i64.wrap (nn + (kp.size : Int)) = nn + (kp.size : Int) := IntWalk.i64_in _ (by omega)
              have y6 : IntKind.i64.wrap (nn + (kp.size : Int) + (vp.size : Int)) = nn + (kp.size : Int) + (vp.size : Int) := IntWalk.i64_in _ (by omega)
              go_wp2_with fail
              go_quiet (fail)
              clear y5 y6
              go_wp2_with fail
              go_roundw
              case rel =>
                refine ⟨k + 1, (⟨a7, yn, cap7⟩ : Sl), by omega, by go_num, ?_, ?_, ?_⟩
                · rw [HK.out.2.2.2.2.2.2.1, ← HK.out.2.2.2.2.2.2.2.2.1]; congr 1; omega
                · rw [HK.out.2.2.2.2.2.2.2.1, ← List.append_assoc]
                  exact H8.out.2.below (drew_below _ _)
                · exact H8.out.1.trans ((drew_below _ _).mono H8.out.1.size)
              case measure => simp [intOf]; omega
            · obtain rfl : k = m := by omega
              have hft : gl.take k = gl := List.take_of_length_le (by rw [HX.out.2.1]; exact Nat.le_refl _)
              rw [hft] at hL ⊢
              have HF := Lib.hid (And.intro hL hbl)
              clear hL hbl hft hbt
              have z5 : ¬ (k : Int) < (k : Int) := by omega
              have z7 : (0 : Int) ≤ (i : Int) := by omega
              obtain ⟨nz, hnz⟩ : ∃ nz : Int, (0 : Int) + (bytesL gl : Int) = nz := ⟨_, rfl⟩
              have HNZ := Lib.hid hnz
              rw [hnz]
              clear hnz
              by_cases hge : size ≤ nz
              · go_wp2_with fail
                go_roundw
                case rel =>
                  have hop : decide (nz < size) = false := decide_eq_false (by omega)
                  refine ⟨.slice a5 (S.length + 1) cap5, .bool false, .int .i64 nz, .int .i64 ((i : Int) + 1), ⟨i + 1, by omega, by go_num, S ++ [((⟨sa, sn, sc⟩ : Sl), ([] : List KV) ++ gl)], nz, nz, rfl, by rw [hop], fun _ => rfl, HF.out.1, ?_, HF.out.2⟩, rfl, rfl, rfl, rfl⟩
                  rw [List.map_append, ← HNZ.out, Int.zero_add]
                  have h9 := HINV.out
                  rw [HX.out.2.2.2.1] at h9
                  exact h9
                case measure => simp [intOf]; omega
              · go_wp2_with fail
                go_roundw
                case rel =>
                  have hop : decide (nz < size) = true := decide_eq_true (by omega)
                  refine ⟨.slice a5 (S.length + 1) cap5, .bool true, .int .i64 nz, .int .i64 ((i : Int) + 1), ⟨i + 1, by omega, by go_num, S ++ [((⟨sa, sn, sc⟩ : Sl), ([] : List KV) ++ gl)], nz, nz, rfl, by rw [hop], fun _ => rfl, HF.out.1, ?_, HF.out.2⟩, rfl, rfl, rfl, rfl⟩
                  rw [List.map_append, ← HNZ.out, Int.zero_add]
                  have h9 := HINV.out
                  rw [HX.out.2.2.2.1] at h9
                  exact h9
                case measure => simp [intOf]; omega
        · have hc2 : n6 < size := by omega
          obtain ⟨S0, ⟨s0, y0⟩, rfl⟩ : ∃ S0 y, S = S0 ++ [y] := by
            rcases List.eq_nil_or_concat S with h | ⟨x, y, h⟩
            · rcases hinv.big with ⟨_, h2⟩ | ⟨h2, _⟩
              · omega
              · rw [h] at h2; exact absurd rfl h2
            · exact ⟨x, y, by rw [h, List.concat_eq_append]⟩
          have hSl : (S0 ++ [(s0, y0)]).length = S0.length + 1 := by simp
          rw [List.map_append] at hinv
          have hnew := SpInv.last hinv hiG hc2
          have HINV := Lib.hid hnew
          have hn6a := hinv.n0
          have hn6b : n6 ≤ 1000000 := by
            rcases hinv.big with ⟨h2, _⟩ | ⟨_, h2⟩
            · simp at h2
            · have h3 := bytesG_le G i
              have h4 : bytesG G ≤ 1000000 := by unfold bytesG; rw [HG.out.2.2.2.1]; exact H.out.2.2.1
              omega
          have hy0 := hinv.mem y0 (by simp)
          rw [hSl] at hS hSlen ⊢
          have ST := Lib.hid (And.intro hS hbel)
          have HLY : Hid (y0.length ≤ 100000 ∧ gl.length ≤ 100000) := ⟨by omega, by rw [HX.out.2.1]; exact hglen⟩
          obtain rfl : nr = n6 := hnr hc2
          have hop : decide (nr < size) = true := decide_eq_true hc2
          rw [hop]
          clear hnew hinv hSl hS hbel hgi hy0 hnr hop
          go_wp2_with fail
          go_loopw [8, 10] (fun y x wr => ∃ (k : Nat) (s9 : Sl), k ≤ m ∧ x = .int .i64 (k : Int) ∧ y = .int .i64 (nr + (bytesL (gl.take k) : Int)) ∧ Lst eKV eSl wr w1.heap.size (.slice va (S0.length + 1) vc) (S0 ++ [(s9, y0 ++ gl.take k)]) ∧ Below w1.heap.size w1 wr) (fun _ x _ => m - (intOf x).toNat)
          case atStart => exact ⟨0, s0, by omega, rfl, by simp [bytesL], by have := ST.out.1; simpa using this, ST.out.2⟩
          case round =>
            obtain ⟨k, ⟨sa, sn, sc⟩, hk, rfl, rfl, hL, hbl⟩ := hrel
            have hbt := bytesL_le gl k
            have g0 := (hbl.cell (p := ⟨gb, i, none⟩) (World.block_lt_of_cell? _ _ HX.out.2.2.2.2.2)).trans HX.out.2.2.2.2.2
            by_cases hkm : k < m
            · have hkl : k < gl.length := by rw [HX.out.2.1]; exact hkm
              obtain ⟨hb, hcap, hv, hvc, hvd, hblt, k0, k1⟩ := kv_cells HX.out.2.2.1 hkl
              have hea : ea = some ⟨hb, 0, none⟩ := by
                unfold Sl.val at hv
                injection hv
              have hec : hcap = ec := by
                unfold Sl.val at hv
                injection hv with _ _ e
                exact e.symm
              subst hea hec
              have hgbw : gb < w1.heap.size := World.block_lt_of_cell? _ _ HX.out.2.2.2.2.2
              have d0 := (hbl.cell (p := ⟨hb, k * 2, none⟩) hblt).trans k0
              have d1 := (hbl.cell (p := ⟨hb, k * 2 + 1, none⟩) hblt).trans k1
              have hnx := bytesL_take gl k hkl
              have htk : gl.take (k + 1) = gl.take k ++ [gl[k]] := List.take_succ_eq_append_getElem hkl
              have hbt2 := bytesL_le gl (k + 1)
              obtain ⟨p, hp⟩ : ∃ p, gl[k] = p := ⟨_, rfl⟩
              rw [hp] at d0 d1 hnx htk
              obtain ⟨kp, vp⟩ := p
              simp only at d0 d1 hnx
              obtain ⟨og, ocap, hvo, hcell⟩ := hL.read (i := S0.length) (by simp)
              have hlastS : (S0 ++ [((⟨sa, sn, sc⟩ : Sl), y0 ++ gl.take k)])[S0.length]'(by simp) = (⟨sa, sn, sc⟩, y0 ++ gl.take k) := by simp
              rw [hlastS] at hcell
              injection hvo with hvo1 _ hvo3
              subst hvo1 hvo3
              have hgB := (hL.outer.lt og rfl).2
              have hgBl := (hL.outer.lt og rfl).1
              have hfz : wr.frozen? ⟨og, S0.length, none⟩ = false := frozen_outer hL.outer
              have hneg : ¬ gb = og := by omega
              have hneb : ¬ hb = og := by omega
              have hown := hL.each S0.length (by simp)
              rw [hlastS] at hown
              have hsg : (Sl.val ⟨sa, sn, sc⟩).ownBlock ≠ some og := by
                have := hL.sepO S0.length (by simp) og rfl
                rw [hlastS] at this
                exact this
              have hspg : (Sl.val ⟨sa, sn, sc⟩).ownBlock ≠ some gb := fun e => by
                have := (hown.lt _ e).1
                omega
              have hspb : (Sl.val ⟨sa, sn, sc⟩).ownBlock ≠ some hb := fun e => by
                have := (hown.lt _ e).1
                omega
              have hwz1 := hbl.size
              obtain ⟨m0, hm0⟩ : ∃ m0, S0.length = m0 := ⟨_, rfl⟩
              obtain ⟨nn, hnn⟩ : ∃ nn : Int, nr + (bytesL (gl.take k) : Int) = nn := ⟨_, rfl⟩
              have hnn0 : 0 ≤ nn := by omega
              have hnn1 : nn ≤ 2000000 := by omega
              have hsz5 : kp.size + vp.size ≤ 1000000 := by omega
              rw [hm0] at hcell hfz
              rw [hnn]
              have hm5 : m0 ≤ 100000 := by omega
              have y0' : (0 : Int) ≤ (m0 : Int) := by omega
              have y3 : IntKind.i64.wrap (m0 : Int) = (m0 : Int) := IntWalk.i64_in _ (by omega)
              have y4 : (m0 : Int) < (m0 : Int) + 1 := by omega
              have z5 : (k : Int) < (m : Int) := by omega
              have z6 : (0 : Int) ≤ (k : Int) := by omega
              have z7 : (0 : Int) ≤ (i : Int) := by omega
              have z8 : (i : Int) < (N : Int) := by omega
              have hln : (y0 ++ gl.take k).length + ([(kp, vp)] : List KV).length ≤ 100000000 := by
                rw [List.length_append, List.length_take]
                have h2 : ([(kp, vp)] : List KV).length = 1 := rfl
                have h3 := HLY.out
                omega
              have HK := Lib.hid (And.intro hL (And.intro hown (And.intro hsg (And.intro hspg (And.intro hspb (And.intro hbl (And.intro hnx (And.intro htk (And.intro hnn (And.intro hm0 hln))))))))))
              rw [hm0]
              clear hL hown hsg hspg hspb hbl hnx htk hnn hm0 hln hlastS k0 k1 hv hp hbt hbt2 hgB hgBl hvc hvd
              go_wp2_with fail
              refine wp_region_K (fun w' => w'.cell? ⟨og, m0, none⟩ = some (.slice sa sn sc) ∧ w'.cell? ⟨gb, i, none⟩ = some (.slice (some ⟨hb, 0, none⟩) m hcap) ∧ w'.cell? ⟨hb, k * 2, none⟩ = some (.string kp) ∧ w'.cell? ⟨hb, k * 2 + 1, none⟩ = some (.string vp)) 20 21 (by kernel_rfl) (by kernel_rfl) ⟨hcell, g0, d0, d1⟩ (fun hH => ?_)
              refine wpAnyK_take (i := 0) [20] (v := ?v55) rfl (by kernel_rfl) (by kernel_rfl) (by kernel_rfl) (by kernel_rfl) (fun _ _ _ h => h) (Or.inl ⟨by rfl, ?hy55⟩) hH ?rest55
              case hy55 => (intro w hSw; (try dsimp only at hSw); go_simp; with_reducible rfl)
              try simp only [Act.put, List.setIfInBounds_toArray, List.set_cons_zero, List.set_cons_succ]
              refine wpAnyK_take (i := 1) [20] (v := ?v56) rfl (by kernel_rfl) (by kernel_rfl) (by kernel_rfl) (by kernel_rfl) (fun _ _ _ h => h) (Or.inl ⟨by rfl, ?hy56⟩) hH ?rest56
              case hy56 => (intro w hSw; (try dsimp only at hSw); go_simp; with_reducible rfl)
              try simp only [Act.put, List.setIfInBounds_toArray, List.set_cons_zero, List.set_cons_succ]
              refine wpAnyK_take (i := 2) [20] (v := ?v57) rfl (by kernel_rfl) (by kernel_rfl) (by kernel_rfl) (by kernel_rfl) (fun _ _ _ h => h) (Or.inl ⟨by rfl, ?hy57⟩) hH ?rest57
              case hy57 => (intro w hSw; (try dsimp only at hSw); go_simp; with_reducible rfl)
              try simp only [Act.put, List.setIfInBounds_toArray, List.set_cons_zero, List.set_cons_succ]
              refine wpAnyK_take (i := 3) [20] (v := ?v58) rfl (by kernel_rfl) (by kernel_rfl) (by kernel_rfl) (by kernel_rfl) (fun _ _ _ h => h) (Or.inl ⟨by rfl, ?hy58⟩) hH ?rest58
              case hy58 => (intro w hSw; (try dsimp only at hSw); go_simp; with_reducible rfl)
              try simp only [Act.put, List.setIfInBounds_toArray, List.set_cons_zero, List.set_cons_succ]
              refine wpAnyK_take (i := 4) [20] (v := ?v59) rfl (by kernel_rfl) (by kernel_rfl) (by kernel_rfl) (by kernel_rfl) (fun _ _ _ h => h) (Or.inl ⟨by rfl, ?hy59⟩) hH ?rest59
              case hy59 => (intro w hSw; (try dsimp only at hSw); go_simp; with_reducible rfl)
              try simp only [Act.put, List.setIfInBounds_toArray, List.set_cons_zero, List.set_cons_succ]
              refine wpAnyK_take (i := 5) [20] (v := ?v60) rfl (by kernel_rfl) (by kernel_rfl) (by kernel_rfl) (by kernel_rfl) (fun _ _ _ h => h) (Or.inl ⟨by rfl, ?hy60⟩) hH ?rest60
              case hy60 => (intro w hSw; (try dsimp only at hSw); go_simp; with_reducible rfl)
              try simp only [Act.put, List.setIfInBounds_toArray, List.set_cons_zero, List.set_cons_succ]
              refine wpAnyK_take (i := 6) [20] (v := ?v61) rfl (by kernel_rfl) (by kernel_rfl) (by kernel_rfl) (by kernel_rfl) (fun _ _ _ h => h) (Or.inl ⟨by rfl, ?hy61⟩) hH ?rest61
              case hy61 => (intro w hSw; (try dsimp only at hSw); go_simp; with_reducible rfl)
              try simp only [Act.put, List.setIfInBounds_toArray, List.set_cons_zero, List.set_cons_succ]
              refine wpAnyK_take (i := 7) [20] (v := ?v62) rfl (by kernel_rfl) (by kernel_rfl) (by kernel_rfl) (by kernel_rfl) (fun _ _ _ h => h) (Or.inl ⟨by rfl, ?hy62⟩) hH ?rest62
              case hy62 => (intro w hSw; (try dsimp only at hSw); go_simp; with_reducible rfl)
              try simp only [Act.put, List.setIfInBounds_toArray, List.set_cons_zero, List.set_cons_succ]
              refine wpAnyK_take (i := 8) [20] (v := ?v63) rfl (by kernel_rfl) (by kernel_rfl) (by kernel_rfl) (by kernel_rfl) (fun _ _ _ h => h) (Or.inl ⟨by rfl, ?hy63⟩) hH ?rest63
              case hy63 => (intro w hSw; (try dsimp only at hSw); go_simp; with_reducible rfl)
              try simp only [Act.put, List.setIfInBounds_toArray, List.set_cons_zero, List.set_cons_succ]
              refine wpAnyK_take (i := 9) [20] (v := ?v64) rfl (by kernel_rfl) (by kernel_rfl) (by kernel_rfl) (by kernel_rfl) (fun _ _ _ h => h) (Or.inl ⟨by rfl, ?hy64⟩) hH ?rest64
              case hy64 => (intro w hSw; (try dsimp only at hSw); go_simp; with_reducible rfl)
              try simp only [Act.put, List.setIfInBounds_toArray, List.set_cons_zero, List.set_cons_succ]
              refine wpAnyK_take (i := 10) [20] (v := ?v65) rfl (by kernel_rfl) (by kernel_rfl) (by kernel_rfl) (by kernel_rfl) (fun _ _ _ h => h) (Or.inl ⟨by rfl, ?hy65⟩) hH ?rest65
              case hy65 => (intro w hSw; (try dsimp only at hSw); go_simp; with_reducible rfl)
              try simp only [Act.put, List.setIfInBounds_toArray, List.set_cons_zero, List.set_cons_succ]
              refine wpAnyK_take (i := 11) [20] (v := ?v66) rfl (by kernel_rfl) (by kernel_rfl) (by kernel_rfl) (by kernel_rfl) (fun _ _ _ h => h) (Or.inl ⟨by rfl, ?hy66⟩) hH ?rest66
              case hy66 => (intro w hSw; (try dsimp only at hSw); go_simp; with_reducible rfl)
              try simp only [Act.put, List.setIfInBounds_toArray, List.set_cons_zero, List.set_cons_succ]
              refine wpAnyK_take (i := 12) [20] (v := ?v67) rfl (by kernel_rfl) (by kernel_rfl) (by kernel_rfl) (by kernel_rfl) (fun _ _ _ h => h) (Or.inl ⟨by rfl, ?hy67⟩) hH ?rest67
              case hy67 => (intro w hSw; (try dsimp only at hSw); go_simp; with_reducible rfl)
              try simp only [Act.put, List.setIfInBounds_toArray, List.set_cons_zero, List.set_cons_succ]
              refine wpAnyK_take (i := 13) [20] (v := ?v68) rfl (by kernel_rfl) (by kernel_rfl) (by kernel_rfl) (by kernel_rfl) (fun _ _ _ h => h) (Or.inl ⟨by rfl, ?hy68⟩) hH ?rest68
              case hy68 => (intro w hSw; (try dsimp only at hSw); go_simp; with_reducible rfl)
              try simp only [Act.put, List.setIfInBounds_toArray, List.set_cons_zero, List.set_cons_succ]
              refine wpAnyK_take (i := 14) [20] (v := ?v69) rfl (by kernel_rfl) (by kernel_rfl) (by kernel_rfl) (by kernel_rfl) (fun _ _ _ h => h) (Or.inl ⟨by rfl, ?hy69⟩) hH ?rest69
              case hy69 => (intro w hSw; (try dsimp only at hSw); go_simp; with_reducible rfl)
              try simp only [Act.put, List.setIfInBounds_toArray, List.set_cons_zero, List.set_cons_succ]
              refine wpAnyK_take (i := 15) [20] (v := ?v70) rfl (by kernel_rfl) (by kernel_rfl) (by kernel_rfl) (by kernel_rfl) (fun _ _ _ h => h) (Or.inl ⟨by rfl, ?hy70⟩) hH ?rest70
              case hy70 => (intro w hSw; (try dsimp only at hSw); go_simp; with_reducible rfl)
              try simp only [Act.put, List.setIfInBounds_toArray, List.set_cons_zero, List.set_cons_succ]
              refine wpAnyK_take (i := 16) [20] (v := ?v71) rfl (by kernel_rfl) (by kernel_rfl) (by kernel_rfl) (by kernel_rfl) (fun _ _ _ h => h) (Or.inl ⟨by rfl, ?hy71⟩) hH ?rest71
              case hy71 => (intro w hSw; (try dsimp only at hSw); go_simp; with_reducible rfl)
              try simp only [Act.put, List.setIfInBounds_toArray, List.set_cons_zero, List.set_cons_succ]
              refine wpAnyK_one (i := 17) (by kernel_rfl) rfl (fun K hK => ?_) (by kernel_rfl)
              go_simp
              obtain ⟨w6, hw6⟩ : ∃ w6, w6 = (wr.alloc (.cells #[.string kp, .string vp] 54)).drew := ⟨_, rfl⟩
              rw [← hw6]
              have hb6 : Below wr.heap.size wr w6 := by rw [hw6]; exact ((Below.refl _ _).alloc (Nat.le_refl _) _).drew
              have hsrc6 : Src eKV w6 (.slice (some ⟨wr.heap.size, 0, none⟩) 1 1) [(kp, vp)] := by rw [hw6]; exact src_one (e := eKV) wr (kp, vp) #[.string kp, .string vp] 54 rfl 1
              have x0 := (hb6.cell (p := ⟨og, m0, none⟩) (World.block_lt_of_cell? _ _ hcell)).trans hcell
              have xf := (hb6.frozen (p := ⟨og, m0, none⟩) (World.block_lt_of_cell? _ _ hcell)).trans hfz
              have x3 := (hb6.cell (p := ⟨gb, i, none⟩) (World.block_lt_of_cell? _ _ g0)).trans g0
              have x1 := (hb6.cell (p := ⟨hb, k * 2, none⟩) (World.block_lt_of_cell? _ _ d0)).trans d0
              have x2 := (hb6.cell (p := ⟨hb, k * 2 + 1, none⟩) (World.block_lt_of_cell? _ _ d1)).trans d1
              have hl6 := HK.out.1.below hb6
              have hown6 := row_below HK.out.2.1 hb6
              have hz6 := hb6.size
              have H6 := Lib.hid (And.intro hl6 (And.intro hown6 (And.intro hsrc6 hb6)))
              clear hw6 hb6 hsrc6 hl6 hown6 hcell hfz g0 d0 d1
              refine hK.out _ _ ⟨x0, x3, x1, x2⟩ (fun hH => ?_)
              clear hK K
              try simp only [Act.put, List.setIfInBounds_toArray, List.set_cons_zero, List.set_cons_succ]
              refine wpAnyK_one (i := 18) (by kernel_rfl) rfl (fun K hK => ?_) (by kernel_rfl)
              refine step_app2 eKV rfl (.tmp 44) (.tmp 52) rfl (v := Sl.val ⟨sa, sn, sc⟩) (l := y0 ++ gl.take k) (l2 := [(kp, vp)]) rfl rfl H6.out.2.1 H6.out.2.2.1 HK.out.2.2.2.2.2.2.2.2.2.2 (by omega) ?_
              intro a7 cap7 w7 ha7
              have q0 := ha7.tn.cell x0 HK.out.2.2.1
              have qf := (ha7.tn.frozen (p := ⟨og, m0, none⟩) (World.block_lt_of_cell? _ _ x0) HK.out.2.2.1).trans xf
              have q3 := ha7.tn.cell x3 HK.out.2.2.2.1
              have q1 := ha7.tn.cell x1 HK.out.2.2.2.2.1
              have q2 := ha7.tn.cell x2 HK.out.2.2.2.2.1
              obtain ⟨yn, hyn⟩ : ∃ yn, (y0 ++ gl.take k).length + ([(kp, vp)] : List KV).length = yn := ⟨_, rfl⟩
              rw [hyn] at ha7 ⊢
              have H7 := Lib.hid (And.intro ha7 hyn)
              clear ha7 hyn
              refine hK.out _ _ ⟨q0, q3, q1, q2⟩ (fun hH => ?_)
              clear hK K x0 x1 x2 x3 xf
              try simp only [Act.put, List.setIfInBounds_toArray, List.set_cons_zero, List.set_cons_succ]
              refine wpAnyK_take (i := 19) [20] (v := ?v72) rfl (by kernel_rfl) (by kernel_rfl) (by kernel_rfl) (by kernel_rfl) (fun _ _ _ h => h) (Or.inl ⟨by rfl, ?hy72⟩) hH ?rest72
              case hy72 => (intro w hSw; (try dsimp only at hSw); go_simp; with_reducible rfl)
              try simp only [Act.put, List.setIfInBounds_toArray, List.set_cons_zero, List.set_cons_succ]
              refine wpAnyK_last (by kernel_rfl) rfl (fun K hK => ?_) (by kernel_rfl)
              go_simp
              refine hK.out _ _ (wpAnyK_done (by kernel_rfl) ?_ _)
              clear hK K hH y3
              have r3 : (w7.setCell ⟨og, m0, none⟩ (.slice a7 yn cap7)).cell? ⟨gb, i, none⟩ = some (.slice (some ⟨hb, 0, none⟩) m hcap) := by
                rw [World.cell?_setCell_other _ _ _ _ (by intro e; injection e with e; exact hneg e.symm)]; exact q3
              have r1 : (w7.setCell ⟨og, m0, none⟩ (.slice a7 yn cap7)).cell? ⟨hb, k * 2, none⟩ = some (.string kp) := by
                rw [World.cell?_setCell_other _ _ _ _ (by intro e; injection e with e; exact hneb e.symm)]; exact q1
              have r2 : (w7.setCell ⟨og, m0, none⟩ (.slice a7 yn cap7)).cell? ⟨hb, k * 2 + 1, none⟩ = some (.string vp) := by
                rw [World.cell?_setCell_other _ _ _ _ (by intro e; injection e with e; exact hneb e.symm)]; exact q2
              have t2 : Below w1.heap.size w1 (w7.setCell ⟨og, m0, none⟩ (.slice a7 yn cap7)) := by
                have t1 : Below w1.heap.size w6 w7 := H7.out.1.tn.below (by omega) (fun q hq => (H6.out.2.1.lt q hq).1)
                have t2 : Below w1.heap.size w1 w6 := HK.out.2.2.2.2.2.1.trans (H6.out.2.2.2.mono (by omega))
                exact (t2.trans t1).setCell (by show w1.heap.size ≤ og; exact (H6.out.1.outer.lt og rfl).1) _
              have hrg := Lst.regrow (s' := (⟨a7, yn, cap7⟩ : Sl)) H6.out.1 H7.out.1
              rw [HK.out.2.2.2.2.2.2.2.2.2.1] at hrg
              change Lst eKV eSl (w7.setCell ⟨og, _, none⟩ (.slice a7 yn cap7)) _ _ _ at hrg
              obtain ⟨w8, hw8⟩ : ∃ w8, w8 = w7.setCell ⟨og, m0, none⟩ (.slice a7 yn cap7) := ⟨_, rfl⟩
              rw [← hw8] at r1 r2 r3 t2 hrg ⊢
              have H8 := Lib.hid (And.intro t2 hrg)
              clear hw8 t2 hrg q0 q1 q2 q3 qf
              have y5 : IntKind.i64.wrap (nn + (kp.size : Int)) = nn + (kp.size : Int) := IntWalk.i64_in _ (by omega)
              have y6 : IntKind.i64.wrap (nn + (kp.size : Int) + (vp.size : Int)) = nn + (kp.size : Int) + (vp.size : Int) := IntWalk.i64_in _ (by omega)
              go_wp2_with fail
              go_quiet (fail)
              clear y5 y6
              go_wp2_with fail
              go_roundw
              case rel =>
                refine ⟨k + 1, (⟨a7, yn, cap7⟩ : Sl), by omega, by go_num, ?_, ?_, ?_⟩
                · rw [HK.out.2.2.2.2.2.2.1, ← HK.out.2.2.2.2.2.2.2.2.1]; congr 1; omega
                · rw [HK.out.2.2.2.2.2.2.2.1, ← List.append_assoc]
                  exact H8.out.2.below (drew_below _ _)
                · exact H8.out.1.trans ((drew_below _ _).mono H8.out.1.size)
              case measure => simp [intOf]; omega
            · obtain rfl : k = m := by omega
              have hft : gl.take k = gl := List.take_of_length_le (by rw [HX.out.2.1]; exact Nat.le_refl _)
              rw [hft] at hL ⊢
              have HF := Lib.hid (And.intro hL hbl)
              clear hL hbl hft hbt
              have z5 : ¬ (k : Int) < (k : Int) := by omega
              have z7 : (0 : Int) ≤ (i : Int) := by omega
              obtain ⟨nz, hnz⟩ : ∃ nz : Int, nr + (bytesL gl : Int) = nz := ⟨_, rfl⟩
              have HNZ := Lib.hid hnz
              rw [hnz]
              clear hnz
              by_cases hge : size ≤ nz
              · go_wp2_with fail
                go_roundw
                case rel =>
                  have hop : decide (nz < size) = false := decide_eq_false (by omega)
                  refine ⟨.slice va (S0.length + 1) vc, .bool false, .int .i64 nz, .int .i64 ((i : Int) + 1), ⟨i + 1, by omega, by go_num, S0 ++ [((⟨sa, sn, sc⟩ : Sl), y0 ++ gl)], nz, nz, rfl, by rw [hop], fun _ => rfl, HF.out.1, ?_, HF.out.2⟩, rfl, rfl, rfl, rfl⟩
                  rw [List.map_append, ← HNZ.out]
                  have h9 := HINV.out
                  rw [HX.out.2.2.2.1] at h9
                  exact h9
                case measure => simp [intOf]; omega
              · go_wp2_with fail
                go_roundw
                case rel =>
                  have hop : decide (nz < size) = true := decide_eq_true (by omega)
                  refine ⟨.slice va (S0.length + 1) vc, .bool true, .int .i64 nz, .int .i64 ((i : Int) + 1), ⟨i + 1, by omega, by go_num, S0 ++ [((⟨sa, sn, sc⟩ : Sl), y0 ++ gl)], nz, nz, rfl, by rw [hop], fun _ => rfl, HF.out.1, ?_, HF.out.2⟩, rfl, rfl, rfl, rfl⟩
                  rw [List.map_append, ← HNZ.out]
                  have h9 := HINV.out
                  rw [HX.out.2.2.2.1] at h9
                  exact h9
                case measure => simp [intOf]; omega
      · obtain rfl : i = N := by omega
        have hfull : G.take i = G := by rw [← HG.out.2.2.2.2.2.1, ← HG.out.2.2.2.2.1]; exact List.take_length
        have he := hinv.eq
        rw [hfull] at he
        have HF := Lib.hid (And.intro hS (And.intro he hbel))
        have z0 : ¬ (i : Int) < (i : Int) := by omega
        clear hS he hbel hinv hfull hnr
        go_wp2_with fail
        go_ret
        refine ⟨_, rfl, S, HF.out.1.mono HG.out.2.2.1.size, ?_, HG.out.2.2.1.trans (HF.out.2.2.mono HG.out.2.2.1.size)⟩
        rw [HG.out.2.2.2.2.2.2, ← HF.out.2.1]
end Go.Proofs.YtkeggcfnoonakaaGreat
