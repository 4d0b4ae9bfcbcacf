/-
  LeaseHolds: its walk.
-/
import Derived.Test.YtmdhegmnfcodbaaLsN
namespace Go.Proofs.Ytmdhegmnfcodbaa
open Go.RowKit
variable {w w' w0 w1 w2 w3 w4 : World} {mb lb B : Nat} {ob : Option Nat} {m : Lm} {last now : Int} {H : List Lv} {v v' : Value}

set_option maxRecDepth 100000 in
set_option maxHeartbeats 8000000 in
theorem holds_walk (sa : Option Addr) (len cap : Nat) (l : List LOp) {W : World} (hop : OpsAt W sa len l) (hlen : len ≤ maxLen) (w : World) (hW : W = w) :
    Calls Try.prog 3 #[.slice sa len cap] w fun e w' => e = .returned (.bool true) ∧ Below w.heap.size w w' := by
  subst hW
  have hlen' : len ≤ 9223372036854775807 := hlen
  have HI := Lib.hid hop
  clear hop hlen
  by_cases h5 : (200 : Int) < (len : Int)
  · clear HI
    go_enter Try.func3, Try.ntmps3
    go_wp2_with (go_at_call 6; refine (alive_any _).mono ?_; rintro e v1 ⟨rfl, b2⟩)
    go_ret
    exact ⟨rfl, b2⟩
  go_enter Try.func3, Try.ntmps3
  go_wp2_with (go_at_call 7; refine (c_new (w0 := W) (Below.refl _ _) (Nat.le_refl _)).mono ?_; rintro e v1 ⟨rfl, h1⟩; have H1 := Lib.hid h1; clear h1)
  go_loopw [4, 5, 6, 7, 8, 9, 10, 11, 12, 13, 14, 15, 16] (fun lastv nowv heldv iv _ _ _ _ _ _ _ _ _ wr => ∃ (i : Nat) (nw : Int) (ob : Option Nat) (m : Lm) (last : Int) (ha : Option Addr) (hn hc : Nat) (H : List Lv), i ≤ len ∧ lastv = .int .i64 last ∧ nowv = .int .i64 nw ∧ heldv = .slice ha hn hc ∧ iv = .int .i64 (i : Int) ∧
    0 ≤ nw ∧ nw < 281474976710656 ∧ 0 ≤ last ∧ last ≤ (i : Int) ∧ hn ≤ i ∧ hn = H.length ∧ LsW W.heap.size W wr W.heap.size ob m last ∧ HeldAt W.heap.size wr W.heap.size ob m (.slice ha hn hc) H ∧ HInv H m last nw) (fun _ _ _ iv _ _ _ _ _ _ _ _ _ _ => len - (intOf iv).toNat)
  case atStart => exact ⟨0, 0, none, [], 0, none, 0, 0, [], by omega, rfl, rfl, rfl, rfl, by omega, by omega, by omega, by omega, by omega, rfl, H1.out, ⟨⟨World.ownsRow_nil _ _ _ _, fun x hx => by simp at hx⟩, fun q hq => by rcases hq with e | ⟨x, hx, e⟩ <;> simp [Value.ownBlock] at *⟩, ⟨fun x hx => by simp at hx, fun x hx => by simp at hx, fun x hx => by simp at hx, fun x hx => by simp at hx, fun x hx => by simp at hx⟩⟩
  case round =>
    obtain ⟨i, nw0, ob, m, last, ha, hn, hc, H, hi, rfl, rfl, rfl, rfl, hn0, hn1, hl0, hl1, hhn, hHl, hls, hhe, hin⟩ := hrel
    obtain ⟨wo, rfl⟩ : ∃ wo, wo = wr := ⟨_, rfl⟩
    have HS := Lib.hid (And.intro hls (And.intro hhe (And.intro hin hHl)))
    have hbW := hls.b
    clear hls hhe hin hHl
    by_cases hlt : i < len
    · obtain ⟨o, ho0⟩ : ∃ o, l[i]'(by have := HI.out.1; omega) = o := ⟨_, rfl⟩
      have hwf : o.wf W := by rw [← ho0]; exact HI.out.2.2 _ (List.getElem_mem _)
      obtain ⟨b, off, rfl, hbl, hhere⟩ : ∃ b off, sa = some ⟨b, off, none⟩ ∧ b < W.heap.size ∧ o.here W b (off + i * 5) := by
        rcases HI.out.2.1 with h0 | ⟨b, off, hb, hbl, hc⟩
        · omega
        · exact ⟨b, off, hb, hbl, by rw [← ho0]; exact hc i (by have := HI.out.1; omega)⟩
      obtain ⟨kd, oid, tt, nn, va, vn, vc, vs⟩ := o
      obtain ⟨g0, g1, g2, g3, g4⟩ := hhere
      have d0 := (hbW.cell (p := ⟨b, off + i * 5, none⟩) hbl).trans g0
      have d1 := (hbW.cell (p := ⟨b, off + i * 5 + 1, none⟩) hbl).trans g1
      have d2 := (hbW.cell (p := ⟨b, off + i * 5 + 2, none⟩) hbl).trans g2
      have d3 := (hbW.cell (p := ⟨b, off + i * 5 + 3, none⟩) hbl).trans g3
      have d4 := (hbW.cell (p := ⟨b, off + i * 5 + 4, none⟩) hbl).trans g4
      obtain ⟨hwn, hvm, hvi⟩ := hwf
      have hvn : vn ≤ 9223372036854775807 := hvm
      have hvi' : IntsAt W va vn vs := hvi
      obtain ⟨nw, hnw⟩ : ∃ nw, max nw0 (min nn 281474976710655) = nw := ⟨_, rfl⟩
      have hnw0 : nw0 ≤ nw := by omega
      have hnw1 : nw < 281474976710656 := by omega
      have hnw2 : 0 ≤ nw := by omega
      have r1 : (i : Int) < (len : Int) := by omega
      obtain ⟨W1, hW1⟩ : ∃ W1, wo.alloc (.cells #[.int .i64 kd, .int .i64 oid, .int .i64 tt, .int .i64 nn, .slice va vn vc] 30) = W1 := ⟨_, rfl⟩
      have q0 : W1.cell? ⟨wo.heap.size, 0, none⟩ = some (.int .i64 kd) := by rw [← hW1]; simp [go_sem]
      have q1 : W1.cell? ⟨wo.heap.size, 1, none⟩ = some (.int .i64 oid) := by rw [← hW1]; simp [go_sem]
      have q2 : W1.cell? ⟨wo.heap.size, 2, none⟩ = some (.int .i64 tt) := by rw [← hW1]; simp [go_sem]
      have q3 : W1.cell? ⟨wo.heap.size, 3, none⟩ = some (.int .i64 nn) := by rw [← hW1]; simp [go_sem]
      have q4 : W1.cell? ⟨wo.heap.size, 4, none⟩ = some (.slice va vn vc) := by rw [← hW1]; simp [go_sem]
      have hb1 : Below wo.heap.size wo W1 := by rw [← hW1]; exact (Below.refl _ _).alloc (Nat.le_refl _) _
      have hz1 : W1.heap.size = wo.heap.size + 1 := by rw [← hW1]; simp
      have L1 := Lib.hid (And.intro (HS.out.1.stay hb1) (And.intro (HS.out.2.1.stay hb1) (And.intro (HS.out.2.2.1.later hnw0) (And.intro HS.out.2.2.2 (And.intro hvi' hz1)))))
      have HN := Lib.hid (And.intro HS.out.1.a.ltd (And.intro (fun q (e : ob = some q) => HS.out.1.a.mp.lt e) (fun q (e : (Value.slice ha hn hc).ownBlock = some q) => (HS.out.2.1.own.1.lt q e).2)))
      clear ho0 hbl g0 g1 g2 g3 g4 hbW hwn hvm hvi hvi' hb1 hz1 HS
      by_cases hk1 : kd = 1
      · subst hk1
        by_cases hv2 : vn = 2
        · subst hv2
          by_cases hvv : validB vs = true
          · by_cases hrr : rightB tt nw = true
            · have HV := Lib.hid (And.intro hvv hrr)
              clear hvv hrr
              by_cases hfu : 16 ≤ (live nw m).length
              · have HF := Lib.hid hfu
                clear hfu
                go_wp2_with (go_at_call 8; go_loud (refine (c_acq_full L1.out.1 (by omega) L1.out.2.2.2.2.1.1 (rdX_ints L1.out.2.2.2.2.1 L1.out.1) HV.out.1 tt nw HV.out.2 HF.out).mono ?_); rintro e w2 ⟨rfl, hb2⟩; have H2 := Lib.hid hb2; clear hb2)
                go_roundw
                case rel => exact ⟨i + 1, nw, ob, m, last, ha, hn, hc, H, by omega, rfl, rfl, rfl, by go_num, hnw2, hnw1, hl0, by omega, by omega, L1.out.2.2.2.1, L1.out.1.stay H2.out, L1.out.2.1.stay H2.out, L1.out.2.2.1⟩
                case measure => simp [intOf]; omega
              · have HF := Lib.hid hfu
                clear hfu
                have hkd4 : ((1 : Int) == 4) = false := rfl
                go_wp2_with (first
                  | (go_at_call 11; go_loud (refine (c_meetB HT.out.1 HT.out.2.2).mono ?_); rintro e wm ⟨ma, mn, mc, ml, rfl, hr7, hle7, hb7⟩; have HM := Lib.hid (And.intro hr7 (And.intro hle7 hb7)); clear hr7 hle7 hb7)
                  | (at_builtin
                     go_loud (refine wpl_app eLse rfl _ _ rfl rfl rfl H4.out.2.1.own.1 H4.out.2.2.2 (by rw [← H4.out.2.2.1]; simp; omega) H4.out.1.hz ?_)
                     rw [← H4.out.2.2.1]
                     intro a6 cap6 w6 ho6 hb6 hg6 hv6
                     have t6 : Tn (fun q => (Value.slice ha hn hc).ownBlock = some q) W5 w6 := Tn.ofGrown hg6 (fun q hq => hq)
                     have l6 := H4.out.1.tn2 t6 (fun q hf hq => H4.out.2.1.ap q (.inl hq) hf) (fun q hq => (H4.out.2.1.own.1.lt q hq).1)
                     have hh6 := H2.out.2.1.add H2.out.1.a (fun p hp e => by have := (H2.out.2.2.2 none 0).two p hp; rw [e] at this; cases this) H2.out.1.hz (x := ⟨last + 1, ga, gc, vs, tillZ tt nw⟩) (by show Own eVec _ _ (.slice ga vs.length gc) vs; rw [L1.out.2.2.2.2.1.1]; exact H3.out.1) H3.out.2.1 H3.out.2.2 ho6 hg6 hv6
                     have s6 : w6.cell? ⟨wo.heap.size, 0, none⟩ = some (.int .i64 1) := t6.cell s5 (fun hq => absurd (HN.out.2.2 _ hq) (by show ¬ wo.heap.size < wo.heap.size; omega))
                     have HT := Lib.hid (And.intro l6 (And.intro hh6 (H2.out.2.2.2 ga gc))); clear t6 l6 hh6 ho6 hb6 hg6 hv6)
                  | (go_at_call 9
                     go_loud (refine (c_get H2.out.1 (last + 1) (getL_mem H2.out.1.a.nodup (List.mem_append_right _ (List.mem_singleton.2 rfl))) H2.out.2.2.1 (n := 2) L1.out.2.2.2.2.1.1).mono ?_)
                     rintro e w3 ⟨ga, gc, rfl, ho3, h3, hb3⟩
                     obtain ⟨W4, hW4⟩ : ∃ W4, w3.alloc (.cells #[.int .i64 (last + 1), .slice ga 2 gc, .int .i64 (tillZ tt nw)] 35) = W4 := ⟨_, rfl⟩
                     have u0 : W4.cell? ⟨w3.heap.size, 0, none⟩ = some (.int .i64 (last + 1)) := by rw [← hW4]; simp [go_sem]
                     have u1 : W4.cell? ⟨w3.heap.size, 1, none⟩ = some (.slice ga 2 gc) := by rw [← hW4]; simp [go_sem]
                     have u2 : W4.cell? ⟨w3.heap.size, 2, none⟩ = some (.int .i64 (tillZ tt nw)) := by rw [← hW4]; simp [go_sem]
                     have hb4 : Below w3.heap.size w3 W4 := by rw [← hW4]; exact (Below.refl _ _).alloc (Nat.le_refl _) _
                     obtain ⟨W5, hW5⟩ : ∃ W5, W4.alloc (.cells #[.int .i64 (last + 1), .slice ga 2 gc, .int .i64 (tillZ tt nw)] 35) = W5 := ⟨_, rfl⟩
                     have hb5 : Below W4.heap.size W4 W5 := by rw [← hW5]; exact (Below.refl _ _).alloc (Nat.le_refl _) _
                     have hsrc : Src eLse W5 (.slice (some ⟨W4.heap.size, 0, none⟩) 1 1) [⟨last + 1, ga, gc, vs, tillZ tt nw⟩] := by rw [← hW5]; exact src_one W4 _ _ _ (by show [Value.int .i64 _, Value.slice ga vs.length gc, Value.int .i64 _] = _; rw [L1.out.2.2.2.2.1.1]) 1
                     have hb35 : Below w3.heap.size w3 W5 := hb4.trans (hb5.mono hb4.size)
                     have s5 : W5.cell? ⟨wo.heap.size, 0, none⟩ = some (.int .i64 1) := ((hb3.trans (hb35.mono hb3.size)).cell (p := ⟨wo.heap.size, 0, none⟩) (World.block_lt_of_cell? _ _ s2)).trans s2
                     have H3 := Lib.hid (And.intro ho3 (And.intro hb3 hb35))
                     have H4 := Lib.hid (And.intro (h3.stay hb35) (And.intro ((H2.out.2.1.stay hb3).stay hb35) (And.intro L1.out.2.2.2.1 hsrc)))
                     clear ho3 h3 hb3 hb4 hb5 hsrc hb35)
                  | (go_at_call 8; go_loud (refine (c_acq_held L1.out.1 L1.out.2.1 L1.out.2.2.1 (by omega) L1.out.2.2.2.2.1.1 (rdX_ints L1.out.2.2.2.2.1 L1.out.1) HV.out.1 tt HV.out.2 (by have := HF.out; omega)).mono ?_)
                     rintro e w2 ⟨rfl, mb2, x2, h2, hh2, hc2, ht2⟩
                     have s2 : w2.cell? ⟨wo.heap.size, 0, none⟩ = some (.int .i64 1) := ht2.cell q0 (by
                       rintro (e | e)
                       · have h9 := HN.out.1
                         have e : wo.heap.size = W.heap.size := e
                         omega
                       · exact absurd (HN.out.2.1 _ e) (by show ¬ wo.heap.size < wo.heap.size; omega))
                     have hv2 : x2.vs.length = 2 := by rw [show x2.vs = vs from congrArg (fun c => c.2.1) hc2]; exact L1.out.2.2.2.2.1.1
                     have hi2 : ∀ a c, HInv (H ++ [⟨last + 1, a, c, vs, tillZ tt nw⟩]) (live nw m ++ [(last + 1, x2)]) (last + 1) nw := fun a c => L1.out.2.2.1.live.add (fun p hp => (L1.out.1.a.ok.key p (live_mem.1 hp).1).2) hv2 (show x2.id = last + 1 from congrArg (fun c => c.1) hc2) (by rw [hc2]; rfl)
                     have H2 := Lib.hid (And.intro h2 (And.intro hh2 (And.intro hc2 hi2))); clear h2 hh2 hc2 ht2 hi2 hv2))
                go_loopw [14, 15, 16] (fun kv _ _ wr => ∃ k : Nat, k ≤ hn + 1 ∧ kv = .int .i64 (k : Int) ∧ Below wm.heap.size wm wr) (fun kv _ _ _ => hn + 1 - (intOf kv).toNat)
                case atStart => exact ⟨0, by omega, rfl, Below.refl _ _⟩
                case round =>
                  obtain ⟨k, hk, rfl, hbk⟩ := hrel
                  have hbt : Below w6.heap.size w6 wr := HM.out.2.2.trans (hbk.mono HM.out.2.2.size)
                  have p0 := (hbt.cell (p := ⟨wo.heap.size, 0, none⟩) (World.block_lt_of_cell? _ _ s6)).trans s6
                  have HK := Lib.hid (And.intro hbk hbt)
                  by_cases hlk : k < hn + 1
                  · have hkl : k < (H ++ [(⟨last + 1, ga, gc, vs, tillZ tt nw⟩ : Lv)]).length := by rw [← (show hn + 1 = (H ++ [(⟨last + 1, ga, gc, vs, tillZ tt nw⟩ : Lv)]).length by rw [List.length_append, ← L1.out.2.2.2.1]; rfl)]; exact hlk
                    obtain ⟨hg, rfl, hgl, c0, c1, c2⟩ := (HT.out.2.1.own.below hbt).get hkl
                    obtain ⟨x, hx⟩ : ∃ x, (H ++ [(⟨last + 1, ga, gc, vs, tillZ tt nw⟩ : Lv)])[k] = x := ⟨_, rfl⟩
                    have hxm : x ∈ H ++ [(⟨last + 1, ga, gc, vs, tillZ tt nw⟩ : Lv)] := by rw [← hx]; exact List.getElem_mem hkl
                    rw [hx] at c0 c1 c2
                    obtain ⟨xi, xa, xc, xv, xt⟩ := x
                    have hx2 : xv.length = 2 := HT.out.2.2.len _ hxm
                    have c0' : wr.cell? ⟨hg, k * 3, none⟩ = some (.int .i64 xi) := c0
                    have c1' : wr.cell? ⟨hg, k * 3 + 1, none⟩ = some (.slice xa 2 xc) := by rw [← hx2]; exact c1
                    have c2' : wr.cell? ⟨hg, k * 3 + 2, none⟩ = some (.int .i64 xt) := c2
                    have hrx : RdI wr (.slice xa 2 xc) xv := by rw [← hx2]; exact rdI_own ((HT.out.2.1.own.below hbt).2 _ hxm).1
                    have r2 : (k : Int) < ((hn + 1 : Nat) : Int) := by omega
                    have r3 : (k : Int) < ((hn : Int) + 1 : Int) := by omega
                    have HX := Lib.hid (And.intro hxm (And.intro hx2 hrx))
                    clear hbk hbt hkl hx hxm hx2 c0 c1 c2 hrx
                    by_cases ht : nw < xt
                    · obtain ⟨y, hy, hyc⟩ := HT.out.2.2.got HT.out.1.a.nodup HX.out.1 ht
                      have hyc' : core y = (xi, xv, xt) := hyc
                      have HY := Lib.hid (And.intro hy (And.intro hyc' ht))
                      clear hy hyc hyc'
                      go_wp2_with (first
                        | (go_at_call 12; go_loud (with_reducible refine (leq_any (RdI.below HM.out.1 (HK.out.1.trans (H9.out.mono HK.out.1.size))) (RdI.below HX.out.2.2 H9.out) (HM.out.2.1 _ HX.out.1 HY.out.2.2) (by rw [leqV_len (HM.out.2.1 _ HX.out.1 HY.out.2.2)]; show xv.length ≤ _; rw [HX.out.2.1]; omega)).mono ?_); rintro e w10 ⟨rfl, k9, hk9⟩; have hb10 : Below W9.heap.size W9 w10 := (by rw [hk9]; exact drewN_below _ _); have e0 := (hb10.cell (p := ⟨wo.heap.size, 0, none⟩) (World.block_lt_of_cell? _ _ p9)).trans p9; have e2 := (hb10.cell (p := ⟨hg, k * 3 + 2, none⟩) (World.block_lt_of_cell? _ _ c92)).trans c92; have H10 := Lib.hid (H9.out.trans (hb10.mono H9.out.size)); clear hk9 hb10)
                        | (go_at_call 9; go_loud (refine (c_get (HT.out.1.stay HK.out.2) xi HY.out.1 HY.out.2.1 HX.out.2.1).mono ?_); rintro e w8 ⟨ga8, gc8, rfl, _, _, hb8⟩
                           obtain ⟨W9, hW9⟩ : ∃ W9, w8.alloc (.cells #[.int .i64 xi, .slice ga8 2 gc8, .int .i64 xt] 35) = W9 := ⟨_, rfl⟩
                           have hb9 : Below wr.heap.size wr W9 := by rw [← hW9]; exact hb8.alloc hb8.size _
                           have p9 := (hb9.cell (p := ⟨wo.heap.size, 0, none⟩) (World.block_lt_of_cell? _ _ p0)).trans p0
                           have c91 := (hb9.cell (p := ⟨hg, k * 3 + 1, none⟩) (World.block_lt_of_cell? _ _ c1')).trans c1'
                           have c92 := (hb9.cell (p := ⟨hg, k * 3 + 2, none⟩) (World.block_lt_of_cell? _ _ c2')).trans c2'
                           have H9 := Lib.hid hb9; clear hb8 hb9))
                      go_roundw
                      case rel => exact ⟨k + 1, by omega, by go_num, HK.out.1.trans (H10.out.mono HK.out.1.size)⟩
                      case measure => simp [intOf]; omega
                    · cases hgy : getL (live nw m ++ [(last + 1, x2)]) xi with
                      | none =>
                        have HY := Lib.hid hgy
                        clear hgy
                        go_wp2_with (first
                          | (go_at_call 9; go_loud (refine (c_get_none (HT.out.1.stay HK.out.2) xi HY.out).mono ?_); rintro e w8 ⟨rfl, _, hb8⟩
                             have hb9 : ∀ o, Below wr.heap.size wr (w8.alloc o) := fun o => hb8.alloc hb8.size o
                             have p9 : ∀ o, (w8.alloc o).cell? ⟨wo.heap.size, 0, none⟩ = _ := fun o => ((hb9 o).cell (p := ⟨wo.heap.size, 0, none⟩) (World.block_lt_of_cell? _ _ p0)).trans p0
                             have c91 : ∀ o, (w8.alloc o).cell? ⟨hg, k * 3 + 1, none⟩ = _ := fun o => ((hb9 o).cell (p := ⟨hg, k * 3 + 1, none⟩) (World.block_lt_of_cell? _ _ c1')).trans c1'
                             have c92 : ∀ o, (w8.alloc o).cell? ⟨hg, k * 3 + 2, none⟩ = _ := fun o => ((hb9 o).cell (p := ⟨hg, k * 3 + 2, none⟩) (World.block_lt_of_cell? _ _ c2')).trans c2'
                             have H9 := Lib.hid hb9; clear hb8 hb9))
                        go_roundw
                        case rel => exact ⟨k + 1, by omega, by go_num, HK.out.1.trans ((H9.out _).mono HK.out.1.size)⟩
                        case measure => simp [intOf]; omega
                      | some y =>
                        obtain ⟨yi, ya, yc, yv, yt⟩ := y
                        obtain ⟨yn, hyn⟩ : ∃ yn, yv.length = yn := ⟨_, rfl⟩
                        have HY := Lib.hid (And.intro hgy hyn)
                        clear hgy hyn
                        go_wp2_with (first
                          | (go_at_call 9; go_loud (refine (c_get (HT.out.1.stay HK.out.2) xi HY.out.1 (i := yi) (vs := yv) (t := yt) rfl HY.out.2).mono ?_); rintro e w8 ⟨ga8, gc8, rfl, _, _, hb8⟩
                             obtain ⟨W9, hW9⟩ : ∃ W9, w8.alloc (.cells #[.int .i64 yi, .slice ga8 yn gc8, .int .i64 yt] 35) = W9 := ⟨_, rfl⟩
                             have hb9 : Below wr.heap.size wr W9 := by rw [← hW9]; exact hb8.alloc hb8.size _
                             have p9 := (hb9.cell (p := ⟨wo.heap.size, 0, none⟩) (World.block_lt_of_cell? _ _ p0)).trans p0
                             have c91 := (hb9.cell (p := ⟨hg, k * 3 + 1, none⟩) (World.block_lt_of_cell? _ _ c1')).trans c1'
                             have c92 := (hb9.cell (p := ⟨hg, k * 3 + 2, none⟩) (World.block_lt_of_cell? _ _ c2')).trans c2'
                             have H9 := Lib.hid hb9; clear hb8 hb9))
                        go_roundw
                        case rel => exact ⟨k + 1, by omega, by go_num, HK.out.1.trans (H9.out.mono HK.out.1.size)⟩
                        case measure => simp [intOf]; omega
                  · obtain rfl : hn + 1 = k := by omega
                    clear hbk hbt
                    go_wp2
                    go_roundw
                    case rel => exact ⟨i + 1, nw, some mb2, live nw m ++ [(last + 1, x2)], last + 1, _, hn + 1, _, H ++ [(⟨last + 1, ga, gc, vs, tillZ tt nw⟩ : Lv)], by omega, rfl, rfl, rfl, by go_num, hnw2, hnw1, by omega, by omega, by omega, (show hn + 1 = (H ++ [(⟨last + 1, ga, gc, vs, tillZ tt nw⟩ : Lv)]).length by rw [List.length_append, ← L1.out.2.2.2.1]; rfl), HT.out.1.stay HK.out.2, HT.out.2.1.stay HK.out.2, HT.out.2.2⟩
                    case measure => simp [intOf]; omega
            · have hrr : rightB tt nw = false := by simpa using hrr
              have HV := Lib.hid (And.intro hvv hrr)
              clear hvv hrr
              go_wp2_with (go_at_call 8; go_loud (refine (acquire_arg2 _ (idx_ints L1.out.2.2.2.2.1 L1.out.1) HV.out.1 tt nw HV.out.2).mono ?_); rintro e w2 ⟨rfl, hb2⟩; have H2 := Lib.hid hb2; clear hb2)
              rw [← H2.out]
              go_roundw
              case rel => exact ⟨i + 1, nw, ob, m, last, ha, hn, hc, H, by omega, rfl, rfl, rfl, by go_num, hnw2, hnw1, hl0, by omega, by omega, L1.out.2.2.2.1, L1.out.1, L1.out.2.1, L1.out.2.2.1⟩
              case measure => simp [intOf]; omega
          · have hvv : validB vs = false := by simpa using hvv
            have HV := Lib.hid hvv
            clear hvv
            go_wp2_with (go_at_call 8; go_loud (refine (acquire_arg1 _ (idx_ints L1.out.2.2.2.2.1 L1.out.1) HV.out tt nw).mono ?_); rintro e w2 ⟨rfl, hb2⟩; have H2 := Lib.hid hb2; clear hb2)
            rw [← H2.out]
            go_roundw
            case rel => exact ⟨i + 1, nw, ob, m, last, ha, hn, hc, H, by omega, rfl, rfl, rfl, by go_num, hnw2, hnw1, hl0, by omega, by omega, L1.out.2.2.2.1, L1.out.1, L1.out.2.1, L1.out.2.2.1⟩
            case measure => simp [intOf]; omega
        · have t2 : ((vn : Int) != 2) = true := by simp; omega
          go_wp2
          go_roundw
          case rel => exact ⟨i + 1, nw, ob, m, last, ha, hn, hc, H, by omega, rfl, rfl, rfl, by go_num, hnw2, hnw1, hl0, by omega, by omega, L1.out.2.2.2.1, L1.out.1, L1.out.2.1, L1.out.2.2.1⟩
          case measure => simp [intOf]; omega
      · have t1 : (kd == 1) = false := by simp; omega
        have t1' : ¬ kd = 1 := hk1
        by_cases hk4 : kd = 4
        · subst hk4
          go_wp2_with (first
            | (go_at_call 11; go_loud (refine (c_meetB HT.out.1 HT.out.2.2).mono ?_); rintro e wm ⟨ma, mn, mc, ml, rfl, hr7, hle7, hb7⟩; have HM := Lib.hid (And.intro hr7 (And.intro hle7 hb7)); clear hr7 hle7 hb7)
            | (go_at_call 10; go_loud (refine (c_expH L1.out.1 L1.out.2.1 L1.out.2.2.1).mono ?_); rintro e w6 ⟨xa6, xn6, xc6, rfl, h6, hh6, hi6, ht6⟩
               have s6 : w6.cell? ⟨wo.heap.size, 0, none⟩ = some (.int .i64 4) := ht6.cell q0 (fun e => absurd (HN.out.2.1 _ e) (by show ¬ wo.heap.size < wo.heap.size; omega))
               have HT := Lib.hid (And.intro h6 (And.intro hh6 hi6)); have HG := Lib.hid (fun x (hx : x ∈ H) (ht : x.till ≤ nw) => L1.out.2.2.1.gone hx ht); clear h6 hh6 hi6 ht6))
          go_loopw [14, 15, 16] (fun kv _ _ wr => ∃ k : Nat, k ≤ hn ∧ kv = .int .i64 (k : Int) ∧ Below wm.heap.size wm wr) (fun kv _ _ _ => hn - (intOf kv).toNat)
          case atStart => exact ⟨0, by omega, rfl, Below.refl _ _⟩
          case round =>
            obtain ⟨k, hk, rfl, hbk⟩ := hrel
            have hbt : Below w6.heap.size w6 wr := HM.out.2.2.trans (hbk.mono HM.out.2.2.size)
            have p0 := (hbt.cell (p := ⟨wo.heap.size, 0, none⟩) (World.block_lt_of_cell? _ _ s6)).trans s6
            have HK := Lib.hid (And.intro hbk hbt)
            by_cases hlk : k < hn
            · have hkl : k < (H).length := by rw [← L1.out.2.2.2.1]; exact hlk
              obtain ⟨hg, rfl, hgl, c0, c1, c2⟩ := (HT.out.2.1.own.below hbt).get hkl
              obtain ⟨x, hx⟩ : ∃ x, (H)[k] = x := ⟨_, rfl⟩
              have hxm : x ∈ H := by rw [← hx]; exact List.getElem_mem hkl
              rw [hx] at c0 c1 c2
              obtain ⟨xi, xa, xc, xv, xt⟩ := x
              have hx2 : xv.length = 2 := HT.out.2.2.len _ hxm
              have c0' : wr.cell? ⟨hg, k * 3, none⟩ = some (.int .i64 xi) := c0
              have c1' : wr.cell? ⟨hg, k * 3 + 1, none⟩ = some (.slice xa 2 xc) := by rw [← hx2]; exact c1
              have c2' : wr.cell? ⟨hg, k * 3 + 2, none⟩ = some (.int .i64 xt) := c2
              have hrx : RdI wr (.slice xa 2 xc) xv := by rw [← hx2]; exact rdI_own ((HT.out.2.1.own.below hbt).2 _ hxm).1
              have r2 : (k : Int) < ((hn : Nat) : Int) := by omega
              have r3 : (k : Int) < ((hn : Int) : Int) := by omega
              have HX := Lib.hid (And.intro hxm (And.intro hx2 hrx))
              clear hbk hbt hkl hx hxm hx2 c0 c1 c2 hrx
              by_cases ht : nw < xt
              · obtain ⟨y, hy, hyc⟩ := HT.out.2.2.got HT.out.1.a.nodup HX.out.1 ht
                have hyc' : core y = (xi, xv, xt) := hyc
                have HY := Lib.hid (And.intro hy (And.intro hyc' ht))
                clear hy hyc hyc'
                go_wp2_with (first
                  | (go_at_call 12; go_loud (with_reducible refine (leq_any (RdI.below HM.out.1 (HK.out.1.trans (H9.out.mono HK.out.1.size))) (RdI.below HX.out.2.2 H9.out) (HM.out.2.1 _ HX.out.1 HY.out.2.2) (by rw [leqV_len (HM.out.2.1 _ HX.out.1 HY.out.2.2)]; show xv.length ≤ _; rw [HX.out.2.1]; omega)).mono ?_); rintro e w10 ⟨rfl, k9, hk9⟩; have hb10 : Below W9.heap.size W9 w10 := (by rw [hk9]; exact drewN_below _ _); have e0 := (hb10.cell (p := ⟨wo.heap.size, 0, none⟩) (World.block_lt_of_cell? _ _ p9)).trans p9; have e2 := (hb10.cell (p := ⟨hg, k * 3 + 2, none⟩) (World.block_lt_of_cell? _ _ c92)).trans c92; have H10 := Lib.hid (H9.out.trans (hb10.mono H9.out.size)); clear hk9 hb10)
                  | (go_at_call 9; go_loud (refine (c_get (HT.out.1.stay HK.out.2) xi HY.out.1 HY.out.2.1 HX.out.2.1).mono ?_); rintro e w8 ⟨ga8, gc8, rfl, _, _, hb8⟩
                     obtain ⟨W9, hW9⟩ : ∃ W9, w8.alloc (.cells #[.int .i64 xi, .slice ga8 2 gc8, .int .i64 xt] 35) = W9 := ⟨_, rfl⟩
                     have hb9 : Below wr.heap.size wr W9 := by rw [← hW9]; exact hb8.alloc hb8.size _
                     have p9 := (hb9.cell (p := ⟨wo.heap.size, 0, none⟩) (World.block_lt_of_cell? _ _ p0)).trans p0
                     have c91 := (hb9.cell (p := ⟨hg, k * 3 + 1, none⟩) (World.block_lt_of_cell? _ _ c1')).trans c1'
                     have c92 := (hb9.cell (p := ⟨hg, k * 3 + 2, none⟩) (World.block_lt_of_cell? _ _ c2')).trans c2'
                     have H9 := Lib.hid hb9; clear hb8 hb9))
                go_roundw
                case rel => exact ⟨k + 1, by omega, by go_num, HK.out.1.trans (H10.out.mono HK.out.1.size)⟩
                case measure => simp [intOf]; omega
              · cases hgy : getL (live nw m) xi with
                | none =>
                  have HY := Lib.hid hgy
                  clear hgy
                  go_wp2_with (first
                    | (go_at_call 9; go_loud (refine (c_get_none (HT.out.1.stay HK.out.2) xi HY.out).mono ?_); rintro e w8 ⟨rfl, _, hb8⟩
                       have hb9 : ∀ o, Below wr.heap.size wr (w8.alloc o) := fun o => hb8.alloc hb8.size o
                       have p9 : ∀ o, (w8.alloc o).cell? ⟨wo.heap.size, 0, none⟩ = _ := fun o => ((hb9 o).cell (p := ⟨wo.heap.size, 0, none⟩) (World.block_lt_of_cell? _ _ p0)).trans p0
                       have c91 : ∀ o, (w8.alloc o).cell? ⟨hg, k * 3 + 1, none⟩ = _ := fun o => ((hb9 o).cell (p := ⟨hg, k * 3 + 1, none⟩) (World.block_lt_of_cell? _ _ c1')).trans c1'
                       have c92 : ∀ o, (w8.alloc o).cell? ⟨hg, k * 3 + 2, none⟩ = _ := fun o => ((hb9 o).cell (p := ⟨hg, k * 3 + 2, none⟩) (World.block_lt_of_cell? _ _ c2')).trans c2'
                       have H9 := Lib.hid hb9; clear hb8 hb9))
                  go_roundw
                  case rel => exact ⟨k + 1, by omega, by go_num, HK.out.1.trans ((H9.out _).mono HK.out.1.size)⟩
                  case measure => simp [intOf]; omega
                | some y =>
                  have h9 := HG.out _ HX.out.1 (show xt ≤ nw by omega)
                  have h9 : getL (live nw m) xi = none := h9
                  rw [hgy] at h9
                  cases h9
            · obtain rfl : hn = k := by omega
              clear hbk hbt
              go_wp2
              go_roundw
              case rel => exact ⟨i + 1, nw, ob, live nw m, last, _, hn, _, H, by omega, rfl, rfl, rfl, by go_num, hnw2, hnw1, by omega, by omega, by omega, L1.out.2.2.2.1, HT.out.1.stay HK.out.2, HT.out.2.1.stay HK.out.2, HT.out.2.2⟩
              case measure => simp [intOf]; omega
        · have t4 : (kd == 4) = false := by simp; omega
          have HT := Lib.hid (And.intro L1.out.1 (And.intro L1.out.2.1 L1.out.2.2.1))
          have s6 := q0
          go_wp2_with (go_at_call 11; go_loud (refine (c_meetB HT.out.1 HT.out.2.2).mono ?_); rintro e wm ⟨ma, mn, mc, ml, rfl, hr7, hle7, hb7⟩; have HM := Lib.hid (And.intro hr7 (And.intro hle7 hb7)); clear hr7 hle7 hb7)
          go_loopw [14, 15, 16] (fun kv _ _ wr => ∃ k : Nat, k ≤ hn ∧ kv = .int .i64 (k : Int) ∧ Below wm.heap.size wm wr) (fun kv _ _ _ => hn - (intOf kv).toNat)
          case atStart => exact ⟨0, by omega, rfl, Below.refl _ _⟩
          case round =>
            obtain ⟨k, hk, rfl, hbk⟩ := hrel
            have hbt : Below W1.heap.size W1 wr := HM.out.2.2.trans (hbk.mono HM.out.2.2.size)
            have p0 := (hbt.cell (p := ⟨wo.heap.size, 0, none⟩) (World.block_lt_of_cell? _ _ s6)).trans s6
            have HK := Lib.hid (And.intro hbk hbt)
            by_cases hlk : k < hn
            · have hkl : k < (H).length := by rw [← L1.out.2.2.2.1]; exact hlk
              obtain ⟨hg, rfl, hgl, c0, c1, c2⟩ := (HT.out.2.1.own.below hbt).get hkl
              obtain ⟨x, hx⟩ : ∃ x, (H)[k] = x := ⟨_, rfl⟩
              have hxm : x ∈ H := by rw [← hx]; exact List.getElem_mem hkl
              rw [hx] at c0 c1 c2
              obtain ⟨xi, xa, xc, xv, xt⟩ := x
              have hx2 : xv.length = 2 := HT.out.2.2.len _ hxm
              have c0' : wr.cell? ⟨hg, k * 3, none⟩ = some (.int .i64 xi) := c0
              have c1' : wr.cell? ⟨hg, k * 3 + 1, none⟩ = some (.slice xa 2 xc) := by rw [← hx2]; exact c1
              have c2' : wr.cell? ⟨hg, k * 3 + 2, none⟩ = some (.int .i64 xt) := c2
              have hrx : RdI wr (.slice xa 2 xc) xv := by rw [← hx2]; exact rdI_own ((HT.out.2.1.own.below hbt).2 _ hxm).1
              have r2 : (k : Int) < ((hn : Nat) : Int) := by omega
              have r3 : (k : Int) < ((hn : Int) : Int) := by omega
              have HX := Lib.hid (And.intro hxm (And.intro hx2 hrx))
              clear hbk hbt hkl hx hxm hx2 c0 c1 c2 hrx
              by_cases ht : nw < xt
              · obtain ⟨y, hy, hyc⟩ := HT.out.2.2.got HT.out.1.a.nodup HX.out.1 ht
                have hyc' : core y = (xi, xv, xt) := hyc
                have HY := Lib.hid (And.intro hy (And.intro hyc' ht))
                clear hy hyc hyc'
                go_wp2_with (first
                  | (go_at_call 12; go_loud (with_reducible refine (leq_any (RdI.below HM.out.1 (HK.out.1.trans (H9.out.mono HK.out.1.size))) (RdI.below HX.out.2.2 H9.out) (HM.out.2.1 _ HX.out.1 HY.out.2.2) (by rw [leqV_len (HM.out.2.1 _ HX.out.1 HY.out.2.2)]; show xv.length ≤ _; rw [HX.out.2.1]; omega)).mono ?_); rintro e w10 ⟨rfl, k9, hk9⟩; have hb10 : Below W9.heap.size W9 w10 := (by rw [hk9]; exact drewN_below _ _); have e0 := (hb10.cell (p := ⟨wo.heap.size, 0, none⟩) (World.block_lt_of_cell? _ _ p9)).trans p9; have e2 := (hb10.cell (p := ⟨hg, k * 3 + 2, none⟩) (World.block_lt_of_cell? _ _ c92)).trans c92; have H10 := Lib.hid (H9.out.trans (hb10.mono H9.out.size)); clear hk9 hb10)
                  | (go_at_call 9; go_loud (refine (c_get (HT.out.1.stay HK.out.2) xi HY.out.1 HY.out.2.1 HX.out.2.1).mono ?_); rintro e w8 ⟨ga8, gc8, rfl, _, _, hb8⟩
                     obtain ⟨W9, hW9⟩ : ∃ W9, w8.alloc (.cells #[.int .i64 xi, .slice ga8 2 gc8, .int .i64 xt] 35) = W9 := ⟨_, rfl⟩
                     have hb9 : Below wr.heap.size wr W9 := by rw [← hW9]; exact hb8.alloc hb8.size _
                     have p9 := (hb9.cell (p := ⟨wo.heap.size, 0, none⟩) (World.block_lt_of_cell? _ _ p0)).trans p0
                     have c91 := (hb9.cell (p := ⟨hg, k * 3 + 1, none⟩) (World.block_lt_of_cell? _ _ c1')).trans c1'
                     have c92 := (hb9.cell (p := ⟨hg, k * 3 + 2, none⟩) (World.block_lt_of_cell? _ _ c2')).trans c2'
                     have H9 := Lib.hid hb9; clear hb8 hb9))
                go_roundw
                case rel => exact ⟨k + 1, by omega, by go_num, HK.out.1.trans (H10.out.mono HK.out.1.size)⟩
                case measure => simp [intOf]; omega
              · cases hgy : getL (m) xi with
                | none =>
                  have HY := Lib.hid hgy
                  clear hgy
                  go_wp2_with (first
                    | (go_at_call 9; go_loud (refine (c_get_none (HT.out.1.stay HK.out.2) xi HY.out).mono ?_); rintro e w8 ⟨rfl, _, hb8⟩
                       have hb9 : ∀ o, Below wr.heap.size wr (w8.alloc o) := fun o => hb8.alloc hb8.size o
                       have p9 : ∀ o, (w8.alloc o).cell? ⟨wo.heap.size, 0, none⟩ = _ := fun o => ((hb9 o).cell (p := ⟨wo.heap.size, 0, none⟩) (World.block_lt_of_cell? _ _ p0)).trans p0
                       have c91 : ∀ o, (w8.alloc o).cell? ⟨hg, k * 3 + 1, none⟩ = _ := fun o => ((hb9 o).cell (p := ⟨hg, k * 3 + 1, none⟩) (World.block_lt_of_cell? _ _ c1')).trans c1'
                       have c92 : ∀ o, (w8.alloc o).cell? ⟨hg, k * 3 + 2, none⟩ = _ := fun o => ((hb9 o).cell (p := ⟨hg, k * 3 + 2, none⟩) (World.block_lt_of_cell? _ _ c2')).trans c2'
                       have H9 := Lib.hid hb9; clear hb8 hb9))
                  go_roundw
                  case rel => exact ⟨k + 1, by omega, by go_num, HK.out.1.trans ((H9.out _).mono HK.out.1.size)⟩
                  case measure => simp [intOf]; omega
                | some y =>
                  obtain ⟨yi, ya, yc, yv, yt⟩ := y
                  obtain ⟨yn, hyn⟩ : ∃ yn, yv.length = yn := ⟨_, rfl⟩
                  have HY := Lib.hid (And.intro hgy hyn)
                  clear hgy hyn
                  go_wp2_with (first
                    | (go_at_call 9; go_loud (refine (c_get (HT.out.1.stay HK.out.2) xi HY.out.1 (i := yi) (vs := yv) (t := yt) rfl HY.out.2).mono ?_); rintro e w8 ⟨ga8, gc8, rfl, _, _, hb8⟩
                       obtain ⟨W9, hW9⟩ : ∃ W9, w8.alloc (.cells #[.int .i64 yi, .slice ga8 yn gc8, .int .i64 yt] 35) = W9 := ⟨_, rfl⟩
                       have hb9 : Below wr.heap.size wr W9 := by rw [← hW9]; exact hb8.alloc hb8.size _
                       have p9 := (hb9.cell (p := ⟨wo.heap.size, 0, none⟩) (World.block_lt_of_cell? _ _ p0)).trans p0
                       have c91 := (hb9.cell (p := ⟨hg, k * 3 + 1, none⟩) (World.block_lt_of_cell? _ _ c1')).trans c1'
                       have c92 := (hb9.cell (p := ⟨hg, k * 3 + 2, none⟩) (World.block_lt_of_cell? _ _ c2')).trans c2'
                       have H9 := Lib.hid hb9; clear hb8 hb9))
                  go_roundw
                  case rel => exact ⟨k + 1, by omega, by go_num, HK.out.1.trans (H9.out.mono HK.out.1.size)⟩
                  case measure => simp [intOf]; omega
            · obtain rfl : hn = k := by omega
              clear hbk hbt
              go_wp2
              go_roundw
              case rel => exact ⟨i + 1, nw, ob, m, last, _, hn, _, H, by omega, rfl, rfl, rfl, by go_num, hnw2, hnw1, by omega, by omega, by omega, L1.out.2.2.2.1, HT.out.1.stay HK.out.2, HT.out.2.1.stay HK.out.2, HT.out.2.2⟩
              case measure => simp [intOf]; omega
    · obtain rfl : i = len := by omega
      clear hbW
      go_wp2_with (go_at_call 6; refine (alive_any _).mono ?_; rintro e y1 ⟨rfl, b2⟩; have J1 := Lib.hid (HS.out.1.stay b2); clear b2)
      go_ret
      exact ⟨rfl, J1.out.b⟩
end Go.Proofs.Ytmdhegmnfcodbaa
