/-
  LeaseRenews: its walk.
-/
import Derived.Test.YtmdhegmnfcodbaaOpenInts
namespace Go.Proofs.Ytmdhegmnfcodbaa
open Go.RowKit
variable {w w' w0 w1 w2 w3 w4 : World} {mb lb B : Nat} {ob : Option Nat} {m : Lm} {last : Int}

theorem getL_one (x : Lv) : getL [((1 : Int), x)] 1 = some x := rfl
set_option maxRecDepth 100000 in
set_option maxHeartbeats 4000000 in
theorem renews_walk (ttl now : Int) (sa : Option Addr) (len cap : Nat) (l : List Int) (_ : (Lit.int IntKind.i64 ttl).wf = true) (_ : (Lit.int IntKind.i64 now).wf = true) {W : World} (hcu : IntsAt W sa len l) (hlen : len ≤ maxLen) (w : World) (hW : W = w) :
    Calls Try.prog 4 #[.int .i64 ttl, .int .i64 now, .slice sa len cap] w fun e w' => e = .returned (.bool true) ∧ Below w.heap.size w w' := by
  subst hW
  have hlen' : len ≤ 9223372036854775807 := hlen
  have HI := Lib.hid hcu
  clear hcu hlen
  by_cases h1 : ttl < 1
  · clear HI
    go_enter Try.func4, Try.ntmps4
    go_wp2_with (go_at_call 6; refine (alive_any _).mono ?_; rintro e v1 ⟨rfl, b2⟩)
    go_ret
    exact ⟨rfl, b2⟩
  by_cases h2 : 1000 < ttl
  · clear HI
    go_enter Try.func4, Try.ntmps4
    go_wp2_with (go_at_call 6; refine (alive_any _).mono ?_; rintro e v1 ⟨rfl, b2⟩)
    go_ret
    exact ⟨rfl, b2⟩
  by_cases h3 : now < 0
  · clear HI
    go_enter Try.func4, Try.ntmps4
    go_wp2_with (go_at_call 6; refine (alive_any _).mono ?_; rintro e v1 ⟨rfl, b2⟩)
    go_ret
    exact ⟨rfl, b2⟩
  by_cases h4 : 1000 < now
  · clear HI
    go_enter Try.func4, Try.ntmps4
    go_wp2_with (go_at_call 6; refine (alive_any _).mono ?_; rintro e v1 ⟨rfl, b2⟩)
    go_ret
    exact ⟨rfl, b2⟩
  by_cases h5 : (60 : Int) < (len : Int)
  · clear HI
    go_enter Try.func4, Try.ntmps4
    go_wp2_with (go_at_call 6; refine (alive_any _).mono ?_; rintro e v1 ⟨rfl, b2⟩)
    go_ret
    exact ⟨rfl, b2⟩
  have hr : rightB ttl now = true := by simp [rightB]; omega
  have ht : tillZ ttl now = now + ttl := by unfold tillZ; omega
  have HR := Lib.hid (And.intro hr ht)
  clear hr ht
  go_enter Try.func4, Try.ntmps4
  go_wp2_with (first
    | (go_at_call 8
       have hw := H1.out.stay ((Below.refl _ _).alloc (Nat.le_refl _) (.cells #[.int .i64 1, .int .i64 2] 3))
       refine (c_acq hw (by omega) (vs := [1, 2]) rfl (rdX_new H1.out.a rfl) (by decide) ttl now HR.out.1 HR.out.2 (i := 1) (by decide) (m' := []) rfl (by simp)).mono ?_; rintro e v2 ⟨rfl, mb2, x1, h2, h2c⟩; have H2 := Lib.hid (And.intro h2 (And.intro h2c trivial)); clear h2 h2c hw)
    | (go_at_call 7; refine (c_new (w0 := W) (Below.refl _ _) (Nat.le_refl _)).mono ?_; rintro e v1 ⟨rfl, h1⟩; have H1 := Lib.hid h1; clear h1))
  go_loopw [1, 10, 11, 12, 13, 14] (fun nowv untilv iv _ _ _ wr => ∃ (i : Nat) (now' until' : Int) (mb : Nat) (x : Lv), i ≤ len ∧ iv = .int .i64 (i : Int) ∧ nowv = .int .i64 now' ∧ untilv = .int .i64 until' ∧ 0 ≤ now' ∧ now' ≤ 1000 + 15 * (i : Int) ∧ now' < until' ∧ until' ≤ 3000 + 15 * (i : Int) ∧ LsW W.heap.size W wr W.heap.size (some mb) [(1, x)] 1 ∧ core x = (1, [1, 2], until')) (fun _ _ iv _ _ _ _ => len - (intOf iv).toNat)
  case atStart => exact ⟨0, now, now + ttl, mb2, x1, by omega, rfl, rfl, by go_num, by omega, by omega, by omega, by omega, H2.out.1, H2.out.2.1⟩
  case round =>
    obtain ⟨i, nw, un, mb, x, hi, rfl, rfl, rfl, hn0, hn1, hnu, hu1, hls, hcx⟩ := hrel
    have HS := Lib.hid (And.intro hls hcx)
    have hbW := hls.b
    clear hls hcx
    by_cases hlt : i < len
    · obtain ⟨u, hu0⟩ : ∃ u, l[i]'(by have := HI.out.1; omega) = u := ⟨_, rfl⟩
      obtain ⟨b, off, rfl, hbl, dW⟩ : ∃ b off, sa = some ⟨b, off, none⟩ ∧ b < W.heap.size ∧ W.cell? ⟨b, off + i, none⟩ = some (.int .i64 u) := by
        rcases HI.out.2.1 with h0 | ⟨b, off, hb, hbl, hc⟩
        · omega
        · exact ⟨b, off, hb, hbl, by rw [← hu0]; exact hc i (by have := HI.out.1; omega)⟩
      have d1 := (hbW.cell (p := ⟨b, off + i, none⟩) hbl).trans dW
      have DW := Lib.hid (And.intro hbl dW)
      clear hbl dW
      have hr0 := and_in u 15 (by omega)
      obtain ⟨r, hrr⟩ : ∃ r, bits .and .i64 u 15 = r := ⟨_, rfl⟩
      have hr1 : 0 ≤ r := by rw [← hrr]; exact hr0.1
      have hr2 : r ≤ 15 := by rw [← hrr]; exact hr0.2
      have hs0 := and_in (u / 16) 63 (by omega)
      obtain ⟨s, hss⟩ : ∃ s, bits .and .i64 (u / 16) 63 = s := ⟨_, rfl⟩
      have hs1 : 0 ≤ s := by rw [← hss]; exact hs0.1
      have hs2 : s ≤ 63 := by rw [← hss]; exact hs0.2
      have r1 : (i : Int) < (len : Int) := by omega
      have hra : rightB (1 + s) (nw + r) = true := by simp [rightB]; omega
      have hrb : rightB 5 (nw + r) = true := by simp [rightB]; omega
      have hxt : x.till = un := congrArg (fun c => c.2.2) HS.out.2
      have HQ := Lib.hid (And.intro hra (And.intro hrb hxt))
      clear hu0 hbW hr0 hs0 hra hrb hxt
      by_cases hov : un ≤ nw + r
      · go_wp2_with (first
          | (go_at_call 11; go_loud (refine (c_meet J5.out (k := 1) (by omega) (by omega) (fun p hp => (by cases hp)) (l := []) (by rw [sortM_rise (m := []) (by simp)]; rfl) (n := 0) rfl).mono ?_); rintro e y6 ⟨ma, mc, rfl, _, h6⟩; have J6 := Lib.hid h6; clear h6)
          | (go_at_call 13; refine (c_renew_no J4.out 1 5 (nw + r) HQ.out.2.1 (k := 22) (.inl ⟨rfl, rfl⟩)).mono ?_; rintro e y5 ⟨rfl, h5⟩; have J5 := Lib.hid h5; clear h5)
          | (go_at_call 10
             have hss3 : sortM [((1 : Int), x)] = [x] := sortM_rise (m := [((1 : Int), x)]) (by simp)
             refine (c_exp J3.out (nw + r) (l := [1]) (n := 1) (by rw [hss3]; show expI _ [core x] = _; rw [HS.out.2]; simp [expI, hov]) rfl (m' := []) (by show List.filter _ _ = _; simp [HQ.out.2.2]; omega)).mono ?_; rintro e y4 ⟨ea, ec, rfl, _, h4⟩; have J4 := Lib.hid h4; clear h4 hss3)
          | (go_at_call 14; refine (c_release_no J2.out 1 (nw + r) (k := 51) (.inr ⟨x, rfl, by rw [HQ.out.2.2]; exact hov, rfl⟩)).mono ?_; rintro e y3 ⟨rfl, h3⟩; have J3 := Lib.hid h3; clear h3)
          | (go_at_call 6; refine (alive_any _).mono ?_; rintro e y2 ⟨rfl, b2⟩; have J2 := Lib.hid (J1.out.stay b2); clear b2)
          | (go_at_call 13; refine (c_renew_no HS.out.1 1 (1 + s) (nw + r) HQ.out.1 (k := 51) (.inr ⟨x, rfl, by rw [HQ.out.2.2]; exact hov, rfl⟩)).mono ?_; rintro e y1 ⟨rfl, h1⟩; have J1 := Lib.hid h1; clear h1))
        go_ret
        exact ⟨rfl, J6.out.b⟩
      · go_wp2_with (first
          | (go_at_call 15
             have hb4 : Below V3.heap.size V3 (V3.alloc (.cells #[.int .i64 1, .int .i64 2] 3)) := (Below.refl _ _).alloc (Nat.le_refl _) _
             refine (same_any (RdI.below J3.out.2.1 hb4) (rdI_new (vs := [1, 2]) rfl) (by simp)).mono ?_; rintro e y4 ⟨rfl, b4⟩; have J4 := Lib.hid ((J3.out.1.stay hb4).stay b4); clear b4 hb4)
          | (go_at_call 9; refine (c_get J1.out.1 1 (getL_one _) J1.out.2 (n := 2) rfl).mono ?_; rintro e y2 ⟨ga, gc, rfl, ho2, h2, _⟩
             obtain ⟨V3, hV3⟩ : ∃ V3, y2.alloc (.cells #[.int .i64 1, .slice ga 2 gc, .int .i64 (max un (nw + r + 1 + s))] 35) = V3 := ⟨_, rfl⟩
             have q1 : V3.cell? ⟨y2.heap.size, 1, none⟩ = some (.slice ga 2 gc) := by rw [← hV3]; simp [go_sem]
             have q2 : V3.cell? ⟨y2.heap.size, 2, none⟩ = some (.int .i64 (max un (nw + r + 1 + s))) := by rw [← hV3]; simp [go_sem]
             have hb3 : Below y2.heap.size y2 V3 := by rw [← hV3]; exact (Below.refl _ _).alloc (Nat.le_refl _) _
             have J3 := Lib.hid (And.intro (h2.stay hb3) (And.intro (RdI.below (rdI_own ho2) hb3) trivial)); clear h2 ho2 hb3)
          | (go_at_call 13; refine (c_renew HS.out.1 1 (1 + s) (nw + r) HQ.out.1 (getL_one x) (by rw [HQ.out.2.2]; omega) (t := max un (nw + r + 1 + s)) (by rw [HQ.out.2.2]; unfold tillZ; omega) (m' := [(1, { x with till := max un (nw + r + 1 + s) })]) rfl).mono ?_; rintro e y1 ⟨rfl, h1⟩
             have hc1 : core { x with till := max un (nw + r + 1 + s) } = (1, [1, 2], max un (nw + r + 1 + s)) := by
               have e1 : x.id = 1 := congrArg (fun c => c.1) HS.out.2
               have e2 : x.vs = [1, 2] := congrArg (fun c => c.2.1) HS.out.2
               show (x.id, x.vs, _) = _
               rw [e1, e2]
             have d2 := (h1.b.cell (p := ⟨b, off + i, none⟩) DW.out.1).trans DW.out.2
             have J1 := Lib.hid (And.intro h1 hc1); clear h1 hc1))
        go_roundw
        case rel => exact ⟨i + 1, nw + r, max un (nw + r + 1 + s), mb, _, by omega, by go_num, rfl, rfl, by omega, by omega, by omega, by omega, J4.out, J1.out.2⟩
        case measure => simp [intOf]; omega
    · obtain rfl : i = len := by omega
      have hxt : x.till = un := congrArg (fun c => c.2.2) HS.out.2
      have HQ := Lib.hid hxt
      clear hxt hbW
      go_wp2_with (first
        | (go_at_call 14; refine (c_release_no J2.out 1 nw (k := 22) (.inl ⟨rfl, rfl⟩)).mono ?_; rintro e y3 ⟨rfl, h3⟩; have J3 := Lib.hid h3; clear h3)
        | (go_at_call 14; refine (c_release J1.out 1 nw (getL_one x) (by rw [HQ.out]; omega) (m' := []) rfl).mono ?_; rintro e y2 ⟨rfl, h2⟩; have J2 := Lib.hid h2; clear h2)
        | (go_at_call 6; refine (alive_any _).mono ?_; rintro e y1 ⟨rfl, b2⟩; have J1 := Lib.hid (HS.out.1.stay b2); clear b2))
      go_ret
      exact ⟨rfl, J3.out.b⟩
end Go.Proofs.Ytmdhegmnfcodbaa
