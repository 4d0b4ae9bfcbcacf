/-
  DiskTorn: its walk.
-/
import Derived.Test.YtjhajlfkiafhgaaDoorLKept
import Derived.Test.YtjhajlfkiafhgaaDoorOpenInts
namespace Go.Proofs.YtjhajlfkiafhgaaDoor
open Go.RowKit
variable {F G : Nat → Prop} {w w' : World} {db mb : Nat} {D D' : Dk}

theorem rdC_old {v : Value} {cuts : List Int} (hr : RdC (fun _ => False) w v cuts) (hb : Below w.heap.size w w') (hF : ∀ q, F q → w.heap.size ≤ q) : RdC F w' v cuts := by
  obtain ⟨a, c, hx, h⟩ := hr
  refine ⟨a, c, hx, h.imp id ?_⟩
  rintro ⟨b, off, ha, _, hlt, hc⟩
  exact ⟨b, off, ha, fun hf => by have := hF b hf; omega, Nat.lt_of_lt_of_le hlt hb.size, fun i hi => (hb.cell (p := ⟨b, off + i, none⟩) hlt).trans (hc i hi)⟩
theorem rdC_ints {a : Option Addr} {len cap : Nat} {zs : List Int} (h : IntsAt w a len zs) : RdC (fun _ => False) w (.slice a len cap) zs := by
  obtain ⟨hl, h, _⟩ := h
  refine ⟨a, cap, by rw [hl], ?_⟩
  rcases h with h | ⟨b, off, ha, hlt, hc⟩
  · exact .inl (List.eq_nil_of_length_eq_zero (by omega))
  · exact .inr ⟨b, off, ha, fun e => e, hlt, hc⟩
/-- What the disk is when i files were laid. -/
def dT (a : ByteArray) : Nat → Dk
  | 0 => dkL [] (-1) 0
  | 1 => dkL [(nF, ⟨a, a.size⟩)] (-1) 3
  | _ => dkL [(nF, ⟨a, a.size⟩), (nG, ⟨a, a.size⟩)] (-1) 6

set_option maxRecDepth 100000 in
set_option maxHeartbeats 4000000 in
theorem torn_walk (a b c : ByteArray) (sa : Option Addr) (len cap : Nat) (cuts : List Int) (flip : Int) (ya : a.size ≤ 140737488351232) (yb : b.size ≤ 140737488351232) (yc : c.size ≤ 140737488351232) {W : World} (hcu : IntsAt W sa len cuts) (hlen : len ≤ maxLen) (_ : (Lit.int IntKind.i64 flip).wf = true) (w : World) (hW : W = w) :
    Calls Tryd.prog 5 #[.string a, .string b, .string c, .slice sa len cap, .int .i64 flip] w fun e w' => e = .returned (.bool true) ∧ Below w.heap.size w w' := by
  subst hW
  have hlen' : len ≤ 9223372036854775807 := hlen
  have hlc : cuts.length = len := hcu.1
  have hr0 : RdC (fun _ => False) W (.slice sa len cap) cuts := rdC_ints hcu
  clear hcu hlen
  by_cases hl : 9000 < a.size + b.size + c.size
  · have hl1 : (9000 : Int) < (a.size : Int) + (b.size : Int) + (c.size : Int) := by omega
    clear hl hr0
    go_enter Tryd.func5, Tryd.ntmps5
    go_wp2_with (go_at_call 10; refine (alive_any _).mono ?_; rintro e v1 ⟨rfl, b2⟩)
    go_ret
    exact ⟨rfl, b2⟩
  by_cases hcl : 20 < len
  · have hl1 : ¬ (9000 : Int) < (a.size : Int) + (b.size : Int) + (c.size : Int) := by omega
    have hcl1 : (20 : Int) < (len : Int) := by omega
    clear hl hcl hr0
    go_enter Tryd.func5, Tryd.ntmps5
    go_wp2_with (go_at_call 10; refine (alive_any _).mono ?_; rintro e v1 ⟨rfl, b2⟩)
    go_ret
    exact ⟨rfl, b2⟩
  have hl0 : ¬ (9000 : Int) < (a.size : Int) + (b.size : Int) + (c.size : Int) := by omega
  have hcl0 : ¬ (20 : Int) < (len : Int) := by omega
  have hl1 : ByteArray.empty.size + a.size ≤ 1048576 := by show 0 + a.size ≤ _; omega
  have hl2 : a.size + b.size ≤ 1048576 := by omega
  have hl3 : a.size + c.size ≤ 1048576 := by omega
  have hab : a.size + b.size ≤ 9000 := by omega
  have hac : a.size + c.size ≤ 9000 := by omega
  have hc20 : cuts.length ≤ 20 := by omega
  have HL := Lib.hid (And.intro hr0 (And.intro hc20 (And.intro hab hac)))
  have hp0 : setL [(nF, (⟨ByteArray.empty, 0⟩ : Fl))] nF ⟨ByteArray.empty ++ a, 0⟩ = [(nF, ⟨a, 0⟩)] := by rw [set_one, ByteArray.empty_append]
  have hp1 : setL [(nF, (⟨a, a.size⟩ : Fl)), (nG, ⟨ByteArray.empty, 0⟩)] nG ⟨ByteArray.empty ++ a, 0⟩ = [(nF, ⟨a, a.size⟩), (nG, ⟨a, 0⟩)] := by rw [ByteArray.empty_append]; rfl
  clear hl hcl hr0 hlc hc20 hab hac
  go_enter Tryd.func5, Tryd.ntmps5
  go_wp2_with (go_at_call 11; refine (c_new (w0 := W) (Below.refl _ _)).mono ?_; rintro e v1 ⟨rfl, h1⟩; have H1 := Lib.hid h1; clear h1)
  obtain ⟨v2, hv2⟩ : ∃ v2, v1.alloc (.cells #[.string nF, .string nG] 9) = v2 := ⟨_, rfl⟩
  have h2 : DkB (two (W.heap.size + 1) W.heap.size) W.heap.size W v2 (W.heap.size + 1) W.heap.size (dkL [] (-1) 0) := by rw [← hv2]; exact H1.out.stay ((Below.refl _ _).alloc (Nat.le_refl _) _)
  have k0 : v2.cell? ⟨v1.heap.size, 0, none⟩ = some (.string nF) := by rw [← hv2]; simp [go_sem]
  have k1 : v2.cell? ⟨v1.heap.size, 1, none⟩ = some (.string nG) := by rw [← hv2]; simp [go_sem]
  have hn2 : ¬ two (W.heap.size + 1) W.heap.size v1.heap.size := fun hq => by
    have e1 := H1.out.d.ltd
    have e2 := H1.out.d.m.lt
    rcases hq with e | e <;> omega
  try rw [hv2]
  clear hv2
  have H2 := Lib.hid (And.intro h2 (And.intro hn2 (And.intro k0 k1)))
  clear h2 hn2 k0 k1
  go_loopw [13, 36] (fun _ x wr => ∃ i : Nat, i ≤ 2 ∧ x = .int .i64 (i : Int) ∧ DkB (two (W.heap.size + 1) W.heap.size) W.heap.size W wr (W.heap.size + 1) W.heap.size (dT a i) ∧ Tn (two (W.heap.size + 1) W.heap.size) v2 wr) (fun _ x _ => 2 - (intOf x).toNat)
  case atStart => exact ⟨0, by omega, rfl, H2.out.1, Tn.refl _ _⟩
  case round =>
    obtain ⟨i, hi, rfl, hd, ht⟩ := hrel
    have k0 := ht.cell H2.out.2.2.1 H2.out.2.1
    have k1 := ht.cell H2.out.2.2.2 H2.out.2.1
    have H3 := Lib.hid (And.intro hd ht)
    clear hd ht
    rcases (by omega : i = 0 ∨ i = 1 ∨ i = 2) with rfl | rfl | rfl
    · go_wp2_with (first
        | (go_at_call 20; refine (c_sync H5.out.1.d (s := nF) rfl (by decide) rfl (m' := [(nF, ⟨a, a.size⟩)]) rfl).mono ?_; rintro e v6 ⟨rfl, h2, t2⟩; have H6 := Lib.hid (And.intro (H5.out.1.go h2 t2) (H5.out.2.trans t2)); clear h2 t2)
        | (go_at_call 14; refine (c_append H4.out.1.d (s := nF) (data := a) rfl (by decide) ya rfl hl1 (.inl (by decide)) hp0).mono ?_; rintro e v5 ⟨rfl, h2, t2⟩; have H5 := Lib.hid (And.intro (H4.out.1.go h2 t2) (H4.out.2.trans t2)); clear h2 t2)
        | (go_at_call 12; refine (c_create H3.out.1.d (s := nF) rfl (by decide) (by simp only [List.length_cons, List.length_nil]; omega) rfl (m' := [(nF, (⟨ByteArray.empty, 0⟩ : Fl))]) rfl).mono ?_; rintro e v4 ⟨rfl, h2, t2⟩; have H4 := Lib.hid (And.intro (H3.out.1.go h2 t2) (H3.out.2.trans t2)); clear h2 t2))
      go_roundw
      case rel => exact ⟨1, by omega, by go_num, H6.out.1, H6.out.2⟩
      case measure => simp [intOf]
    · go_wp2_with (first
        | (go_at_call 20; refine (c_sync H5.out.1.d (s := nG) rfl (by decide) rfl (m' := [(nF, ⟨a, a.size⟩), (nG, ⟨a, a.size⟩)]) rfl).mono ?_; rintro e v6 ⟨rfl, h2, t2⟩; have H6 := Lib.hid (And.intro (H5.out.1.go h2 t2) (H5.out.2.trans t2)); clear h2 t2)
        | (go_at_call 14; refine (c_append H4.out.1.d (s := nG) (data := a) rfl (by decide) ya rfl hl1 (.inl (by decide)) hp1).mono ?_; rintro e v5 ⟨rfl, h2, t2⟩; have H5 := Lib.hid (And.intro (H4.out.1.go h2 t2) (H4.out.2.trans t2)); clear h2 t2)
        | (go_at_call 12; refine (c_create H3.out.1.d (s := nG) rfl (by decide) (by simp only [List.length_cons, List.length_nil]; omega) rfl (m' := [(nF, (⟨a, a.size⟩ : Fl)), (nG, ⟨ByteArray.empty, 0⟩)]) rfl).mono ?_; rintro e v4 ⟨rfl, h2, t2⟩; have H4 := Lib.hid (And.intro (H3.out.1.go h2 t2) (H3.out.2.trans t2)); clear h2 t2))
      go_roundw
      case rel => exact ⟨2, by omega, by go_num, H6.out.1, H6.out.2⟩
      case measure => simp [intOf]
    · have hp2 : setL [(nF, (⟨a, a.size⟩ : Fl)), (nG, ⟨a, a.size⟩)] nF ⟨a ++ b, a.size⟩ = [(nF, ⟨a ++ b, a.size⟩), (nG, ⟨a, a.size⟩)] := rfl
      have hp3 : setL [(nF, (⟨a ++ b, a.size⟩ : Fl)), (nG, ⟨a, a.size⟩)] nG ⟨a ++ c, a.size⟩ = [(nF, ⟨a ++ b, a.size⟩), (nG, ⟨a ++ c, a.size⟩)] := rfl
      have hs1 : a.size ≤ (a ++ b).size := by rw [ByteArray.size_append]; omega
      have hs2 : a.size ≤ (a ++ c).size := by rw [ByteArray.size_append]; omega
      obtain ⟨s, hs, _⟩ := cutF_form ⟨a ++ b, a.size⟩ hs1 (cutAt cuts 0) flip
      obtain ⟨t, htt, _⟩ := cutF_form ⟨a ++ c, a.size⟩ hs2 (cutAt cuts 1) flip
      have hp4 : crashL cuts flip (sortB ([(nF, (⟨a ++ b, a.size⟩ : Fl)), (nG, ⟨a ++ c, a.size⟩)].map (·.1))) 0 [(nF, ⟨a ++ b, a.size⟩), (nG, ⟨a ++ c, a.size⟩)] = [(nF, ⟨s, s.size⟩), (nG, ⟨t, t.size⟩)] := by rw [← hs, ← htt]; rfl
      have hL1 : left2 a b cuts 0 flip = s := by unfold left2; rw [hs]
      have hL2 : left2 a c cuts 1 flip = t := by unfold left2; rw [htt]
      have kp1 := fun w' (hb : Below W.heap.size W w') => kept_any a b (w := w') (rdC_old HL.out.1 hb (fun _ e => e.elim)) HL.out.2.1 0 (by omega) flip HL.out.2.2.1
      have kp2 := fun w' (hb : Below W.heap.size W w') => kept_any a c (w := w') (rdC_old HL.out.1 hb (fun _ e => e.elim)) HL.out.2.1 1 (by omega) flip HL.out.2.2.2
      rw [hL1] at kp1
      rw [hL2] at kp2
      have HK := Lib.hid (And.intro kp1 kp2)
      clear hs htt hs1 hs2 hL1 hL2 kp1 kp2 k0 k1
      go_wp2_with (first
        | (go_at_call 21; refine (HK.out.2 _ H11.out.b).mono ?_; rintro e v12 ⟨rfl, b2⟩; have H12 := Lib.hid (H11.out.stay b2); clear b2)
        | (go_at_call 21; refine (HK.out.1 _ H10.out.b).mono ?_; rintro e v11 ⟨rfl, b2⟩; have H11 := Lib.hid (H10.out.stay b2); clear b2)
        | (go_at_call 10; refine (alive_any _).mono ?_; rintro e v10 ⟨rfl, b2⟩; have H10 := Lib.hid (H9.out.stay b2); clear b2)
        | (go_at_call 15; refine (c_read H8.out.d rfl (s := nG) rfl rfl).mono ?_; rintro e v9 ⟨rfl, b2⟩; have H9 := Lib.hid (H8.out.stay b2); clear b2)
        | (go_at_call 15; refine (c_read H7.out.d rfl (s := nF) rfl rfl).mono ?_; rintro e v8 ⟨rfl, b2⟩; have H8 := Lib.hid (H7.out.stay b2); clear b2)
        | (go_at_call 19; refine (c_restore H6.out.d).mono ?_; rintro e v7 ⟨rfl, h2, t2⟩; have H7 := Lib.hid (H6.out.go h2 t2); clear h2 t2)
        | (go_at_call 18; refine (c_crash H5.out.d (rdC_old HL.out.1 H5.out.b (fun q hq => by rcases hq with rfl | rfl <;> omega)) (Nat.le_trans HL.out.2.1 (by decide)) flip hp4).mono ?_; rintro e v6 ⟨rfl, h2, t2⟩; have H6 := Lib.hid (H5.out.go h2 t2); clear h2 t2)
        | (go_at_call 14; refine (c_append H4.out.d (s := nG) (data := c) rfl (by decide) yc rfl hl3 (.inl (by decide)) hp3).mono ?_; rintro e v5 ⟨rfl, h2, t2⟩; have H5 := Lib.hid (H4.out.go h2 t2); clear h2 t2)
        | (go_at_call 14; refine (c_append H3.out.1.d (s := nF) (data := b) rfl (by decide) yb rfl hl2 (.inl (by decide)) hp2).mono ?_; rintro e v4 ⟨rfl, h2, t2⟩; have H4 := Lib.hid (H3.out.1.go h2 t2); clear h2 t2))
      go_ret
      exact ⟨rfl, H12.out.b⟩
end Go.Proofs.YtjhajlfkiafhgaaDoor
