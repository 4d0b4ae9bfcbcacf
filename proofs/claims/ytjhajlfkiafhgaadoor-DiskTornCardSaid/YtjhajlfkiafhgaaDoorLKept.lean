/-
  DiskTorn: its walk.
-/
import Derived.Test.YtjhajlfkiafhgaaDoorLRenames
import Derived.Test.YtjhajlfkiafhgaaDoorHb
namespace Go.Proofs.YtjhajlfkiafhgaaDoor
open Go.RowKit
variable {F G : Nat → Prop} {w w' : World} {db mb : Nat} {D D' : Dk}

/-- What is left of a file, by the law's own reckoning. -/
def left2 (a b : ByteArray) (cuts : List Int) (i : Nat) (flip : Int) : ByteArray := (cutF ⟨a ++ b, a.size⟩ (cutAt cuts i) flip).data
theorem left2_eq {a b : ByteArray} {cuts : List Int} {i : Nat} {flip cval : Int} (h : cutAt cuts i = cval) : left2 a b cuts i flip = ⟨(kept ⟨a ++ b, a.size⟩ cval flip).toArray⟩ := by unfold left2 cutF; rw [h]
theorem keep_app (a b : ByteArray) (cut : Int) : keep ⟨a ++ b, a.size⟩ cut = (min (max cut 0) (b.size : Int)).toNat := by
  unfold keep
  show min cut.toNat ((a ++ b).size - a.size) = _
  rw [ByteArray.size_append]
  omega
theorem kept_plain (a b : ByteArray) {kp : Nat} {cval flip : Int} (hk : (min (max cval 0) (b.size : Int)).toNat = kp) (hf : ¬ (0 < kp ∧ 1 ≤ flip ∧ flip ≤ 255)) : kept ⟨a ++ b, a.size⟩ cval flip = (a ++ b.extract 0 kp).data.toList := by
  unfold kept
  rw [keep_app, hk, if_neg hf, ← hk, ← keep_app, kept_app, keep_app]
theorem kept_spoilt (a b : ByteArray) {kp : Nat} {cval flip : Int} (hk : (min (max cval 0) (b.size : Int)).toNat = kp) (hf : 0 < kp ∧ 1 ≤ flip ∧ flip ≤ 255) : kept ⟨a ++ b, a.size⟩ cval flip = spoil (a ++ b.extract 0 kp).data.toList flip := by
  unfold kept
  rw [keep_app, hk, if_pos hf, ← hk, ← keep_app, kept_app, keep_app]

set_option maxRecDepth 100000 in
set_option maxHeartbeats 2000000 in
theorem kept_any (a b : ByteArray) {v : Value} {cuts : List Int} (hr : RdC (fun _ => False) w v cuts) (hcl : cuts.length ≤ 20) (i : Nat) (hi : i ≤ 1) (flip : Int) (hab : a.size + b.size ≤ 9000) :
    Calls Tryd.prog 21 #[.string a, .string b, v, .int .i64 (i : Int), .int .i64 flip] w fun e w' => e = .returned (.string (left2 a b cuts i flip)) ∧ Below w.heap.size w w' := by
  obtain ⟨av, cv, rfl, hrr⟩ := hr
  obtain ⟨vl, hvl⟩ : ∃ vl, cuts.length = vl := ⟨_, rfl⟩
  rw [hvl] at hcl ⊢
  obtain ⟨cval, hcval, hcc⟩ : ∃ cval, cutAt cuts i = cval ∧ ((vl = 0 ∧ cval = 0) ∨ (0 < vl ∧ ∃ b off, av = some ⟨b, off, none⟩ ∧ w.cell? ⟨b, off + i % vl, none⟩ = some (.int .i64 cval))) := by
    refine ⟨_, rfl, ?_⟩
    rcases Nat.eq_zero_or_pos vl with h0 | h0
    · exact .inl ⟨h0, by unfold cutAt; rw [hvl, if_pos h0]⟩
    · obtain ⟨b, off, e, hb, hbl, hcs⟩ := hrr.resolve_left (fun e => by rw [e] at hvl; simp at hvl; omega)
      have hm : i % vl < cuts.length := by rw [hvl]; exact Nat.mod_lt _ h0
      refine .inr ⟨h0, b, off, e, ?_⟩
      have hcv : cutAt cuts i = cuts[i % vl] := by
        unfold cutAt
        rw [if_neg (by omega), List.getD_eq_getElem?_getD, hvl, List.getElem?_eq_getElem hm]
        rfl
      rw [hcv]
      exact hcs _ hm
  obtain ⟨kp, hkp0⟩ : ∃ kp, (min (max cval 0) (b.size : Int)).toNat = kp := ⟨_, rfl⟩
  have hkb : kp ≤ b.size := by omega
  have hkp : min (max cval 0) (b.size : Int) = (kp : Int) := by omega
  have hL := left2_eq (a := a) (b := b) (flip := flip) hcval
  obtain ⟨L, hLe⟩ : ∃ L, a.size + kp = L := ⟨_, rfl⟩
  have hxs : (a ++ b.extract 0 kp).size = L := by rw [ByteArray.size_append, ByteArray.size_extract]; omega
  obtain ⟨ccap, w4, hb4, hz4, hB4, hconv⟩ := conv_b (a ++ b.extract 0 kp) w
  rw [hxs] at hconv
  obtain ⟨l, hl⟩ : ∃ l, (a ++ b.extract 0 kp).data.toList = l := ⟨_, rfl⟩
  have hlen4 : l.length = L := by rw [← hl, ← Lib.size_eq, hxs]
  rw [hl] at hB4
  have HB4 := Lib.hid (And.intro hb4 (And.intro hB4 (And.intro hlen4 hz4)))
  have HL := Lib.hid (And.intro hL (And.intro hkp0 hl))
  have r6 : ((kp : Int)).toNat = kp := by omega
  have hLn : L ≤ 9000 := by omega
  have hstr : ∀ W : World, ∀ l : List UInt8, HasB W w.heap.size l → l.length = L → (convert 55 9 (.slice (some ⟨w.heap.size, 0, none⟩) L ccap)).run Tryd.prog W = .ok (.string ⟨l.toArray⟩) W := fun W l hW hl => hW.str _ _ hl.symm
  have hLk : 0 < kp → 0 < L := by omega
  clear hb4 hz4 hB4 hlen4 hL hkp0 hcval hrr hvl hxs hLe hl
  rcases hcc with ⟨rfl, rfl⟩ | ⟨hvp, cb, coff, rfl, hcellc⟩
  · have hk0 : kp = 0 := by omega
    have t1 : ¬ (0 : Int) < (kp : Int) := by omega
    subst hk0
    clear hkp hLk
    have hLk : 0 < 0 → 0 < L := by omega
    have hae : a ++ b.extract 0 0 = a := by simp
    rw [hae] at hconv
    clear hae
    have hst := hstr w4 _ HB4.out.2.1 HB4.out.2.2.1
    have hfin : left2 a b cuts i flip = ⟨l.toArray⟩ := by rw [HL.out.1, kept_plain a b HL.out.2.1 (by omega), HL.out.2.2]
    have HF := Lib.hid hfin
    clear hstr hfin hLk
    go_enter Tryd.func21, Tryd.ntmps21
    go_wp2_with fail
    go_ret
    exact ⟨by rw [HF.out]; rfl, HB4.out.1⟩
  · have r2 : (0 : Int) < (vl : Int) := by omega
    have hcb : cb < w.heap.size := World.block_lt_of_cell? _ _ hcellc
    have r3 : ((i % vl : Nat) : Int) = (i : Int) % (vl : Int) := by omega
    have r4 : (i : Int) % (vl : Int) < (vl : Int) := Int.emod_lt_of_pos _ r2
    have r5 : 0 ≤ (i : Int) % (vl : Int) := Int.emod_nonneg _ (by omega)
    rcases (by omega : kp = 0 ∨ (0 < kp ∧ flip < 1) ∨ (0 < kp ∧ 255 < flip) ∨ (0 < kp ∧ 1 ≤ flip ∧ flip ≤ 255)) with hw | hw | hw | hw
    · have t1 : ¬ (0 : Int) < (kp : Int) := by omega
      clear hw
      have hst := hstr w4 _ HB4.out.2.1 HB4.out.2.2.1
      have hfin : left2 a b cuts i flip = ⟨l.toArray⟩ := by rw [HL.out.1, kept_plain a b HL.out.2.1 (by omega), HL.out.2.2]
      have HF := Lib.hid hfin
      clear hstr hfin hLk
      go_enter Tryd.func21, Tryd.ntmps21
      go_wp2_with fail
      go_ret
      exact ⟨by rw [HF.out]; rfl, HB4.out.1⟩
    · have t1 : (0 : Int) < (kp : Int) := by omega
      have t2 : ¬ (0 : Int) < flip := by omega
      have hst := hstr w4 _ HB4.out.2.1 HB4.out.2.2.1
      have hfin : left2 a b cuts i flip = ⟨l.toArray⟩ := by rw [HL.out.1, kept_plain a b HL.out.2.1 (by omega), HL.out.2.2]
      have HF := Lib.hid hfin
      clear hstr hfin hLk
      go_enter Tryd.func21, Tryd.ntmps21
      go_wp2_with fail
      go_ret
      exact ⟨by rw [HF.out]; rfl, HB4.out.1⟩
    · have t1 : (0 : Int) < (kp : Int) := by omega
      have t2 : (0 : Int) < flip := by omega
      have t3 : ¬ flip < (256 : Int) := by omega
      have hst := hstr w4 _ HB4.out.2.1 HB4.out.2.2.1
      have hfin : left2 a b cuts i flip = ⟨l.toArray⟩ := by rw [HL.out.1, kept_plain a b HL.out.2.1 (by omega), HL.out.2.2]
      have HF := Lib.hid hfin
      clear hstr hfin hLk
      go_enter Tryd.func21, Tryd.ntmps21
      go_wp2_with fail
      go_ret
      exact ⟨by rw [HF.out]; rfl, HB4.out.1⟩
    · have t1 : (0 : Int) < (kp : Int) := by omega
      have t2 : (0 : Int) < flip := by omega
      have t3 : flip < (256 : Int) := by omega
      have hL0 : 0 < L := hLk (by omega)
      have hj0 : L - 1 < l.length := by rw [HB4.out.2.2.1]; omega
      obtain ⟨lb, hlb⟩ : ∃ lb, l[L - 1]? = some lb := ⟨_, List.getElem?_eq_getElem hj0⟩
      have u1 := (HB4.out.2.1 (L - 1) hj0).1
      have u2 := (HB4.out.2.1 (L - 1) hj0).2
      have e0 := hlb
      rw [List.getElem?_eq_getElem hj0] at e0
      rw [Option.some.inj e0] at u1
      have r7 : ((L : Int) - 1).toNat = L - 1 := by omega
      obtain ⟨cb2, hcb2⟩ : ∃ c, lb ^^^ UInt8.ofNat flip.toNat = c := ⟨_, rfl⟩
      have hxr : bits BinOp.xor IntKind.u8 (lb.toNat : Int) flip = (cb2.toNat : Int) := by
        rw [← hcb2, u8_xor _ _ (by omega) (by have := lb.toNat_lt; omega) (by omega) (by omega), UInt8.toNat_xor, UInt8.toNat_ofNat', Int.toNat_natCast, Nat.mod_eq_of_lt (show flip.toNat < 2 ^ 8 by omega)]
      have hspo : spoil l flip = l.set (L - 1) cb2 := by
        unfold spoil
        rw [HB4.out.2.2.1, List.getD_eq_getElem?_getD, hlb, ← hcb2]
        rfl
      obtain ⟨l5, hl5⟩ : ∃ l5, spoil l flip = l5 := ⟨_, rfl⟩
      have hH5 : HasB (w4.setCell ⟨w.heap.size, L - 1, none⟩ (.int .u8 (cb2.toNat : Int))) w.heap.size l5 := by
        rw [← hl5, hspo]
        exact HB4.out.2.1.set _ _
      have hst := hstr _ _ hH5 (by rw [← hl5, spoil_len]; exact HB4.out.2.2.1)
      have hfin : left2 a b cuts i flip = ⟨l5.toArray⟩ := by rw [HL.out.1, kept_spoilt a b HL.out.2.1 (by omega), HL.out.2.2, hl5]
      have HF := Lib.hid hfin
      clear hstr hfin hlb e0 hj0 hspo hH5 hLk hcb2 hl5
      go_enter Tryd.func21, Tryd.ntmps21
      go_wp2_with fail
      go_ret
      exact ⟨by rw [HF.out]; rfl, HB4.out.1.setCell (by simp) _⟩
end Go.Proofs.YtjhajlfkiafhgaaDoor
