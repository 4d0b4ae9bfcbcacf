/-
  The walk of raw.PutVar.
-/
import Derived.Test.YtioddambldnfnaaBase
import Derived.Test.YtioddambldnfnaaRawC
namespace Go.Proofs.Ytioddambldnfnaa
open Go.RowKit

theorem or128 (u : Nat) : bits .or .u8 ((u : Int) % 256) 128 = (((UInt8.ofNat (u % 128 + 128)).toNat : Nat) : Int) := by
  have h := (bits_nat .u8 8 (by decide) (fun n h0 h1 => by rw [IntKind.wrap_u8]; omega) (u % 256) 128 (by omega) (by omega)).2
  have e : (u % 256) ||| 128 = u % 128 + 128 := by
    have hd : u % 256 = 128 * (u / 128 % 2) + u % 128 := by omega
    have : u / 128 % 2 = 0 ∨ u / 128 % 2 = 1 := by omega
    have h7 : u % 128 < 2 ^ 7 := by omega
    rcases this with h | h
    · rw [h] at hd
      have := Nat.two_pow_add_eq_or_of_lt h7 1
      rw [show u % 256 = u % 128 from by omega, Nat.or_comm, ← show 2 ^ 7 * 1 = 128 from rfl, ← this]
      omega
    · rw [h] at hd
      have := Nat.two_pow_add_eq_or_of_lt h7 1
      have e2 : u % 256 = 128 ||| u % 128 := by
        rw [show (128 : Nat) = 2 ^ 7 * 1 from rfl, ← this]; omega
      rw [e2, Nat.or_comm, ← Nat.or_assoc, Nat.or_self, show (128 : Nat) = 2 ^ 7 * 1 from rfl, ← this]
      omega
  rw [e] at h
  have h3 : ((u % 256 : Nat) : Int) = (u : Int) % 256 := by omega
  rw [h3] at h
  have h4 : (UInt8.ofNat (u % 128 + 128)).toNat = u % 128 + 128 := by simp; omega
  rw [h4]
  exact h

theorem putvar_neg (v : Int) (w : World) (h : v < 0) :
    Calls Try.prog 15 #[.int .i64 v] w fun e w' => e = .returned (.string ⟨#[]⟩) ∧ w = w' := by
  go_enter Try.func15, Try.ntmps15
  go_wp2
  go_ret
  exact ⟨rfl, rfl⟩

set_option maxHeartbeats 400000 in
set_option maxRecDepth 100000 in
theorem putvar_any (v : Nat) (w : World) (hv : v < 9223372036854775808) :
    Calls Try.prog 15 #[.int .i64 v] w fun e w' => e = .returned (.string ⟨(Rw.putF v).toArray⟩) ∧ Below w.heap.size w w' := by
  go_enter Try.func15, Try.ntmps15
  go_wp2
  go_loopw [0, 3] (fun x b wr => ∃ (u f : Nat) (l : List UInt8), x = .int .i64 (u : Int) ∧ l ++ Rw.putK f u = Rw.putF v ∧ u < 128 ^ (f + 1) ∧ l.length + f = 8 ∧ OwnB wr w.heap.size b l ∧ Below w.heap.size w wr)
    (fun x _ _ => (intOf x).toNat)
  case atStart => exact ⟨v, 8, [], rfl, rfl, by omega, rfl, OwnB.nil _ _, Below.refl _ _⟩
  case round =>
    obtain ⟨u, f, l, rfl, hl, hu, hf, hown, hbel⟩ := hrel
    have HL := Lib.hid hl
    have HU := Lib.hid hu
    have HF := Lib.hid hf
    have HV := Lib.hid hv
    clear hl hu hf hv
    by_cases hlt : 128 ≤ u
    · obtain ⟨c, hc, Hc⟩ : ∃ c : UInt8, bits .or .u8 ((u : Int) % 256) 128 = (c.toNat : Int) ∧ Hid (c = UInt8.ofNat (u % 128 + 128)) := ⟨_, or128 u, rfl⟩
      go_wp2_with (at_builtin; refine wpList_append_b rfl _ _ rfl w.heap.size _ l rfl (hown.alloc _) ⟨wr.heap.size, 0, none⟩ 1 1 [c] rfl rfl (new_b _ _ _ _ ?c1) ?c2 ?c3 ?_)
      case c1 => rfl
      case c2 => have := HF.out; omega
      case c3 => have := hbel.size; simp; omega
      intro v' w1 hown1 hg
      have hbel1 := below_app hbel hown (Nat.le_refl _) hbel.size hg
      clear hg hown hbel
      go_wp2
      go_roundw
      case rel =>
        obtain ⟨f', rfl⟩ : ∃ f', f = f' + 1 := by
          rcases f with _ | f'
          · have := HU.out; omega
          · exact ⟨f', rfl⟩
        refine ⟨u / 128, f', l ++ [c], by go_num, ?_, ?_, ?_, hown1, hbel1⟩
        · rw [← HL.out, Rw.putK_big f' hlt, Hc.out]; simp
        · have := HU.out; rw [Nat.pow_succ] at this; omega
        · have := HF.out; simp; omega
      case measure => simp [intOf]; omega
    · have hc : UInt8.toNat (UInt8.ofNat u) = u := by simp; omega
      have Hc := Lib.hid hc
      clear hc
      go_wp2_with (at_builtin; refine wpList_append_b rfl _ _ rfl w.heap.size _ l rfl (hown.alloc _) ⟨wr.heap.size, 0, none⟩ 1 1 [UInt8.ofNat u] rfl rfl (new_b _ _ _ _ ?c1) ?c2 ?c3 ?_)
      case c1 => simp only [bCells, List.map, Hc.out]
      case c2 => have := HF.out; omega
      case c3 => have := hbel.size; simp; omega
      intro v' w1 hown1 hg
      have hbel1 := below_app hbel hown (Nat.le_refl _) hbel.size hg
      have hs := hown1.str
      clear hg hown hbel
      go_wp2
      go_ret
      refine ⟨ret_s ?_, hbel1⟩
      rw [← HL.out, Rw.putK_small f (by omega)]
end Go.Proofs.Ytioddambldnfnaa
