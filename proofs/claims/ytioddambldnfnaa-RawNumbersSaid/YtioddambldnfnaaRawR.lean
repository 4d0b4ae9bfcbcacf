/-
  The walk of the law RawShort.
-/
import Derived.Test.YtioddambldnfnaaRawM
import Derived.Test.YtioddambldnfnaaRawD
import Derived.Test.YtioddambldnfnaaRawQ
namespace Go.Proofs.Ytioddambldnfnaa
open Go.RowKit

theorem i64_bounds {v : Int} (h : (Lit.int .i64 v).wf = true) : -9223372036854775808 ≤ v ∧ v ≤ 9223372036854775807 := by
  simp [Lit.wf, IntKind.min, IntKind.max, IntKind.bits, IntKind.signed] at h
  omega

/-- GetVar of a beginning. -/
theorem get_cut (v i : Nat) (w : World) (hv : v < 9223372036854775808) (hi : i < (Rw.putF v).length) (t : ByteArray) (ht : t.data.toList = (Rw.putF v).take i) :
    Calls Try.prog 16 #[.string t] w fun e w' => e = .returned (.tuple #[.int .i64 0, .int .i64 0, .int .i64 3]) ∧ Below w.heap.size w w' := by
  have hl := Rw.putK_len 8 v
  have h := getvar_any t w (by
    have : t.size = t.data.toList.length := rfl
    rw [this, ht, List.length_take]
    unfold maxLen
    have : (Rw.putF v).length ≤ 9 := hl.2
    omega)
  rw [ht, Rw.getF_short v i hv hi] at h
  exact h

theorem shift7 (x : Nat) : (x : Int) / 2 ^ 7 = ((x / 128 : Nat) : Int) := by omega

set_option maxRecDepth 100000 in
theorem short_any (v : Int) (hw : (Lit.int .i64 v).wf = true) (w : World) :
    Calls Try.prog 6 #[.int .i64 v] w fun e w' => e = .returned (.bool true) ∧ Below w.heap.size w w' := by
  obtain ⟨hb0, hb1⟩ := i64_bounds hw
  clear hw
  by_cases hneg : v < 0
  · clear hb0 hb1
    go_enter Try.func6, Try.ntmps6
    go_wp2_with fail
    refine (alive_any w).mono ?_
    rintro e w1 ⟨rfl, b1⟩
    go_wp2_with fail
    refine (putvar_neg v w1 hneg).mono ?_
    rintro e w' ⟨rfl, rfl⟩
    go_wp2
    go_ret
    exact ⟨rfl, b1⟩
  · obtain ⟨u, rfl⟩ := Int.eq_ofNat_of_zero_le (show 0 ≤ v by omega)
    have hu : u < 9223372036854775808 := by omega
    have HU := Lib.hid hu
    have hl := Rw.putK_len 8 u
    obtain ⟨S, hS⟩ : ∃ S : ByteArray, S = ⟨(Rw.putF u).toArray⟩ := ⟨_, rfl⟩
    have hsz : S.size = (Rw.putF u).length := by rw [hS]; rfl
    have hsz9 : S.size ≤ 9 := by rw [hsz]; exact hl.2
    have HS := Lib.hid hS
    have HSZ := Lib.hid hsz
    have HL := Lib.hid hl
    clear hu hS hsz hl hb0 hb1
    go_enter Try.func6, Try.ntmps6
    go_wp2_with fail
    refine (putvar_any u w HU.out).mono ?_
    rintro e w1 ⟨rfl, b1⟩
    rw [← HS.out]
    go_wp2
    go_loopw [4] (fun y wr => ∃ i : Nat, i ≤ S.size ∧ y = .int .i64 (i : Int) ∧ Below w.heap.size w wr) (fun y _ => S.size - (intOf y).toNat)
    case atStart => exact ⟨0, by omega, rfl, b1⟩
    case round =>
      obtain ⟨i, hi, rfl, hbel⟩ := hrel
      by_cases hlt : i < S.size
      · go_wp2_with fail
        refine (get_cut u i wr HU.out (by have := HSZ.out; omega) _ (by have := HS.out; rw [this]; simp)).mono ?_
        rintro e w2 ⟨rfl, b2⟩
        go_wp2
        go_roundw
        case rel => exact ⟨i + 1, by omega, by go_num, hbel.trans (b2.mono hbel.size)⟩
        case measure => simp [intOf]; omega
      · go_wp2
        go_loop [8, 9] (fun x y => ∃ (m z f : Nat), x = .int .i64 (m : Int) ∧ y = .int .i64 (z : Int) ∧ m + (Rw.putK f z).length = S.size + 1 ∧ z < 128 ^ (f + 1) ∧ m ≤ 9) (fun _ y => (intOf y).toNat)
        case atStart => exact ⟨1, u, 8, rfl, rfl, by have := HSZ.out; rw [this]; unfold Rw.putF; omega, HU.out, by omega⟩
        case round =>
          obtain ⟨m, z, f, rfl, rfl, hm, hz, hm9⟩ := hrel
          have HM := Lib.hid hm
          have HZ := Lib.hid hz
          clear hm hz
          by_cases h128 : 128 ≤ z
          · go_wp2
            go_round
            case rel =>
              obtain ⟨f', rfl⟩ : ∃ f', f = f' + 1 := by
                rcases f with _ | f'
                · have := HZ.out; omega
                · exact ⟨f', rfl⟩
              have h1 := HM.out
              rw [Rw.putK_big f' h128, List.length_cons] at h1
              have h2 := Rw.putK_len f' (z / 128)
              exact ⟨m + 1, z / 128, f', by go_num, by go_num, by omega, by have := HZ.out; rw [Nat.pow_succ] at this; omega, by omega⟩
            case measure => simp [intOf]; omega
          · have HE : Hid (m = S.size) := by have := HM.out; rw [Rw.putK_small f (by omega)] at this; simp at this; exact this
            have hem : ((S.size : Int) == (m : Int)) = true := by rw [beq_iff_eq]; have := HE.out; omega
            go_wp2_with fail
            refine (alive_any wr).mono ?_
            rintro e w2 ⟨rfl, b2⟩
            go_wp2
            go_ret
            exact ⟨rfl, hbel.trans (b2.mono hbel.size)⟩
end Go.Proofs.Ytioddambldnfnaa
