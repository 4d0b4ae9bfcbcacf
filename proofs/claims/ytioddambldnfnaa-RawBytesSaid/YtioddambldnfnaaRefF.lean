/-
  The walk of the reference's Quote.
-/
import Derived.Test.YtioddambldnfnaaRawU
namespace Go.Proofs.Ytioddambldnfnaa
open Go.RowKit

set_option maxRecDepth 100000 in
theorem refquote_any (s : ByteArray) (w : World) (hs : s.size ≤ 1000000) :
    Calls Try.prog 31 #[.string s] w fun e w' => e = .returned (.string ⟨(Rw.quoteF s.data.toList).toArray⟩) ∧ Below w.heap.size w w' := by
  go_enter Try.func31, Try.ntmps31
  go_wp2
  go_loopw [3, 4] (fun x y wr => ∃ i : Nat, i ≤ s.size ∧ y = .int .i64 (i : Int) ∧ OwnB wr w.heap.size x (34 :: Rw.quoteIn (s.data.toList.take i)) ∧ Below w.heap.size w wr)
    (fun _ y _ => s.size - (intOf y).toNat)
  case atStart => exact ⟨0, by omega, rfl, World.ownsRow_lit _ _ _ (Nat.le_refl _) (by unfold maxLen; omega) rfl, (Below.refl _ _).alloc (Nat.le_refl _) _⟩
  case round =>
    obtain ⟨i, hi, rfl, hown, hbel⟩ := hrel
    have hql := Rw.quoteIn_len (s.data.toList.take i)
    have htl : (s.data.toList.take i).length ≤ i := List.length_take_le _ _
    have HLEN : Hid ((34 :: Rw.quoteIn (s.data.toList.take i)).length ≤ 4000001) := by unfold Hid; rw [List.length_cons]; omega
    clear hql htl
    by_cases hlt : i < s.size
    · have hts := Rw.take_snoc s i hlt
      have HN : Hid (34 :: Rw.quoteIn (s.data.toList.take (i + 1)) = 34 :: (Rw.quoteIn (s.data.toList.take i) ++ Rw.quoteB s[i])) := by unfold Hid; rw [hts, Rw.quoteIn_snoc]
      clear hts
      have hc8 := s[i].toNat_lt
      by_cases a1 : s[i].toNat = 34
      · have e1 : s[i] = 34 := UInt8.toNat.inj a1
        have t1 : ((s[i].toNat : Int) == 34) = true := by rw [beq_iff_eq]; omega
        have E1 := Lib.hid e1
        clear a1 e1
        have HQ : Hid (Rw.quoteB s[i] = [92, s[i]]) := by unfold Hid Rw.quoteB; rw [if_pos (Or.inl E1.out)]
        clear hc8
        go_wp2_with (at_builtin; refine wpList_append_b rfl _ _ rfl w.heap.size _ (34 :: Rw.quoteIn (s.data.toList.take i)) rfl (hown.alloc _) ⟨wr.heap.size, 0, none⟩ 2 2 [92, s[i]] rfl rfl (new_b _ _ _ _ ?c1) ?c2 ?c3 ?_)
        case c1 => rfl
        case c2 => have := HLEN.out; omega
        case c3 => have := hbel.size; simp; omega
        intro v' w1 hown1 hg
        have hbel1 := below_app hbel hown (Nat.le_refl _) hbel.size hg
        rw [← HQ.out, ← HN.out] at hown1
        clear hg hown hbel
        go_wp2
        go_roundw
        case rel => exact ⟨i + 1, by omega, by go_num, hown1, hbel1⟩
        case measure => simp [intOf]; omega
      · have t1 : ((s[i].toNat : Int) == 34) = false := by rw [beq_eq_false_iff_ne]; omega
        by_cases a2 : s[i].toNat = 92
        · have e2 : s[i] = 92 := UInt8.toNat.inj a2
          have t2 : ((s[i].toNat : Int) == 92) = true := by rw [beq_iff_eq]; omega
          have E2 := Lib.hid e2
          clear a1 a2 e2
          have HQ : Hid (Rw.quoteB s[i] = [92, s[i]]) := by unfold Hid Rw.quoteB; rw [if_pos (Or.inr E2.out)]
          clear hc8
          go_wp2_with (at_builtin; refine wpList_append_b rfl _ _ rfl w.heap.size _ (34 :: Rw.quoteIn (s.data.toList.take i)) rfl (hown.alloc _) ⟨wr.heap.size, 0, none⟩ 2 2 [92, s[i]] rfl rfl (new_b _ _ _ _ ?c1) ?c2 ?c3 ?_)
          case c1 => rfl
          case c2 => have := HLEN.out; omega
          case c3 => have := hbel.size; simp; omega
          intro v' w1 hown1 hg
          have hbel1 := below_app hbel hown (Nat.le_refl _) hbel.size hg
          rw [← HQ.out, ← HN.out] at hown1
          clear hg hown hbel
          go_wp2
          go_roundw
          case rel => exact ⟨i + 1, by omega, by go_num, hown1, hbel1⟩
          case measure => simp [intOf]; omega
        · have t2 : ((s[i].toNat : Int) == 92) = false := by rw [beq_eq_false_iff_ne]; omega
          have HNE : Hid (¬ (s[i] = 34 ∨ s[i] = 92)) := by
            rintro (h | h)
            · exact a1 (congrArg UInt8.toNat h)
            · exact a2 (congrArg UInt8.toNat h)
          clear a1 a2
          by_cases a3 : 32 ≤ s[i].toNat ∧ s[i].toNat ≤ 126
          · obtain ⟨a31, a32⟩ := a3
            have A3 : Hid (32 ≤ s[i].toNat ∧ s[i].toNat ≤ 126) := ⟨a31, a32⟩
            have t3 : decide ((s[i].toNat : Int) < 32) = false := by simp; omega
            have t4 : decide ((126 : Int) < (s[i].toNat : Int)) = false := by simp; omega
            clear a31 a32
            have HQ : Hid (Rw.quoteB s[i] = [s[i]]) := by unfold Hid Rw.quoteB; rw [if_neg HNE.out, if_pos A3.out]
            clear hc8
            go_wp2_with (at_builtin; refine wpList_append_b rfl _ _ rfl w.heap.size _ (34 :: Rw.quoteIn (s.data.toList.take i)) rfl (hown.alloc _) ⟨wr.heap.size, 0, none⟩ 1 1 [s[i]] rfl rfl (new_b _ _ _ _ ?c1) ?c2 ?c3 ?_)
            case c1 => rfl
            case c2 => have := HLEN.out; omega
            case c3 => have := hbel.size; simp; omega
            intro v' w1 hown1 hg
            have hbel1 := below_app hbel hown (Nat.le_refl _) hbel.size hg
            rw [← HQ.out, ← HN.out] at hown1
            clear hg hown hbel
            go_wp2
            go_roundw
            case rel => exact ⟨i + 1, by omega, by go_num, hown1, hbel1⟩
            case measure => simp [intOf]; omega
          · by_cases a4 : 32 ≤ s[i].toNat
            · have t3 : decide ((s[i].toNat : Int) < 32) = false := by simp; omega
              have t4 : decide ((126 : Int) < (s[i].toNat : Int)) = true := by simp; omega
              obtain ⟨k1, hk1, HK1⟩ : ∃ k : Nat, (s[i].toNat : Int) / 16 = (k : Int) ∧ Hid (k = s[i].toNat / 16) := ⟨s[i].toNat / 16, by omega, rfl⟩
              obtain ⟨k2, hk2, HK2⟩ : ∃ k : Nat, (s[i].toNat : Int).tmod 16 = (k : Int) ∧ Hid (k = s[i].toNat % 16) := ⟨s[i].toNat % 16, by rw [Int.tmod_eq_emod_of_nonneg (by omega)]; omega, rfl⟩
              have hk1b : (k1 : Int) < 16 := by have := HK1.out; omega
              have hw1 : IntKind.u8.wrap (k1 : Int) = (k1 : Int) := by rw [IntKind.wrap_u8]; omega
              have hk2b : (k2 : Int) < 16 := by have := HK2.out; omega
              have hx1 := hex_at k1 (by omega)
              have hx2 := hex_at k2 (by omega)
              have A3 := Lib.hid a3
              have HQ : Hid (Rw.quoteB s[i] = [92, 120, Rw.hexd k1, Rw.hexd k2]) := by unfold Hid Rw.quoteB; rw [if_neg HNE.out, if_neg A3.out, HK1.out, HK2.out]
              clear hc8
              go_wp2_with fail
              have HOWN := Lib.hid hown
              clear hown
              go_region_law (refine step_append_b rfl _ _ rfl w.heap.size _ (34 :: Rw.quoteIn (s.data.toList.take i)) rfl (HOWN.out.drew.alloc _) ⟨wr.heap.size, 0, none⟩ 4 4 [92, 120, Rw.hexd k1, Rw.hexd k2] rfl rfl (new_b _ _ _ _ (by rfl)) (by have := HLEN.out; omega) (by have := hbel.size; simp; omega) ?_; intro v' w1 hown1 hg)
              all_goals
                have hbel1 := below_app hbel.drew HOWN.out.drew (Nat.le_refl _) hbel.size hg
                have hown2 : OwnB w1 w.heap.size v' (34 :: Rw.quoteIn (s.data.toList.take (i + 1))) := by rw [HN.out, HQ.out]; exact hown1
                clear hg hbel hown1
                go_wp2
                go_roundw
                case rel => exact ⟨i + 1, by omega, by go_num, hown2, hbel1⟩
                case measure => simp [intOf]; omega
            · have t3 : decide ((s[i].toNat : Int) < 32) = true := by simp; omega
              obtain ⟨k1, hk1, HK1⟩ : ∃ k : Nat, (s[i].toNat : Int) / 16 = (k : Int) ∧ Hid (k = s[i].toNat / 16) := ⟨s[i].toNat / 16, by omega, rfl⟩
              obtain ⟨k2, hk2, HK2⟩ : ∃ k : Nat, (s[i].toNat : Int).tmod 16 = (k : Int) ∧ Hid (k = s[i].toNat % 16) := ⟨s[i].toNat % 16, by rw [Int.tmod_eq_emod_of_nonneg (by omega)]; omega, rfl⟩
              have hk1b : (k1 : Int) < 16 := by have := HK1.out; omega
              have hw1 : IntKind.u8.wrap (k1 : Int) = (k1 : Int) := by rw [IntKind.wrap_u8]; omega
              have hk2b : (k2 : Int) < 16 := by have := HK2.out; omega
              have hx1 := hex_at k1 (by omega)
              have hx2 := hex_at k2 (by omega)
              have A3 := Lib.hid a3
              have HQ : Hid (Rw.quoteB s[i] = [92, 120, Rw.hexd k1, Rw.hexd k2]) := by unfold Hid Rw.quoteB; rw [if_neg HNE.out, if_neg A3.out, HK1.out, HK2.out]
              clear hc8
              go_wp2_with fail
              have HOWN := Lib.hid hown
              clear hown
              go_region_law (refine step_append_b rfl _ _ rfl w.heap.size _ (34 :: Rw.quoteIn (s.data.toList.take i)) rfl (HOWN.out.drew.alloc _) ⟨wr.heap.size, 0, none⟩ 4 4 [92, 120, Rw.hexd k1, Rw.hexd k2] rfl rfl (new_b _ _ _ _ (by rfl)) (by have := HLEN.out; omega) (by have := hbel.size; simp; omega) ?_; intro v' w1 hown1 hg)
              all_goals
                have hbel1 := below_app hbel.drew HOWN.out.drew (Nat.le_refl _) hbel.size hg
                have hown2 : OwnB w1 w.heap.size v' (34 :: Rw.quoteIn (s.data.toList.take (i + 1))) := by rw [HN.out, HQ.out]; exact hown1
                clear hg hbel hown1
                go_wp2
                go_roundw
                case rel => exact ⟨i + 1, by omega, by go_num, hown2, hbel1⟩
                case measure => simp [intOf]; omega
    · obtain rfl : i = s.size := by omega
      have HT : Hid (s.data.toList.take s.size = s.data.toList) := by unfold Hid; rw [List.take_of_length_le (by simp)]
      go_wp2_with (at_builtin; refine wpList_append_b rfl _ _ rfl w.heap.size _ (34 :: Rw.quoteIn (s.data.toList.take s.size)) rfl (hown.alloc _) ⟨wr.heap.size, 0, none⟩ 1 1 [34] rfl rfl (new_b _ _ _ _ ?c1) ?c2 ?c3 ?_)
      case c1 => rfl
      case c2 => have := HLEN.out; omega
      case c3 => have := hbel.size; simp; omega
      intro v' w1 hown1 hg
      have hbel1 := below_app hbel hown (Nat.le_refl _) hbel.size hg
      have hs1 := hown1.str
      clear hg hown hbel
      go_wp2
      go_ret
      exact ⟨ret_s (by rw [HT.out]; rfl), hbel1⟩
end Go.Proofs.Ytioddambldnfnaa
