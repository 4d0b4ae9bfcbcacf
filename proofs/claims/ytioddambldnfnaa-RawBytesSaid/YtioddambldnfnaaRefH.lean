/-
  The walk of the reference's Unquote.
-/
import Derived.Test.YtioddambldnfnaaRefG
namespace Go.Proofs.Ytioddambldnfnaa
open Go.RowKit

set_option maxRecDepth 100000 in
set_option maxHeartbeats 2000000 in
theorem refunquote_any (s : ByteArray) (w : World) (hs : s.size ≤ 140737488351232) :
    Calls Try.prog 28 #[.string s] w fun e w' => e = .returned (unqAns s.data.toList) ∧ Below w.heap.size w w' := by
  by_cases hz : s.size = 0
  · have t0 : ((s.size : Int) == 0) = true := by rw [beq_iff_eq]; omega
    have HR : Hid (none = Rw.unqF s.data.toList) := by unfold Hid Rw.unqF; rw [atF_out s 0 (by omega)]; rfl
    have hbel := Below.refl w.heap.size w
    clear hz
    go_enter Try.func28, Try.ntmps28
    go_wp2
    go_ret3
    exact ⟨by unfold unqAns; rw [← HR.out]; rfl, hbel⟩
  · have t0 : ((s.size : Int) == 0) = false := by rw [beq_eq_false_iff_ne]; omega
    have hpos : 0 < s.size := by omega
    by_cases hq : s[0].toNat = 34
    · have t1 : ((s[0].toNat : Int) != 34) = false := by rw [hq]; rfl
      have HU : Hid (Rw.unqF s.data.toList = Rw.unqK s.data.toList s.data.toList.length 1 []) := by
        unfold Hid Rw.unqF; rw [if_pos]
        rw [atF_at s 0 hpos, if_pos (by omega)]
        exact congrArg some (UInt8.toNat.inj hq)
      clear hq hz
      go_enter Try.func28, Try.ntmps28
      go_wp2
      clear t0 t1
      go_loopw [5, 6] (fun x y wr => ∃ (i f : Nat) (acc : List UInt8), y = .int .i64 (i : Int) ∧ OwnB wr w.heap.size x acc ∧ Rw.unqK s.data.toList f i acc = Rw.unqF s.data.toList ∧ s.size + 1 ≤ f + i ∧ i ≤ s.size ∧ acc.length ≤ i ∧ Below w.heap.size w wr)
        (fun _ y _ => s.size + 1 - (intOf y).toNat)
      case atStart => exact ⟨1, s.data.toList.length, [], rfl, OwnB.nil _ _, HU.out.symm, by simp, by omega, by simp, Below.refl _ _⟩
      case round =>
        obtain ⟨i, f, acc, rfl, hown, hk, hf, hi, hacc, hbel⟩ := hrel
        have HK := Lib.hid hk
        clear hk
        by_cases hlt : i < s.size
        · obtain ⟨g, rfl⟩ : ∃ g, f = g + 1 := ⟨f - 1, by omega⟩
          have hc8 := s[i].toNat_lt
          by_cases a1 : s[i].toNat = 34
          · have t1 : ((s[i].toNat : Int) == 34) = true := by rw [beq_iff_eq]; omega
            have HR : Hid (some (acc, i + 1) = Rw.unqF s.data.toList) := by have h := HK.out; rw [unqK_quote' hlt a1] at h; exact h
            have hstr := hown.str
            clear a1 hc8
            go_wp2
            go_ret3
            exact ⟨by unfold unqAns; rw [← HR.out]; rfl, hbel⟩
          · have t1 : ((s[i].toNat : Int) == 34) = false := by rw [beq_eq_false_iff_ne]; omega
            by_cases b1 : s[i].toNat < 32
            · have u1 : decide ((s[i].toNat : Int) < 32) = true := by simp; omega
              have HR : Hid (none = Rw.unqF s.data.toList) := by have h := HK.out; rw [unqK_range hlt (by omega)] at h; exact h
              clear a1 b1 hc8
              go_wp2
              go_ret3
              exact ⟨by unfold unqAns; rw [← HR.out]; rfl, hbel⟩
            · have u1 : decide ((s[i].toNat : Int) < 32) = false := by simp; omega
              by_cases b2 : 126 < s[i].toNat
              · have u2 : decide ((126 : Int) < (s[i].toNat : Int)) = true := by simp; omega
                have HR : Hid (none = Rw.unqF s.data.toList) := by have h := HK.out; rw [unqK_range hlt (by omega)] at h; exact h
                clear a1 b1 b2 hc8
                go_wp2
                go_ret3
                exact ⟨by unfold unqAns; rw [← HR.out]; rfl, hbel⟩
              · have u2 : decide ((126 : Int) < (s[i].toNat : Int)) = false := by simp; omega
                by_cases a2 : s[i].toNat = 92
                · have t2 : ((s[i].toNat : Int) != 92) = false := by rw [a2]; rfl
                  have A2 := Lib.hid a2
                  clear a1 a2 b1 b2 hc8
                  by_cases l1 : i + 1 < s.size
                  · by_cases d1 : s[i + 1].toNat = 34
                    · have v1 : ((s[i + 1].toNat : Int) == 34) = true := by rw [beq_iff_eq]; omega
                      have HR : Hid (Rw.unqK s.data.toList g (i + 2) (acc ++ [s[i + 1]]) = Rw.unqF s.data.toList) := by have h := HK.out; rw [unqK_two hlt A2.out l1 (Or.inl d1)] at h; exact h
                      clear d1
                      go_wp2_with (at_builtin; refine wpList_append_b rfl _ _ rfl w.heap.size _ acc rfl (hown.alloc _) ⟨wr.heap.size, 0, none⟩ 1 1 [s[i + 1]] rfl rfl (new_b _ _ _ _ ?c1) ?c2 ?c3 ?_)
                      case c1 => rfl
                      case c2 => omega
                      case c3 => have := hbel.size; simp; omega
                      intro v' w2 hown1 hg
                      have hbel1 := below_app hbel hown (Nat.le_refl _) hbel.size hg
                      clear hg hown hbel
                      go_wp2
                      go_roundw
                      case rel => exact ⟨i + 2, g, acc ++ [s[i + 1]], by go_num, hown1, HR.out, by omega, by omega, by simp; omega, hbel1⟩
                      case measure => simp [intOf]; omega
                    · have v1 : ((s[i + 1].toNat : Int) == 34) = false := by rw [beq_eq_false_iff_ne]; omega
                      by_cases d2 : s[i + 1].toNat = 92
                      · have v2 : ((s[i + 1].toNat : Int) == 92) = true := by rw [beq_iff_eq]; omega
                        have HR : Hid (Rw.unqK s.data.toList g (i + 2) (acc ++ [s[i + 1]]) = Rw.unqF s.data.toList) := by have h := HK.out; rw [unqK_two hlt A2.out l1 (Or.inr d2)] at h; exact h
                        clear d1 d2
                        go_wp2_with (at_builtin; refine wpList_append_b rfl _ _ rfl w.heap.size _ acc rfl (hown.alloc _) ⟨wr.heap.size, 0, none⟩ 1 1 [s[i + 1]] rfl rfl (new_b _ _ _ _ ?c1) ?c2 ?c3 ?_)
                        case c1 => rfl
                        case c2 => omega
                        case c3 => have := hbel.size; simp; omega
                        intro v' w2 hown1 hg
                        have hbel1 := below_app hbel hown (Nat.le_refl _) hbel.size hg
                        clear hg hown hbel
                        go_wp2
                        go_roundw
                        case rel => exact ⟨i + 2, g, acc ++ [s[i + 1]], by go_num, hown1, HR.out, by omega, by omega, by simp; omega, hbel1⟩
                        case measure => simp [intOf]; omega
                      · have v2 : ((s[i + 1].toNat : Int) == 92) = false := by rw [beq_eq_false_iff_ne]; omega
                        by_cases d3 : s[i + 1].toNat = 120
                        · have v3 : ((s[i + 1].toNat : Int) == 120) = true := by rw [beq_iff_eq]; omega
                          have hk4 := HK.out
                          rw [unqK_hex hlt A2.out l1 d3] at hk4
                          have HK4 := Lib.hid hk4
                          clear hk4 d1 d2 d3
                          by_cases l3 : i + 3 < s.size
                          · have l2 : i + 2 < s.size := by omega
                            cases hnx : Rw.nibF s[i + 2] with
                            | none =>
                              have HR : Hid (none = Rw.unqF s.data.toList) := by have h := HK4.out; rw [nibAt_at s _ l2, hnx] at h; exact h
                              have HNX := Lib.hid hnx
                              clear hnx
                              go_wp2_with fail
                              refine (dig_no s[i + 2] _ HNX.out).mono ?_
                              rintro e w2 ⟨rfl, rfl⟩
                              go_wp2
                              go_ret3
                              exact ⟨by unfold unqAns; rw [← HR.out]; rfl, hbel⟩
                            | some h =>
                              have hh16 := Rw.nibF_lt hnx
                              cases hny : Rw.nibF s[i + 3] with
                              | none =>
                                have HR : Hid (none = Rw.unqF s.data.toList) := by have h := HK4.out; rw [nibAt_at s _ l2, nibAt_at s _ l3, hnx, hny] at h; exact h
                                have HNX := Lib.hid hnx
                                have HNY := Lib.hid hny
                                clear hnx hny
                                go_wp2_with fail
                                refine (dig_ok s[i + 2] h _ HNX.out).mono ?_
                                rintro e w2 ⟨rfl, rfl⟩
                                go_wp2_with fail
                                refine (dig_no s[i + 3] _ HNY.out).mono ?_
                                rintro e w2 ⟨rfl, rfl⟩
                                go_wp2
                                go_ret3
                                exact ⟨by unfold unqAns; rw [← HR.out]; rfl, hbel⟩
                              | some k =>
                                have hk16 := Rw.nibF_lt hny
                                have HR0 : Hid (Rw.unqK s.data.toList g (i + 4) (acc ++ [UInt8.ofNat (16 * h + k)]) = Rw.unqF s.data.toList) := by
                                  have h := HK4.out; rw [nibAt_at s _ l2, nibAt_at s _ l3, hnx, hny] at h; exact h
                                have HNX := Lib.hid hnx
                                have HNY := Lib.hid hny
                                clear hnx hny
                                go_wp2_with fail
                                refine (dig_ok s[i + 2] h _ HNX.out).mono ?_
                                rintro e w2 ⟨rfl, rfl⟩
                                go_wp2_with fail
                                refine (dig_ok s[i + 3] k _ HNY.out).mono ?_
                                rintro e wq ⟨rfl, rfl⟩
                                obtain ⟨z, hz, HZ⟩ : ∃ z : UInt8, 16 * (h : Int) + (k : Int) = (z.toNat : Int) ∧ Hid (z = UInt8.ofNat (16 * h + k)) := ⟨UInt8.ofNat (16 * h + k), by rw [UInt8.toNat_ofNat', Nat.mod_eq_of_lt (show 16 * h + k < 2 ^ 8 by omega)]; omega, rfl⟩
                                have HR : Hid (Rw.unqK s.data.toList g (i + 4) (acc ++ [z]) = Rw.unqF s.data.toList) := by rw [HZ.out]; exact HR0.out
                                go_wp2_with fail
                                obtain ⟨j2, hj2⟩ : ∃ j2, j2 = i + 2 := ⟨_, rfl⟩
                                obtain ⟨j3, hj3⟩ : ∃ j3, j3 = i + 3 := ⟨_, rfl⟩
                                have m2 : j2 < s.size := by omega
                                have m3 : j3 < s.size := by omega
                                have HNX2 : Hid (Rw.nibF s[j2] = some h) := by subst hj2; exact HNX.out
                                have HNY2 : Hid (Rw.nibF s[j3] = some k) := by subst hj3; exact HNY.out
                                have e2 : IntKind.i64.wrap ((i : Int) + 2) = (j2 : Int) := by rw [IntKind.wrap_i64]; omega
                                have e3 : IntKind.i64.wrap ((i : Int) + 3) = (j3 : Int) := by rw [IntKind.wrap_i64]; omega
                                have e4 : IntKind.i64.wrap (16 * (h : Int)) = 16 * (h : Int) := by rw [IntKind.wrap_i64]; omega
                                have e5 : IntKind.i64.wrap (z.toNat : Int) = (z.toNat : Int) := by have := z.toNat_lt; rw [IntKind.wrap_i64]; omega
                                have e6 : IntKind.u8.wrap (z.toNat : Int) = (z.toNat : Int) := by have := z.toNat_lt; rw [IntKind.wrap_u8]; omega
                                clear hj2 hj3
                                have HOWN := Lib.hid hown
                                clear hown
                                go_region_law (first
                                  | (refine step_append_b rfl _ _ rfl w.heap.size _ acc rfl (HOWN.out.drew.alloc _) ⟨wq.heap.size, 0, none⟩ 1 1 [z] rfl rfl (new_b _ _ _ _ (by rfl)) (by omega) (by have := hbel.size; simp; omega) ?_; intro v' w1 hown1 hg)
                                  | (go_simp; go_at_call 38; first
                                      | (with_reducible refine (dig_ok s[j2] h _ HNX2.out).mono ?_; rintro _ _ ⟨rfl, rfl⟩; simp only [])
                                      | (with_reducible refine (dig_ok s[j3] k _ HNY2.out).mono ?_; rintro _ _ ⟨rfl, rfl⟩; simp only [])))
                                all_goals
                                  have hbel1 := below_app hbel.drew HOWN.out.drew (Nat.le_refl _) hbel.size hg
                                  clear hg hbel
                                  go_wp2
                                  go_roundw
                                  case rel => exact ⟨i + 4, g, acc ++ [z], by go_num, hown1, HR.out, by omega, by omega, by simp; omega, hbel1⟩
                                  case measure => simp [intOf]; omega
                          · have HR : Hid (none = Rw.unqF s.data.toList) := by
                              have h := HK4.out
                              rw [nibAt_out s _ l3] at h
                              cases hq : Rw.nibAt s.data.toList (i + 2) <;> rw [hq] at h <;> exact h
                            go_wp2
                            go_ret3
                            exact ⟨by unfold unqAns; rw [← HR.out]; rfl, hbel⟩
                        · have v3 : ((s[i + 1].toNat : Int) == 120) = false := by rw [beq_eq_false_iff_ne]; omega
                          have HR : Hid (none = Rw.unqF s.data.toList) := by have h := HK.out; rw [unqK_other hlt A2.out l1 ⟨d1, d2, d3⟩] at h; exact h
                          clear d1 d2 d3
                          by_cases l3 : i + 3 < s.size
                          · go_wp2
                            go_ret3
                            exact ⟨by unfold unqAns; rw [← HR.out]; rfl, hbel⟩
                          · go_wp2
                            go_ret3
                            exact ⟨by unfold unqAns; rw [← HR.out]; rfl, hbel⟩
                  · have HR : Hid (none = Rw.unqF s.data.toList) := by have h := HK.out; rw [unqK_last hlt A2.out l1] at h; exact h
                    have l3 : ¬ i + 3 < s.size := by omega
                    go_wp2
                    go_ret3
                    exact ⟨by unfold unqAns; rw [← HR.out]; rfl, hbel⟩
                · have t2 : ((s[i].toNat : Int) != 92) = true := by rw [bne_iff_ne]; omega
                  have HR : Hid (Rw.unqK s.data.toList g (i + 1) (acc ++ [s[i]]) = Rw.unqF s.data.toList) := by have h := HK.out; rw [unqK_plain hlt (by omega) a1 a2] at h; exact h
                  clear a1 a2 b1 b2 hc8
                  go_wp2_with (at_builtin; refine wpList_append_b rfl _ _ rfl w.heap.size _ acc rfl (hown.alloc _) ⟨wr.heap.size, 0, none⟩ 1 1 [s[i]] rfl rfl (new_b _ _ _ _ ?c1) ?c2 ?c3 ?_)
                  case c1 => rfl
                  case c2 => omega
                  case c3 => have := hbel.size; simp; omega
                  intro v' w2 hown1 hg
                  have hbel1 := below_app hbel hown (Nat.le_refl _) hbel.size hg
                  clear hg hown hbel
                  go_wp2
                  go_roundw
                  case rel => exact ⟨i + 1, g, acc ++ [s[i]], by go_num, hown1, HR.out, by omega, by omega, by simp; omega, hbel1⟩
                  case measure => simp [intOf]; omega
        · have HR : Hid (none = Rw.unqF s.data.toList) := by have h := HK.out; rw [unq_none (atF_out s i hlt)] at h; exact h
          go_wp2
          go_ret3
          exact ⟨by unfold unqAns; rw [← HR.out]; rfl, hbel⟩
    · have t1 : ((s[0].toNat : Int) != 34) = true := by rw [bne_iff_ne]; omega
      have HR : Hid (none = Rw.unqF s.data.toList) := by
        unfold Hid Rw.unqF; rw [if_neg]
        rw [atF_at s 0 hpos]
        split
        · intro e; exact hq (congrArg UInt8.toNat (Option.some.inj e))
        · intro e; cases e
      have hbel := Below.refl w.heap.size w
      clear hq hz
      go_enter Try.func28, Try.ntmps28
      go_wp2
      go_ret3
      exact ⟨by unfold unqAns; rw [← HR.out]; rfl, hbel⟩
end Go.Proofs.Ytioddambldnfnaa
