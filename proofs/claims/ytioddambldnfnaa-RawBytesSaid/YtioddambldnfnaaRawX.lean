/-
  The walk of raw.unquote.
-/
import Derived.Test.YtioddambldnfnaaRawW
namespace Go.Proofs.Ytioddambldnfnaa
open Go.RowKit

/-- How unquote ends. -/
def UnqEnd (l : List UInt8) (w : World) (e : Ending) (w' : World) : Prop :=
  Below w.heap.size w w' ∧ ((∃ b n, Rw.unqF l = some (b, n) ∧ e = .returned (.tuple #[.string ⟨b.toArray⟩, .int .i64 (n : Int)])) ∨ (Rw.unqF l = none ∧ e = formPanic))

theorem or_nib (h k : Nat) (hh : h < 16) (hk : k < 16) : bits .or .u8 ((h : Int) * 16) (k : Int) = (((UInt8.ofNat (16 * h + k)).toNat : Nat) : Int) := by
  have e := (bits_nat .u8 8 (by decide) (fun n h0 h1 => by rw [IntKind.wrap_u8]; omega) (16 * h) k (by omega) (by omega)).2
  have hor := Nat.two_pow_add_eq_or_of_lt (i := 4) (b := k) (by omega) h
  rw [show 2 ^ 4 * h = 16 * h from rfl] at hor
  rw [show (h : Int) * 16 = ((16 * h : Nat) : Int) from by omega, e, ← hor, UInt8.toNat_ofNat', Nat.mod_eq_of_lt (show 16 * h + k < 2 ^ 8 by omega)]

theorem unq_none {l : List UInt8} {f i : Nat} {acc : List UInt8} (h : Rw.atF l i = none) : Rw.unqK l f i acc = none := by
  cases f with
  | zero => rfl
  | succ f => rw [Rw.unqK, h]

theorem atF_lt {l : List UInt8} {i : Nat} {c : UInt8} (h : Rw.atF l i = some c) : i < l.length := by
  rcases Nat.lt_or_ge i l.length with h1 | h1
  · exact h1
  · unfold Rw.atF at h; rw [List.getElem?_eq_none h1] at h; cases h

set_option maxRecDepth 100000 in
set_option maxHeartbeats 2000000 in
theorem unquote_in (s : ByteArray) (w : World) (hs : s.size ≤ 140737488351232) :
    Calls Try.prog 37 #[.string s] w (UnqEnd s.data.toList w) := by
  have hmf : ∀ (fn : Fn) (first cap : Array Value) (w : World), (Instr.makeFunc fn first cap).run Try.prog w = .ok (.func fn first cap) w := fun _ _ _ _ => rfl
  obtain ⟨w1, hw1⟩ : ∃ w1, w1 = w.alloc (.cells #[.string s] 9) := ⟨_, rfl⟩
  have hc1 : w1.cell? ⟨w.heap.size, 0, none⟩ = some (.string s) := by rw [hw1, World.cell?_alloc_mark]; rfl
  have hz1 : w1.heap.size = w.heap.size + 1 := by rw [hw1]; simp
  have b01 : Below w.heap.size w w1 := by rw [hw1]; exact (Below.refl _ _).alloc (Nat.le_refl _) _
  have hfin : ∀ wr : World, Below (w.heap.size + 1) w1 wr → Below w.heap.size w wr := fun _ h => b01.trans (h.mono (Nat.le_succ _))
  have HW1 := Lib.hid hw1
  have HZ1 := Lib.hid hz1
  have HC1 := Lib.hid hc1
  have HFIN := Lib.hid hfin
  clear hw1 hz1 b01 hc1 hfin
  go_enter Try.func37, Try.ntmps37
  go_wp2_with fail
  rw [← HW1.out]
  by_cases h0 : Rw.atF s.data.toList 0 = some 34
  · have HU : Hid (Rw.unqF s.data.toList = Rw.unqK s.data.toList s.data.toList.length 1 []) := by unfold Hid Rw.unqF; rw [if_pos h0]
    have H0 := Lib.hid h0
    clear h0
    refine (at_ok s 0 0 w.heap.size 34 w1 rfl HC1.out H0.out).mono ?_
    rintro e w2 ⟨rfl, rfl⟩
    go_wp2
    go_loopw [5, 6] (fun x y wr => ∃ (i f : Nat) (acc : List UInt8), y = .int .i64 (i : Int) ∧ OwnB wr (w.heap.size + 1) x acc ∧ Rw.unqK s.data.toList f i acc = Rw.unqF s.data.toList ∧ s.size + 1 ≤ f + i ∧ i ≤ s.size + 1 ∧ acc.length ≤ i ∧ Below (w.heap.size + 1) w1 wr)
      (fun _ y _ => s.size + 1 - (intOf y).toNat)
    case atStart => exact ⟨1, s.data.toList.length, [], rfl, OwnB.nil _ _, HU.out.symm, by simp, by omega, by simp, Below.refl _ _⟩
    case round =>
      obtain ⟨i, f, acc, rfl, hown, hk, hf, hi, hacc, hbel⟩ := hrel
      have HK := Lib.hid hk
      have hcell : wr.cell? ⟨w.heap.size, 0, none⟩ = some (.string s) := (hbel.cell (p := ⟨w.heap.size, 0, none⟩) (Nat.lt_succ_self _)).trans HC1.out
      have HCELL := Lib.hid hcell
      clear hk hcell
      cases ha : Rw.atF s.data.toList i with
      | none =>
        have HR : Hid (none = Rw.unqF s.data.toList) := by have := HK.out; rw [unq_none ha] at this; exact this
        have HA := Lib.hid ha
        clear ha
        go_wp2_with fail
        refine (at_no s _ i _ _ rfl HCELL.out HA.out).mono ?_
        rintro e w2 ⟨rfl, rfl⟩
        go_wp2
        exact ⟨rfl, HFIN.out _ hbel, Or.inr ⟨HR.out.symm, rfl⟩⟩
      | some c =>
        have hil := atF_lt ha
        have hil2 : i < s.size := by simpa using hil
        obtain ⟨g, rfl⟩ : ∃ g, f = g + 1 := ⟨f - 1, by omega⟩
        have hk2 := HK.out
        rw [Rw.unqK, ha] at hk2
        have HK2 := Lib.hid hk2
        have HA := Lib.hid ha
        clear hk2 ha hil
        go_wp2_with fail
        refine (at_ok s _ i _ c _ rfl HCELL.out HA.out).mono ?_
        rintro e w2 ⟨rfl, rfl⟩
        by_cases a1 : c.toNat = 34
        · have t1 : ((c.toNat : Int) == 34) = true := by rw [beq_iff_eq]; omega
          have HR : Hid (some (acc, i + 1) = Rw.unqF s.data.toList) := by have h := HK2.out; rw [if_pos (UInt8.toNat.inj a1)] at h; exact h
          have hstr := hown.str
          clear a1
          go_wp2
          go_ret2
          exact ⟨HFIN.out _ hbel, Or.inl ⟨acc, i + 1, HR.out.symm, rfl⟩⟩
        · have t1 : ((c.toNat : Int) == 34) = false := by rw [beq_eq_false_iff_ne]; omega
          have HN1 : Hid (¬ c = 34) := fun e => a1 (congrArg UInt8.toNat e)
          clear a1
          by_cases a2 : c.toNat = 92
          · have t2 : ((c.toNat : Int) == 92) = true := by rw [beq_iff_eq]; omega
            have hk3 := HK2.out
            rw [if_neg HN1.out, if_pos (UInt8.toNat.inj a2)] at hk3
            clear a2
            cases hb : Rw.atF s.data.toList (i + 1) with
            | none =>
              have HR : Hid (none = Rw.unqF s.data.toList) := by rw [hb] at hk3; exact hk3
              have HB := Lib.hid hb
              clear hb hk3
              go_wp2_with fail
              refine (at_no s _ (i + 1) _ _ (by omega) HCELL.out HB.out).mono ?_
              rintro e w2 ⟨rfl, rfl⟩
              go_wp2
              exact ⟨rfl, HFIN.out _ hbel, Or.inr ⟨HR.out.symm, rfl⟩⟩
            | some d =>
              have hjl := atF_lt hb
              have hjl2 : i + 1 < s.size := by simpa using hjl
              rw [hb] at hk3
              have HK3 := Lib.hid hk3
              have HB := Lib.hid hb
              clear hb hk3 hjl
              go_wp2_with fail
              refine (at_ok s _ (i + 1) _ d _ (by omega) HCELL.out HB.out).mono ?_
              rintro e w2 ⟨rfl, rfl⟩
              by_cases b1 : d.toNat = 34
              · have u1 : ((d.toNat : Int) == 34) = true := by rw [beq_iff_eq]; omega
                have HR : Hid (Rw.unqK s.data.toList g (i + 2) (acc ++ [d]) = Rw.unqF s.data.toList) := by have h := HK3.out; rw [if_pos (Or.inl (UInt8.toNat.inj b1))] at h; exact h
                clear b1
                go_wp2_with (at_builtin; refine wpList_append_b rfl _ _ rfl (w.heap.size + 1) _ acc rfl (hown.alloc _) ⟨wr.heap.size, 0, none⟩ 1 1 [d] rfl rfl (new_b _ _ _ _ ?c1) ?c2 ?c3 ?_)
                case c1 => rfl
                case c2 => omega
                case c3 => have := hbel.size; have := HZ1.out; simp; omega
                intro v' w2 hown1 hg
                have hbel1 := below_app hbel hown (Nat.le_refl _) (by have := hbel.size; have := HZ1.out; omega) hg
                clear hg hown hbel
                go_wp2
                go_roundw
                case rel => exact ⟨i + 2, g, acc ++ [d], by go_num, hown1, HR.out, by omega, by omega, by simp; omega, hbel1⟩
                case measure => simp [intOf]; omega
              · have u1 : ((d.toNat : Int) == 34) = false := by rw [beq_eq_false_iff_ne]; omega
                by_cases b2 : d.toNat = 92
                · have u2 : ((d.toNat : Int) == 92) = true := by rw [beq_iff_eq]; omega
                  have HR : Hid (Rw.unqK s.data.toList g (i + 2) (acc ++ [d]) = Rw.unqF s.data.toList) := by have h := HK3.out; rw [if_pos (Or.inr (UInt8.toNat.inj b2))] at h; exact h
                  clear b1 b2
                  go_wp2_with (at_builtin; refine wpList_append_b rfl _ _ rfl (w.heap.size + 1) _ acc rfl (hown.alloc _) ⟨wr.heap.size, 0, none⟩ 1 1 [d] rfl rfl (new_b _ _ _ _ ?c1) ?c2 ?c3 ?_)
                  case c1 => rfl
                  case c2 => omega
                  case c3 => have := hbel.size; have := HZ1.out; simp; omega
                  intro v' w2 hown1 hg
                  have hbel1 := below_app hbel hown (Nat.le_refl _) (by have := hbel.size; have := HZ1.out; omega) hg
                  clear hg hown hbel
                  go_wp2
                  go_roundw
                  case rel => exact ⟨i + 2, g, acc ++ [d], by go_num, hown1, HR.out, by omega, by omega, by simp; omega, hbel1⟩
                  case measure => simp [intOf]; omega
                · have u2 : ((d.toNat : Int) == 92) = false := by rw [beq_eq_false_iff_ne]; omega
                  have HN2 : Hid (¬ (d = 34 ∨ d = 92)) := by
                    rintro (e | e)
                    · exact b1 (congrArg UInt8.toNat e)
                    · exact b2 (congrArg UInt8.toNat e)
                  clear b1 b2
                  by_cases b3 : d.toNat = 120
                  · have u3 : ((d.toNat : Int) == 120) = true := by rw [beq_iff_eq]; omega
                    have hk4 := HK3.out
                    rw [if_neg HN2.out, if_pos (UInt8.toNat.inj b3)] at hk4
                    clear b3
                    have HK4 := Lib.hid hk4
                    clear hk4
                    cases hx : Rw.atF s.data.toList (i + 2) with
                    | none =>
                      have HR : Hid (none = Rw.unqF s.data.toList) := by have h := HK4.out; rw [show Rw.nibAt s.data.toList (i + 2) = none from by unfold Rw.nibAt; rw [hx]; rfl] at h; exact h
                      have HX := Lib.hid hx
                      clear hx
                      go_wp2_with fail
                      refine (at_no s _ (i + 2) _ _ (by omega) HCELL.out HX.out).mono ?_
                      rintro e w2 ⟨rfl, rfl⟩
                      go_wp2
                      exact ⟨rfl, HFIN.out _ hbel, Or.inr ⟨HR.out.symm, rfl⟩⟩
                    | some x =>
                      have hxl := atF_lt hx
                      have hxl2 : i + 2 < s.size := by simpa using hxl
                      have HX := Lib.hid hx
                      clear hx hxl
                      go_wp2_with fail
                      refine (at_ok s _ (i + 2) _ x _ (by omega) HCELL.out HX.out).mono ?_
                      rintro e w2 ⟨rfl, rfl⟩
                      cases hnx : Rw.nibF x with
                      | none =>
                        have HR : Hid (none = Rw.unqF s.data.toList) := by have h := HK4.out; rw [show Rw.nibAt s.data.toList (i + 2) = none from by unfold Rw.nibAt; rw [HX.out]; exact hnx] at h; exact h
                        have HNX := Lib.hid hnx
                        clear hnx
                        go_wp2_with fail
                        refine (nib_no x _ HNX.out).mono ?_
                        rintro e w2 ⟨rfl, rfl⟩
                        go_wp2
                        exact ⟨rfl, HFIN.out _ hbel, Or.inr ⟨HR.out.symm, rfl⟩⟩
                      | some h =>
                        have hh16 := Rw.nibF_lt hnx
                        have HNX := Lib.hid hnx
                        clear hnx
                        go_wp2_with fail
                        refine (nib_ok x h _ HNX.out).mono ?_
                        rintro e w2 ⟨rfl, rfl⟩
                        cases hy : Rw.atF s.data.toList (i + 3) with
                        | none =>
                          have HR : Hid (none = Rw.unqF s.data.toList) := by have h := HK4.out; rw [show Rw.nibAt s.data.toList (i + 3) = none from by unfold Rw.nibAt; rw [hy]; rfl] at h; cases hq : Rw.nibAt s.data.toList (i + 2) <;> rw [hq] at h <;> exact h
                          have HY := Lib.hid hy
                          clear hy
                          go_wp2_with fail
                          refine (at_no s _ (i + 3) _ _ (by omega) HCELL.out HY.out).mono ?_
                          rintro e w2 ⟨rfl, rfl⟩
                          go_wp2
                          exact ⟨rfl, HFIN.out _ hbel, Or.inr ⟨HR.out.symm, rfl⟩⟩
                        | some y =>
                          have hyl := atF_lt hy
                          have hyl2 : i + 3 < s.size := by simpa using hyl
                          have HY := Lib.hid hy
                          clear hy hyl
                          go_wp2_with fail
                          refine (at_ok s _ (i + 3) _ y _ (by omega) HCELL.out HY.out).mono ?_
                          rintro e w2 ⟨rfl, rfl⟩
                          cases hny : Rw.nibF y with
                          | none =>
                            have HR : Hid (none = Rw.unqF s.data.toList) := by have h := HK4.out; rw [show Rw.nibAt s.data.toList (i + 3) = none from by unfold Rw.nibAt; rw [HY.out]; exact hny] at h; cases hq : Rw.nibAt s.data.toList (i + 2) <;> rw [hq] at h <;> exact h
                            have HNY := Lib.hid hny
                            clear hny
                            go_wp2_with fail
                            refine (nib_no y _ HNY.out).mono ?_
                            rintro e w2 ⟨rfl, rfl⟩
                            go_wp2
                            exact ⟨rfl, HFIN.out _ hbel, Or.inr ⟨HR.out.symm, rfl⟩⟩
                          | some k =>
                            have hk16 := Rw.nibF_lt hny
                            have HR : Hid (Rw.unqK s.data.toList g (i + 4) (acc ++ [UInt8.ofNat (16 * h + k)]) = Rw.unqF s.data.toList) := by
                              have hh := HK4.out
                              rw [show Rw.nibAt s.data.toList (i + 2) = some h from by unfold Rw.nibAt; rw [HX.out]; exact HNX.out, show Rw.nibAt s.data.toList (i + 3) = some k from by unfold Rw.nibAt; rw [HY.out]; exact hny] at hh
                              exact hh
                            have HNY := Lib.hid hny
                            clear hny
                            go_wp2_with fail
                            refine (nib_ok y k _ HNY.out).mono ?_
                            rintro e w2 ⟨rfl, rfl⟩
                            obtain ⟨z, hz, HZ⟩ : ∃ z : UInt8, bits .or .u8 ((h : Int) * 16) (k : Int) = (z.toNat : Int) ∧ Hid (z = UInt8.ofNat (16 * h + k)) := ⟨_, or_nib h k hh16 hk16, rfl⟩
                            have HR2 : Hid (Rw.unqK s.data.toList g (i + 4) (acc ++ [z]) = Rw.unqF s.data.toList) := by rw [HZ.out]; exact HR.out
                            go_wp2_with (at_builtin; refine wpList_append_b rfl _ _ rfl (w.heap.size + 1) _ acc rfl (hown.alloc _) ⟨wr.heap.size, 0, none⟩ 1 1 [z] rfl rfl (new_b _ _ _ _ ?c1) ?c2 ?c3 ?_)
                            case c1 => rfl
                            case c2 => omega
                            case c3 => have := hbel.size; have := HZ1.out; simp; omega
                            intro v' w2 hown1 hg
                            have hbel1 := below_app hbel hown (Nat.le_refl _) (by have := hbel.size; have := HZ1.out; omega) hg
                            clear hg hown hbel
                            go_wp2
                            go_roundw
                            case rel => exact ⟨i + 4, g, acc ++ [z], by go_num, hown1, HR2.out, by omega, by omega, by simp; omega, hbel1⟩
                            case measure => simp [intOf]; omega
                  · have u3 : ((d.toNat : Int) == 120) = false := by rw [beq_eq_false_iff_ne]; omega
                    have HR : Hid (none = Rw.unqF s.data.toList) := by have h := HK3.out; rw [if_neg HN2.out, if_neg (fun e => b3 (congrArg UInt8.toNat e))] at h; exact h
                    clear b3
                    go_wp2
                    exact ⟨rfl, HFIN.out _ hbel, Or.inr ⟨HR.out.symm, rfl⟩⟩
          · have t2 : ((c.toNat : Int) == 92) = false := by rw [beq_eq_false_iff_ne]; omega
            have HR : Hid (Rw.unqK s.data.toList g (i + 1) (acc ++ [c]) = Rw.unqF s.data.toList) := by have h := HK2.out; rw [if_neg HN1.out, if_neg (fun e => a2 (congrArg UInt8.toNat e))] at h; exact h
            clear a2
            go_wp2_with (at_builtin; refine wpList_append_b rfl _ _ rfl (w.heap.size + 1) _ acc rfl (hown.alloc _) ⟨wr.heap.size, 0, none⟩ 1 1 [c] rfl rfl (new_b _ _ _ _ ?c1) ?c2 ?c3 ?_)
            case c1 => rfl
            case c2 => omega
            case c3 => have := hbel.size; have := HZ1.out; simp; omega
            intro v' w2 hown1 hg
            have hbel1 := below_app hbel hown (Nat.le_refl _) (by have := hbel.size; have := HZ1.out; omega) hg
            clear hg hown hbel
            go_wp2
            go_roundw
            case rel => exact ⟨i + 1, g, acc ++ [c], by go_num, hown1, HR.out, by omega, by omega, by simp; omega, hbel1⟩
            case measure => simp [intOf]; omega
  · have HR : Hid (none = Rw.unqF s.data.toList) := by unfold Hid Rw.unqF; rw [if_neg h0]
    cases ha : Rw.atF s.data.toList 0 with
    | none =>
      have HA := Lib.hid ha
      clear ha h0
      refine (at_no s 0 0 w.heap.size w1 rfl HC1.out HA.out).mono ?_
      rintro e w2 ⟨rfl, rfl⟩
      go_wp2
      exact ⟨rfl, HFIN.out _ (Below.refl _ _), Or.inr ⟨HR.out.symm, rfl⟩⟩
    | some c =>
      have t1 : ((c.toNat : Int) != 34) = true := by rw [bne_iff_ne]; intro e; exact h0 (by rw [ha]; congr 1; apply UInt8.toNat.inj; have e2 : (c.toNat : Int) = 34 := e; show c.toNat = 34; omega)
      have HA := Lib.hid ha
      clear ha h0
      refine (at_ok s 0 0 w.heap.size c w1 rfl HC1.out HA.out).mono ?_
      rintro e w2 ⟨rfl, rfl⟩
      go_wp2
      exact ⟨rfl, HFIN.out _ (Below.refl _ _), Or.inr ⟨HR.out.symm, rfl⟩⟩
end Go.Proofs.Ytioddambldnfnaa
