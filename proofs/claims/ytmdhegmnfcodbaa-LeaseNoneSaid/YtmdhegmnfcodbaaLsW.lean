/-
  LeaseNone: its walk.
-/
import Derived.Test.YtmdhegmnfcodbaaLsV
namespace Go.Proofs.Ytmdhegmnfcodbaa
open Go.RowKit
variable {w w' w0 w1 w2 w3 w4 : World} {mb lb B : Nat} {ob : Option Nat} {m : Lm} {last now : Int}

set_option maxRecDepth 100000 in
set_option maxHeartbeats 4000000 in
theorem none_walk (va : Option Addr) (vn vc : Nat) (z : List Int) (s : ByteArray) (n : Int) {W : World} (_ : IntsAt W va vn z) (_ : vn ≤ maxLen) (hs0 : s.size ≤ maxLen) (_ : (Lit.int IntKind.i64 n).wf = true) (w : World) (hW : W = w) :
    Calls Try.prog 5 #[.slice va vn vc, .string s, .int .i64 n] w fun e w' => e = .returned (.bool true) ∧ Below w.heap.size w w' := by
  subst hW
  have hs : s.size ≤ 9223372036854775807 := hs0
  clear hs0
  go_enter Try.func5, Try.ntmps5
  go_wp2_with (first
    | (go_at_call 9; with_reducible refine (nil_get n _).mono ?_; rintro e w2 ⟨rfl, hb2⟩
       have hb3 : ∀ o, Below W.heap.size W (w2.alloc o) := fun o => hb2.alloc hb2.size o
       have H2 := Lib.hid hb3; clear hb2 hb3)
    | (go_at_call 8; with_reducible refine (nil_acquire _ va vn vc rfl n n _).mono ?_; rintro e w1 ⟨rfl, hw1⟩; obtain rfl := hw1.symm))
  refine (load_any s _ hs).mono ?_
  rintro e w3 ⟨hle, hb3⟩
  have hbw : Below W.heap.size W w3 := (H2.out _).trans (hb3.mono (H2.out _).size)
  have H3 := Lib.hid hbw
  clear hb3 hbw
  by_cases hbig : 9000 < s.size
  · have t1 : (9000 : Int) < (s.size : Int) := by omega
    rcases hle with rfl | ⟨lb, mb, m, last, rfl, _⟩
    · go_wp2_with (go_at_call 6; refine (alive_any _).mono ?_; rintro e v1 ⟨rfl, b2⟩)
      go_ret
      exact ⟨rfl, H3.out.trans (b2.mono H3.out.size)⟩
    · go_wp2_with (go_at_call 6; refine (alive_any _).mono ?_; rintro e v1 ⟨rfl, b2⟩)
      go_ret
      exact ⟨rfl, H3.out.trans (b2.mono H3.out.size)⟩
  have t1 : ¬ (9000 : Int) < (s.size : Int) := by omega
  rcases hle with rfl | ⟨lb, mb, m, last, rfl, hls, hl1, hti, heq⟩
  · go_wp2_with (first
      | (go_at_call 17; with_reducible refine (nil_put _).mono ?_; rintro e y9 ⟨rfl, hy9⟩; obtain rfl := hy9.symm)
      | (go_at_call 11; with_reducible refine (nil_meet _).mono ?_; rintro e y8 ⟨rfl, hy8⟩; obtain rfl := hy8.symm)
      | (go_at_call 18; with_reducible refine (nil_list _).mono ?_; rintro e y7 ⟨rfl, hy7⟩; obtain rfl := hy7.symm)
      | (go_at_call 10; with_reducible refine (nil_expire n _).mono ?_; rintro e y6 ⟨rfl, hy6⟩; obtain rfl := hy6.symm)
      | (go_at_call 14; with_reducible refine (nil_release n n _).mono ?_; rintro e y5 ⟨rfl, hy5⟩; obtain rfl := hy5.symm)
      | (go_at_call 13; with_reducible refine (nil_renew n n n _).mono ?_; rintro e y4 ⟨rfl, hy4⟩; obtain rfl := hy4.symm)
      | (go_at_call 6; refine (alive_any _).mono ?_; rintro e y3 ⟨rfl, hb4⟩; have H4 := Lib.hid (H3.out.trans (hb4.mono H3.out.size)); clear hb4))
    go_ret
    exact ⟨rfl, H4.out⟩
  · have hP := put_any2 hls hl1 hti
    have hse : (⟨(putS last ((sortM m).map core)).toArray⟩ : ByteArray) = s := by
      rw [← heq]
    rw [hse] at hP
    have hne : (!(s.toList == s.toList)) = false := by simp
    have hnn : ∀ w, (binOp .neq 9 (.string s) (.string s)).run Try.prog w = .ok (.bool false) w := fun w => by simp [go_sem]
    clear hls hl1 hti heq hse
    go_wp2_with (first
      | (go_at_call 17; with_reducible refine (nil_put _).mono ?_; rintro e y9 ⟨rfl, hy9⟩; obtain rfl := hy9.symm)
      | (go_at_call 11; with_reducible refine (nil_meet _).mono ?_; rintro e y8 ⟨rfl, hy8⟩; obtain rfl := hy8.symm)
      | (go_at_call 18; with_reducible refine (nil_list _).mono ?_; rintro e y7 ⟨rfl, hy7⟩; obtain rfl := hy7.symm)
      | (go_at_call 10; with_reducible refine (nil_expire n _).mono ?_; rintro e y6 ⟨rfl, hy6⟩; obtain rfl := hy6.symm)
      | (go_at_call 14; with_reducible refine (nil_release n n _).mono ?_; rintro e y5 ⟨rfl, hy5⟩; obtain rfl := hy5.symm)
      | (go_at_call 13; with_reducible refine (nil_renew n n n _).mono ?_; rintro e y4 ⟨rfl, hy4⟩; obtain rfl := hy4.symm)
      | (go_at_call 6; refine (alive_any _).mono ?_; rintro e y3 ⟨rfl, hb4⟩; have H4 := Lib.hid (H3.out.trans (hb4.mono H3.out.size)); clear hb4)
      | (go_at_call 17; go_loud (with_reducible refine hP.mono ?_); rintro e v5 ⟨rfl, hb5⟩; have H3 := Lib.hid (H3.out.trans (hb5.mono H3.out.size)); clear hb5))
    go_ret
    exact ⟨rfl, H4.out⟩
end Go.Proofs.Ytmdhegmnfcodbaa
