
/-
  Book: the kind Keys: as it was?
-/
import Derived.Test.YtkeggcfnoonakaaGreatBkKeys
import Derived.Test.YtkeggcfnoonakaaGreatBkAt
set_option linter.unusedSimpArgs false
set_option linter.unusedVariables false
namespace Go.Proofs.YtkeggcfnoonakaaGreat
open Go.RowKit

set_option maxHeartbeats 100000 in
theorem still_Keys {w : World} {bk B : Nat} {vo vw : Value} {S Sw : List (Sl × List KV)} (h : Kd eKV eSl w bk 6 B vo vw S Sw) (hS : S.length ≤ 1000) (hl : ∀ i (hi : i < S.length), S[i].2.length ≤ 100000) :
    Calls Tryz.prog 31 #[.pointer (some ⟨bk, 0, none⟩)] w fun e w' => e = .returned (.bool true) ∧ ∃ a, w' = w.drewN a := by
  obtain ⟨ao, co, rfl⟩ := h.l.form
  obtain ⟨aw, cw, rfl⟩ := h.lw.form
  have hlen : Sw.length = S.length := by have := congrArg List.length h.same; simpa using this
  obtain ⟨n, hn⟩ : ∃ n, n = S.length := ⟨_, rfl⟩
  rw [hlen, ← hn] at h
  have H := Lib.hid h
  have HN := Lib.hid (And.intro hn hlen)
  have HL := Lib.hid hl
  have c0 := h.c0
  have c1 := h.c1
  rw [← hn] at hS
  clear h hn hlen hl
  go_enter Tryz.func31, Tryz.ntmps31
  go_wp2
  go_loopw [3] (fun iv wr => ∃ i : Nat, i ≤ n ∧ iv = .int .i64 (i : Int) ∧ ∃ a, wr = w.drewN a) (fun iv _ => n - (intOf iv).toNat)
  case atStart => exact ⟨0, by omega, rfl, 0, rfl⟩
  case round =>
    obtain ⟨i, hi, rfl, a, rfl⟩ := hrel
    by_cases hlt : i < n
    · have hi1 : i < S.length := by have := HN.out.1; omega
      have hi2 : i < Sw.length := by have := HN.out.2; omega
      obtain ⟨g, sa, sc, rfl, d1, s1⟩ := H.out.l.at_ hi1
      obtain ⟨g2, sa2, sc2, rfl, d2, s2⟩ := H.out.lw.at_ hi2
      have hsm : Sw[i].2 = S[i].2 := by
        have h1 := congrArg (fun l => l[i]?) H.out.same
        simp only [List.getElem?_map, List.getElem?_eq_getElem hi1, List.getElem?_eq_getElem hi2, Option.map_some, Option.some.injEq] at h1
        exact h1
      have hc : RdK w (.slice sa S[i].2.length sc) S[i].2 := by rw [← s1]; exact rdK_own (H.out.l.each i hi1)
      have hc2 : RdK w (.slice sa2 Sw[i].2.length sc2) S[i].2 := by rw [← s2, ← hsm]; exact rdK_own (H.out.lw.each i hi2)
      have hll := HL.out i hi1
      obtain ⟨m, hm⟩ : ∃ m, S[i].2.length = m := ⟨_, rfl⟩
      obtain ⟨l, hll2⟩ : ∃ l, S[i].2 = l := ⟨_, rfl⟩
      rw [hsm] at d2 hc2
      rw [hll2] at d1 d2 hc hc2 hll
      have HC := Lib.hid (And.intro hc hc2)
      have r1 : (i : Int) < (n : Int) := by omega
      clear hc hc2 s1 s2 hm hsm hll2
      go_wp2
      go_quiet ((go_at_call 12; exact quiet_add (same_Keys (HC.out.1.drewN _) (HC.out.2.drewN _) hll)))
      go_wp2
      go_roundw
      case rel => exact ⟨i + 1, by omega, by go_num, _, rfl⟩
      case measure => simp [intOf]; omega
    · obtain rfl : i = n := by omega
      go_wp2
      go_ret
      exact ⟨rfl, _, rfl⟩
end Go.Proofs.YtkeggcfnoonakaaGreat
