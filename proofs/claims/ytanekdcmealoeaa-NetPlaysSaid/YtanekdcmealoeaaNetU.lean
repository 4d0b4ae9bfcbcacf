/-
  NetCounts answers true.
-/
import Derived.Test.YtanekdcmealoeaaOpenOps
import Derived.Deep.RegionHeld3
namespace Go.Proofs.Ytanekdcmealoeaa
open Go.RowKit Go.Maps

theorem lose_plain (s : St) (h : s.lost ≤ 300) : s.lose = { s with lost := s.lost + 1 } := by rw [St.lose, if_pos (by omega)]

theorem NAt.drew {B : Nat} {w : World} {nb c : Nat} {s : St} (h : NAt B w nb c s) : NAt B w.drew nb c s := h.same ((Below.refl _ _).drew)

/-- The count of a net's state. -/
def Cnt (s : St) (i : Nat) (sent came : Int) : Prop := sent = came + s.l.length + s.lost ∧ 0 ≤ came ∧ came ≤ i ∧ 0 ≤ s.lost ∧ s.lost ≤ i ∧ sent ≤ i

theorem cnt_open {s : St} {i : Nat} {sent came : Int} (h : Cnt s i sent came) : ∃ (n : Nat) (x : Int), s.l.length = n ∧ s.lost = x ∧ sent = came + (n : Int) + x ∧ (n : Int) ≤ i ∧ 0 ≤ came ∧ came ≤ i ∧ 0 ≤ x ∧ x ≤ i ∧ sent ≤ i :=
  ⟨_, _, rfl, rfl, h.1, by obtain ⟨h1, h2, h3, h4, h5, h6⟩ := h; omega, h.2⟩

theorem cnt_same {s : St} {i : Nat} {sent came : Int} (h : Cnt s i sent came) : Cnt s (i + 1) sent came := by
  obtain ⟨h1, h2, h3, h4, h5, h6⟩ := h
  exact ⟨h1, h2, by omega, h4, by omega, by omega⟩

theorem cnt_send {s : St} {i : Nat} {sent came : Int} (h : Cnt s i sent came) (hi : i ≤ 300) (a b : Int) (d : ByteArray) (h0 : s.sendE a b d = 0) : Cnt (s.send a b d) (i + 1) (sent + 1) came := by
  obtain ⟨h1, h2, h3, h4, h5, h6⟩ := h
  unfold St.sendE at h0
  unfold St.send
  by_cases hw : s.way a b = false
  · rw [if_pos hw] at h0; omega
  · rw [if_neg hw] at h0 ⊢
    by_cases hd : 65536 < d.size
    · rw [if_pos hd] at h0; omega
    · rw [if_neg hd]
      split
      · rw [lose_plain s (by omega)]
        refine ⟨?_, h2, ?_, ?_, ?_, ?_⟩ <;> (try simp only []) <;> omega
      · refine ⟨?_, h2, ?_, ?_, ?_, ?_⟩ <;> (try simp only [St.add, List.length_append, List.length_cons, List.length_nil]) <;> omega

theorem cnt_nosend {s : St} (a b : Int) (d : ByteArray) (h0 : s.sendE a b d ≠ 0) : s.send a b d = s := by
  unfold St.sendE at h0
  unfold St.send
  by_cases hw : s.way a b = false
  · rw [if_pos hw]
  · rw [if_neg hw] at h0 ⊢
    by_cases hd : 65536 < d.size
    · rw [if_pos hd]
    · rw [if_neg hd] at h0; omega

theorem cnt_take {s : St} {k : Nat} (hk : k < s.l.length) : (s.take k).l.length = s.l.length - 1 := by simp [St.take, List.length_eraseIdx, hk]

theorem cnt_deliver {s : St} {i : Nat} {sent came : Int} (h : Cnt s i sent came) (j : Int) (h0 : s.has j = true) : s.askE j = 0 ∧ Cnt (s.deliver j) (i + 1) sent (came + 1) := by
  obtain ⟨k, rfl, hk⟩ := St.has_true h0
  obtain ⟨h1, h2, h3, h4, h5, h6⟩ := h
  have := cnt_take hk
  refine ⟨by rw [St.askE, if_pos h0], ?_⟩
  rw [St.deliver, if_pos h0]
  rw [Int.toNat_natCast]
  refine ⟨?_, ?_, ?_, h4, ?_, ?_⟩
  · rw [this]; show sent = _ + _ + s.lost; omega
  all_goals (try show s.lost ≤ _); omega
theorem cnt_nodeliver {s : St} (j : Int) (h0 : s.has j = false) : s.askE j = 5 ∧ s.deliver j = s := by simp [St.askE, St.deliver, h0]

theorem cnt_drop {s : St} {i : Nat} {sent came : Int} (h : Cnt s i sent came) (hi : i ≤ 300) (j : Int) : Cnt (s.drop j) (i + 1) sent came := by
  cases h0 : s.has j with
  | false => rw [St.drop, h0]; exact cnt_same h
  | true =>
    obtain ⟨k, rfl, hk⟩ := St.has_true h0
    obtain ⟨h1, h2, h3, h4, h5, h6⟩ := h
    have := cnt_take hk
    have hl : (s.take k).lost = s.lost := rfl
    rw [St.drop, if_pos h0, Int.toNat_natCast, lose_plain _ (by rw [hl]; omega)]
    refine ⟨?_, h2, ?_, ?_, ?_, ?_⟩ <;> (try simp only []) <;> omega

theorem cnt_twice {s : St} {i : Nat} {sent came : Int} (h : Cnt s i sent came) (j : Int) :
    (s.twiceE j = 0 ∧ Cnt (s.twice j) (i + 1) (sent + 1) came) ∨ ((s.twiceE j = 5 ∨ s.twiceE j = 24) ∧ Cnt (s.twice j) (i + 1) sent came) := by
  unfold St.twiceE St.twice
  cases h0 : s.has j with
  | false => exact Or.inr ⟨Or.inl rfl, cnt_same h⟩
  | true =>
    by_cases hr : s.l.length < 400
    · left
      obtain ⟨h1, h2, h3, h4, h5, h6⟩ := h
      rw [if_pos rfl, if_pos hr, if_pos rfl, if_pos hr]
      refine ⟨rfl, ?_⟩
      refine ⟨?_, h2, ?_, ?_, ?_, ?_⟩ <;> (try simp only [St.add, List.length_append, List.length_cons, List.length_nil]) <;> omega
    · right
      rw [if_pos rfl, if_neg hr, if_pos rfl, if_neg hr]
      exact ⟨Or.inr rfl, cnt_same h⟩

theorem cnt_cuts {s : St} {i : Nat} {sent came : Int} (h : Cnt s i sent came) (a b : Int) (x : Bool) : Cnt (s.cuts a b x) (i + 1) sent came := by
  unfold St.cuts
  split
  · exact cnt_same (s := s) h
  · exact cnt_same h
end Go.Proofs.Ytanekdcmealoeaa
