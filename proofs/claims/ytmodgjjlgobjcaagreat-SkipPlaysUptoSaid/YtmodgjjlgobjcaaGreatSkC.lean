/-
  A pair more in a skip list: what the lanes are, while it is hung in.
-/
import Derived.Test.YtmodgjjlgobjcaaGreatSkB
namespace Go.Proofs.YtmodgjjlgobjcaaGreat
open Go.RowKit

/-- The list L, and beside it the pair x, that is hung into the lanes below c behind the places of f. -/
structure Mid (w : World) (sb : Nat) (L : List Nd) (fr : Bool) (x : Nd) (f : Nat → Nat) (c : Nat) : Prop where
  lane : ∀ h p, h < 12 → p ≤ L.length → inLane L h p → w.cell? ⟨blk sb L p, 3 + h, none⟩ = some (if h < c ∧ p = f h then .pointer (some ⟨x.b, 0, none⟩) else ptr (nxt (L.drop p) h))
  off : ∀ i (hi : i < L.length) h, h < 12 → L[i].h ≤ h → w.cell? ⟨L[i].b, 3 + h, none⟩ = some (.pointer none)
  mine : ∀ h, h < 12 → w.cell? ⟨x.b, 3 + h, none⟩ = some (if h < c then ptr (nxt (L.drop (f h)) h) else .pointer none)
  cnt : w.cell? ⟨sb, 15, none⟩ = some (.int .i64 (L.length : Int))
  byt : w.cell? ⟨sb, 16, none⟩ = some (.int .i64 (bytesOf L : Int))
  frz : w.cell? ⟨sb, 17, none⟩ = some (.bool fr)
  fz : ∀ j, w.frozen? ⟨sb, j, none⟩ = false
  node : ∀ i (hi : i < L.length), NdAt w L[i]
  xn : NdAt w x
  pl : PlainB w sb ∧ (∀ n ∈ L, PlainB w n.b) ∧ PlainB w x.b

theorem blk_mem (sb : Nat) (L : List Nd) {p : Nat} (hp : p ≤ L.length) : blk sb L p = sb ∨ ∃ n ∈ L, blk sb L p = n.b := by
  cases p with
  | zero => exact Or.inl rfl
  | succ q => exact Or.inr ⟨L[q]'(by omega), List.getElem_mem _, by rw [blk_succ (List.getElem?_eq_getElem (by omega))]⟩
theorem blk_inj {sb : Nat} {L : List Nd} (hn : (sb :: L.map (·.b)).Nodup) {p q : Nat} (hp : p ≤ L.length) (hq : q ≤ L.length) (e : blk sb L p = blk sb L q) : p = q := by
  rw [← pIdx_blk hn hp, ← pIdx_blk hn hq, e]

/-- At the start nothing is hung in. -/
theorem SkAt.mid {w : World} {sb : Nat} {L : List Nd} {fr : Bool} (s : SkAt w sb L fr) (x : Nd) (hx : NdAt w x) (hm : ∀ h, h < 12 → w.cell? ⟨x.b, 3 + h, none⟩ = some (.pointer none)) (hpl : PlainB w x.b) (f : Nat → Nat) : Mid w sb L fr x f 0 := by
  refine ⟨fun h p hh _ hp => ?_, fun i hi h hh hle => ?_, fun h hh => ?_, s.cnt, s.byt, s.frz, s.fz, s.node, hx, s.pl.1, s.pl.2, hpl⟩
  · rw [if_neg (by omega)]; exact s.next hh hp
  · have := s.lane i hi h hh; rwa [if_neg (by omega)] at this
  · rw [if_neg (by omega)]; exact hm h hh

theorem inj_off {a b i j : Nat} (h : (⟨a, i, none⟩ : Addr) = ⟨b, j, none⟩) : a = b ∧ i = j := by injection h with h1 h2; exact ⟨h1, h2⟩

/-- One lane more. -/
theorem Mid.step {w : World} {sb : Nat} {L : List Nd} {fr : Bool} {x : Nd} {f : Nat → Nat} {c : Nat} (m : Mid w sb L fr x f c) (hn : (sb :: L.map (·.b)).Nodup) (hx : x.b ≠ sb ∧ ∀ n ∈ L, n.b ≠ x.b) (hc : c < 12) (hp : inLane L c (f c)) (hpl : f c ≤ L.length) :
    Mid ((w.setCell ⟨x.b, 3 + c, none⟩ (ptr (nxt (L.drop (f c)) c))).setCell ⟨blk sb L (f c), 3 + c, none⟩ (.pointer (some ⟨x.b, 0, none⟩))) sb L fr x f (c + 1) := by
  have hbx : ∀ p, p ≤ L.length → blk sb L p ≠ x.b := by
    intro p hp e
    rcases blk_mem sb L hp with h | ⟨n, hn, h⟩
    · exact hx.1 (e.symm.trans h)
    · exact hx.2 n hn (h.symm.trans e)
  have w1 : ∀ b j, (b ≠ x.b ∨ j ≠ 3 + c) → (w.setCell ⟨x.b, 3 + c, none⟩ (ptr (nxt (L.drop (f c)) c))).cell? ⟨b, j, none⟩ = w.cell? ⟨b, j, none⟩ := fun b j h =>
    World.cell?_setCell_other _ _ _ _ (fun e => by have := inj_off e; rcases h with h | h <;> simp_all)
  have w2 : ∀ (W : World) b j, (b ≠ blk sb L (f c) ∨ j ≠ 3 + c) → (W.setCell ⟨blk sb L (f c), 3 + c, none⟩ (.pointer (some ⟨x.b, 0, none⟩))).cell? ⟨b, j, none⟩ = W.cell? ⟨b, j, none⟩ := fun W b j h =>
    World.cell?_setCell_other _ _ _ _ (fun e => by have := inj_off e; rcases h with h | h <;> simp_all)
  have low : ∀ b j, j < 3 ∨ 15 ≤ j → ((w.setCell ⟨x.b, 3 + c, none⟩ (ptr (nxt (L.drop (f c)) c))).setCell ⟨blk sb L (f c), 3 + c, none⟩ (.pointer (some ⟨x.b, 0, none⟩))).cell? ⟨b, j, none⟩ = w.cell? ⟨b, j, none⟩ := fun b j h => by
    rw [w2 _ _ _ (Or.inr (by omega)), w1 _ _ (Or.inr (by omega))]
  have frz : ∀ a, ((w.setCell ⟨x.b, 3 + c, none⟩ (ptr (nxt (L.drop (f c)) c))).setCell ⟨blk sb L (f c), 3 + c, none⟩ (.pointer (some ⟨x.b, 0, none⟩))).frozen? a = w.frozen? a := fun a => by rw [World.frozen?_setCell, World.frozen?_setCell]
  refine ⟨fun h p hh hpl2 hin => ?_, fun i hi h hh hle => ?_, fun h hh => ?_, ?_, ?_, ?_, fun j => by rw [frz]; exact m.fz j, fun i hi => ?_, ?_, (m.pl.1.setCell _ _).setCell _ _, fun n hn => ((m.pl.2.1 n hn).setCell _ _).setCell _ _, (m.pl.2.2.setCell _ _).setCell _ _⟩
  · by_cases e : h = c ∧ p = f c
    · obtain ⟨rfl, rfl⟩ := e
      rw [World.cell?_setCell_same _ _ _ (show _ = some _ from (w1 _ _ (Or.inl (hbx _ hpl2))).trans (m.lane _ _ hh hpl2 hin)), if_pos ⟨by omega, rfl⟩]
    · have hne : blk sb L p ≠ blk sb L (f c) ∨ 3 + h ≠ 3 + c := by
        by_cases e2 : h = c
        · exact Or.inl (fun e3 => e ⟨e2, blk_inj hn hpl2 hpl e3⟩)
        · exact Or.inr (by omega)
      rw [w2 _ _ _ hne, w1 _ _ (Or.inl (hbx p hpl2)), m.lane h p hh hpl2 hin]
      by_cases e2 : h < c ∧ p = f h
      · rw [if_pos e2, if_pos ⟨by omega, e2.2⟩]
      · rw [if_neg e2, if_neg]
        rintro ⟨h1, h2⟩
        by_cases e3 : h = c
        · exact e ⟨e3, e3 ▸ h2⟩
        · exact e2 ⟨by omega, h2⟩
  · have hne : L[i].b ≠ blk sb L (f c) ∨ 3 + h ≠ 3 + c := by
      by_cases e2 : h = c
      · left
        intro e3
        have h4 : blk sb L (i + 1) = L[i].b := blk_succ (List.getElem?_eq_getElem hi)
        have h5 : i + 1 = f c := blk_inj hn (by omega) hpl (h4.trans e3)
        rcases hp with h6 | ⟨n, hn6, _, h7⟩
        · omega
        · rw [← h5, Nat.add_sub_cancel, List.getElem?_eq_getElem hi] at hn6
          injection hn6 with hn6
          rw [hn6] at hle
          omega
      · exact Or.inr (by omega)
    rw [w2 _ _ _ hne, w1 _ _ (Or.inl (hx.2 _ (List.getElem_mem hi)))]
    exact m.off i hi h hh hle
  · rw [w2 _ _ _ (Or.inl (hbx _ hpl).symm)]
    by_cases e : h = c
    · subst e
      rw [World.cell?_setCell_same _ _ _ (m.mine h hh), if_pos (by omega)]
    · rw [w1 _ _ (Or.inr (by omega)), m.mine h hh]
      by_cases h2 : h < c
      · rw [if_pos h2, if_pos (by omega)]
      · rw [if_neg h2, if_neg (by omega)]
  · rw [low _ _ (Or.inr (by omega))]; exact m.cnt
  · rw [low _ _ (Or.inr (by omega))]; exact m.byt
  · rw [low _ _ (Or.inr (by omega))]; exact m.frz
  · have := m.node i hi
    exact ⟨by rw [low _ _ (Or.inl (by omega))]; exact this.c0, by rw [low _ _ (Or.inl (by omega))]; exact this.c1, by rw [low _ _ (Or.inl (by omega))]; exact this.c2, fun j => by rw [frz]; exact this.fz j⟩
  · have := m.xn
    exact ⟨by rw [low _ _ (Or.inl (by omega))]; exact this.c0, by rw [low _ _ (Or.inl (by omega))]; exact this.c1, by rw [low _ _ (Or.inl (by omega))]; exact this.c2, fun j => by rw [frz]; exact this.fz j⟩
end Go.Proofs.YtmodgjjlgobjcaaGreat
