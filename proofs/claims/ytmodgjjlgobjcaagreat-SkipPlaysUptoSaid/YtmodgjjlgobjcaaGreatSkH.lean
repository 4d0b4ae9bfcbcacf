/-
  Lanes, Last.
-/
import Derived.Test.YtmodgjjlgobjcaaGreatSkG
namespace Go.Proofs.YtmodgjjlgobjcaaGreat
open Go.RowKit

def laneN (L : List Nd) (h : Nat) : Nat := L.countP (fun n => decide (h < n.h))
def iCells (l : List Nat) : List Value := l.map fun (c : Nat) => Value.int .i64 (c : Int)
theorem row_form0 {w : World} {base : Nat} {e : TypeId} {size n : Nat} {v : Value} {xs : List Value} (h : w.ownsRow base e size v n xs) : ∃ a k cap, v = .slice a k cap := by
  obtain ⟨_, h2⟩ := h
  rcases h2 with ⟨rfl, _⟩ | ⟨g, cap, cur, rfl, _⟩
  · exact ⟨_, _, _, rfl⟩
  · exact ⟨_, _, _, rfl⟩

theorem lane_step {L : List Nd} {h p q : Nat} {n : Nd} (hpq : p ≤ q) (hq : L[q]? = some n) (hh : h < n.h) (hno : ∀ j n', p ≤ j → j < q → L[j]? = some n' → n'.h ≤ h) : laneN (L.take (q + 1)) h = laneN (L.take p) h + 1 := by
  unfold laneN
  obtain ⟨hlt, hn⟩ := List.getElem?_eq_some_iff.1 hq
  rw [List.take_succ_eq_append_getElem hlt, List.countP_append]
  have e1 : L.take q = L.take p ++ (L.drop p).take (q - p) := by
    rw [← List.take_add]
    congr 1
    omega
  rw [e1, List.countP_append]
  have e2 : ((L.drop p).take (q - p)).countP (fun n => decide (h < n.h)) = 0 := by
    rw [List.countP_eq_zero]
    intro m hm
    obtain ⟨j, hj, rfl⟩ := List.mem_iff_getElem.1 hm
    rw [List.length_take, List.length_drop] at hj
    rw [List.getElem_take, List.getElem_drop]
    have := hno (p + j) _ (by omega) (by omega) (List.getElem?_eq_getElem (by omega))
    simp
    omega
  rw [e2, hn]
  simp [hh]
theorem lane_end {L : List Nd} {h p : Nat} (hno : ∀ j n', p ≤ j → L[j]? = some n' → n'.h ≤ h) : laneN L h = laneN (L.take p) h := by
  unfold laneN
  conv => lhs; rw [← List.take_append_drop p L]
  rw [List.countP_append]
  have e2 : (L.drop p).countP (fun n => decide (h < n.h)) = 0 := by
    rw [List.countP_eq_zero]
    intro m hm
    obtain ⟨j, hj, rfl⟩ := List.mem_iff_getElem.1 hm
    rw [List.length_drop] at hj
    rw [List.getElem_drop]
    have := hno (p + j) _ (by omega) (List.getElem?_eq_getElem (by omega))
    simp
    omega
  omega

theorem info_int : (Tryz.prog.info? 3).map (fun i => (i.zero, i.size, i.bytes)) = some (some (.int .i64 0), 1, 8) := by kernel_rfl

set_option maxRecDepth 100000 in
set_option maxHeartbeats 400000 in
theorem lanes_any {w : World} {sb : Nat} {L : List Nd} {fr : Bool} (s : SkAt w sb L fr) :
    Calls Tryz.prog 21 #[.pointer (some ⟨sb, 0, none⟩)] w fun e w' => ∃ v, e = .returned v ∧ ∃ c, c ≤ 12 ∧ w'.ownsRow w.heap.size 3 1 v c (iCells ((List.range c).map (laneN L))) ∧ (∀ j, j < c → laneN L j ≠ 0) ∧ (c < 12 → laneN L c = 0) ∧ Below w.heap.size w w' := by
  obtain ⟨i0, hi0, hz0, hs0, hy0⟩ := info_parts info_int
  have HS := Lib.hid s
  have hlen := s.len
  clear s
  go_enter Tryz.func21, Tryz.ntmps21
  go_wp2
  go_loopw [3, 9] (fun v y wr => ∃ c : Nat, c ≤ 12 ∧ y = .int .i64 (c : Int) ∧ wr.ownsRow w.heap.size 3 1 v c (iCells ((List.range c).map (laneN L))) ∧ (∀ j, j < c → laneN L j ≠ 0) ∧ Below w.heap.size w wr) (fun _ y _ => 12 - (intOf y).toNat)
  case atStart => exact ⟨0, by omega, rfl, World.ownsRow_nil _ _ _ _, by omega, Below.refl _ _⟩
  case round =>
    obtain ⟨c, hc, rfl, hown, hnz, hbel⟩ := hrel
    obtain ⟨a1, n1, cap1, rfl⟩ := row_form0 hown
    have HS2 := Lib.hid (HS.out.below hbel)
    have HOWN := Lib.hid hown
    have HNZ := Lib.hid hnz
    have HB := Lib.hid hbel
    clear hown hnz hbel
    by_cases hlt : c < 12
    · have hd := HS2.out.head c hlt
      obtain ⟨ov, hov⟩ : ∃ ov : Option Addr, ptr (nxt L c) = .pointer ov := ⟨_, rfl⟩
      have HOV := Lib.hid hov
      rw [hov] at hd
      clear hov
      go_wp2
      go_loop [5, 6] (fun x y => ∃ p : Nat, p ≤ L.length ∧ inLane L c p ∧ x = .int .i64 (laneN (L.take p) c : Int) ∧ y = ptr (nxt (L.drop p) c)) (fun x _ => L.length + 1 - (intOf x).toNat)
      case atStart => exact ⟨0, by omega, Or.inl rfl, rfl, by rw [List.drop_zero]; exact HOV.out.symm⟩
      case round =>
        obtain ⟨p, hp, hin, rfl, rfl⟩ := hrel
        have HIN := Lib.hid hin
        obtain ⟨m, hm⟩ : ∃ m, m = laneN (L.take p) c := ⟨_, rfl⟩
        have hmle : m ≤ L.length := by
          rw [hm]
          exact Nat.le_trans (List.countP_le_length) (by rw [List.length_take]; omega)
        have HM := Lib.hid hm
        rw [← hm]
        clear hm hin hd
        cases hx : nxt (L.drop p) c with
        | none =>
          have hend := lane_end (nxt_none hx)
          have HX := Lib.hid hend
          have hpn : ptr none = .pointer none := rfl
          rw [hpn]
          clear hx hend
          by_cases h0 : m = 0
          · subst h0
            go_wp2
            go_ret
            exact ⟨_, rfl, c, by omega, HOWN.out, HNZ.out, fun _ => by rw [HX.out, ← HM.out], HB.out⟩
          · have t0 : ((m : Int) == 0) = false := by simp; omega
            obtain ⟨W1, hW1⟩ : ∃ W1, wr.alloc (.cells #[.int .i64 (m : Int)] 3) = W1 := ⟨_, rfl⟩
            have hnews : ∀ j u, [Value.int .i64 (m : Int)][j]? = some u → W1.cell? ((⟨wr.heap.size, 0, none⟩ : Addr).add j) = some u := by rw [← hW1]; exact cell_one_new _ _ _
            have hown1 : W1.ownsRow w.heap.size 3 1 (.slice a1 n1 cap1) c (iCells ((List.range c).map (laneN L))) := by rw [← hW1]; exact World.ownsRow.alloc HOWN.out _
            have hb1 : Below w.heap.size w W1 := by rw [← hW1]; exact HB.out.alloc HB.out.size _
            have HO1 := Lib.hid (And.intro hown1 (And.intro hnews hb1))
            clear hown1 hnews hb1
            go_wp2_with (at_builtin; refine wpList_append_own_at _ rfl _ _ 67 rfl w.heap.size 3 i0 (.int .i64 0) 1 8 Tryz.underlying67 hi0 hz0 hs0 hy0 rfl (by decide) (.slice a1 n1 cap1) c (iCells ((List.range c).map (laneN L))) rfl HO1.out.1 ⟨wr.heap.size, 0, none⟩ 1 1 [.int .i64 (m : Int)] rfl rfl HO1.out.2.1 (by intro u hu; rw [List.mem_singleton] at hu; subst hu; rfl) (by unfold maxLen; omega) (by omega) HO1.out.2.2.size ?_)
            intro v3 w3 ho3 hg3 _ hat3
            have hb3 : Below w.heap.size w w3 := by
              refine (Tn.ofBelow (F := fun q => w.heap.size ≤ q) HO1.out.2.2).trans (Tn.ofGrown hg3 (fun q hq => (HO1.out.1.lt q hq).1)) |>.below (Nat.le_refl _) (fun _ e => e)
            have he3 : iCells ((List.range c).map (laneN L)) ++ [.int .i64 (m : Int)] = iCells ((List.range (c + 1)).map (laneN L)) := by
              rw [List.range_succ, List.map_append, List.map_singleton, HX.out, ← HM.out]
              simp [iCells]
            rw [he3] at ho3
            have hnz3 : ∀ j, j < c + 1 → laneN L j ≠ 0 := by
              intro j hj
              rcases Nat.lt_or_ge j c with h | h
              · exact HNZ.out j h
              · obtain rfl : j = c := by omega
                rw [HX.out, ← HM.out]; exact h0
            have HY := Lib.hid (And.intro ho3 (And.intro hnz3 hb3))
            clear ho3 hg3 hat3 hb3 he3 hnz3
            go_wp2
            go_roundw
            case rel => exact ⟨c + 1, by omega, by go_num, HY.out.1, HY.out.2.1, HY.out.2.2⟩
            case measure => simp [intOf]; omega
        | some b =>
          obtain ⟨q, nd, hpq, hq, hnb, hnh, hno⟩ := nxt_some hp hx
          have hql := (List.getElem?_eq_some_iff.1 hq).1
          have hst := lane_step hpq hq hnh hno
          have hin2 : inLane L c (q + 1) := Or.inr ⟨nd, by simpa using hq, by omega, hnh⟩
          have hcell := HS2.out.next hlt hin2
          rw [blk_succ hq, hnb] at hcell
          obtain ⟨ov2, hov2⟩ : ∃ ov : Option Addr, ptr (nxt (L.drop (q + 1)) c) = .pointer ov := ⟨_, rfl⟩
          rw [hov2] at hcell
          have HQ := Lib.hid (And.intro hst (And.intro hin2 hov2))
          have hpb : ptr (some b) = .pointer (some ⟨b, 0, none⟩) := rfl
          rw [hpb]
          clear hx hst hin2 hov2 hq hno
          go_wp2
          go_round
          case rel => exact ⟨q + 1, by omega, HQ.out.2.1, by rw [HQ.out.1, ← HM.out]; go_num, HQ.out.2.2.symm⟩
          case measure => simp [intOf]; omega
    · obtain rfl : c = 12 := by omega
      go_wp2
      go_ret
      exact ⟨_, rfl, 12, by omega, HOWN.out, HNZ.out, by omega, HB.out⟩
end Go.Proofs.YtmodgjjlgobjcaaGreat
