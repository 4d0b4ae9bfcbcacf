/-
  Lease: what is below all leases.
-/
import Derived.Test.YtmdhegmnfcodbaaLsF
namespace Go.Proofs.Ytmdhegmnfcodbaa
open Go.RowKit
variable {w w' w0 w1 w2 w3 : World} {mb lb B : Nat} {ob : Option Nat} {m : Lm} {last : Int}

def meetAll : List (List Int) → List Int
  | [] => []
  | a :: l => l.foldl meetV a
theorem meetAll_snoc {l : List (List Int)} (h : l ≠ []) (b : List Int) : meetAll (l ++ [b]) = meetV (meetAll l) b := by
  cases l with
  | nil => exact absurd rfl h
  | cons a l => simp [meetAll, List.foldl_append]
theorem meetAll_len {k : Nat} : ∀ {l : List (List Int)}, l ≠ [] → (∀ a ∈ l, a.length = k) → (meetAll l).length = k := by
  intro l h hk
  cases l with
  | nil => exact absurd rfl h
  | cons a l =>
    show (l.foldl meetV a).length = k
    have ha := hk a List.mem_cons_self
    have hl : ∀ b ∈ l, b.length = k := fun b hb => hk b (List.mem_cons_of_mem _ hb)
    clear h hk
    induction l generalizing a with
    | nil => exact ha
    | cons b l ih => exact ih (meetV a b) (by rw [meetV_len (by rw [ha, hl b List.mem_cons_self]), ha]) (fun c hc => hl c (List.mem_cons_of_mem _ hc))

theorem own_some {a : Option Addr} {n c : Nat} {l : List Int} (h : Own eVec w B (.slice a n c) l) (hn : 1 ≤ n) : ∃ g, a = some g := by
  rcases h.2 with ⟨e, _⟩ | ⟨g, c2, cu, e, _⟩
  · injection e with e1 e2 e3
    omega
  · injection e with e1 e2 e3
    exact ⟨_, e1⟩
theorem core_vs {L M : List Lv} (h : L.map core = M.map core) : L.map (·.vs) = M.map (·.vs) := by
  have h5 := congrArg (List.map (fun c : Int × List Int × Int => c.2.1)) h
  rw [List.map_map, List.map_map] at h5
  exact h5

set_option maxRecDepth 100000 in
set_option maxHeartbeats 2000000 in
theorem meetAll_any (h : LsAt w lb ob m last) {k : Nat} (hk0 : 1 ≤ k) (hk8 : k ≤ 8) (hk : ∀ p ∈ m, p.2.vs.length = k) : Calls Try.prog 11 #[.pointer (some ⟨lb, 0, none⟩)] w fun e w' =>
    ∃ v, e = .returned v ∧ RdI w' v (meetAll ((sortM m).map (·.vs))) ∧ Below w.heap.size w w' := by
  have hL := list_any h
  obtain ⟨n, hn⟩ : ∃ n, m.length = n := ⟨_, rfl⟩
  rw [hn] at hL
  have hq := qVec
  have hn16 : n ≤ 16 := by have := h.ok.few; omega
  have hks : ∀ x ∈ sortM m, x.vs.length = k := fun x hx => by
    unfold sortM at hx
    obtain ⟨id, _, hg⟩ := List.mem_filterMap.1 hx
    unfold getL at hg
    obtain ⟨p, hp, rfl⟩ := Option.map_eq_some_iff.1 hg
    exact hk p (List.mem_of_find?_eq_some hp)
  have HK := Lib.hid hks
  clear h hn hk hks
  go_enter Try.func11, Try.ntmps11
  go_wp2_with (go_at_call 18; refine hL.mono ?_; rintro e w1 ⟨la, lc, L, rfl, hLc, hLl, hLo, hb1⟩; have hvs := core_vs hLc; have H1 := Lib.hid (And.intro hvs (And.intro hLl (And.intro hLo hb1))); clear hLc hLl hLo hb1 hvs)
  have hvk : ∀ a ∈ L.map (·.vs), a.length = k := by
    rw [H1.out.1]
    intro a ha
    obtain ⟨x, hx, rfl⟩ := List.mem_map.1 ha
    exact HK.out x hx
  have HV := Lib.hid hvk
  clear hvk
  go_loopw [3, 4, 5, 9] (fun v _ _ iv wr => ∃ i : Nat, i ≤ n ∧ iv = .int .i64 (i : Int) ∧ RdI wr v (meetAll ((L.map (·.vs)).take i)) ∧ Below w1.heap.size w1 wr) (fun _ _ _ iv _ => n - (intOf iv).toNat)
  case atStart => exact ⟨0, by omega, rfl, ⟨none, 0, rfl, .inl rfl⟩, Below.refl _ _⟩
  case round =>
    obtain ⟨i, hi, rfl, hrd, hb⟩ := hrel
    have hLw := H1.out.2.2.1.below hb
    have HB := Lib.hid (And.intro hrd hb)
    by_cases hlt : i < n
    · have hil : i < L.length := by rw [H1.out.2.1]; exact hlt
      have htk : (L.map (·.vs)).take (i + 1) = (L.map (·.vs)).take i ++ [L[i].vs] := by rw [List.take_succ_eq_append_getElem (by rw [List.length_map]; exact hil), List.getElem_map]
      have hxo := (hLw.2 L[i] (List.getElem_mem hil)).1
      have hxk : L[i].vs.length = k := HV.out _ (List.mem_map.2 ⟨L[i], List.getElem_mem hil, rfl⟩)
      obtain ⟨g, rfl, hg, d0, d1, d2⟩ := hLw.get hil
      obtain ⟨x, hx⟩ : ∃ x, L[i] = x := ⟨_, rfl⟩
      rw [hx] at d0 d1 d2 htk hxo hxk
      obtain ⟨xi, xa, xc, xv, xt⟩ := x
      have hxk' : xv.length = k := hxk
      have d1' : wr.cell? ⟨g, i * 3 + 1, none⟩ = some (.slice xa k xc) := by rw [← hxk']; exact d1
      have d0' : wr.cell? ⟨g, i * 3, none⟩ = some (.int .i64 xi) := d0
      have d2' : wr.cell? ⟨g, i * 3 + 2, none⟩ = some (.int .i64 xt) := d2
      have hxr : RdI wr (.slice xa k xc) xv := by rw [← hxk']; exact rdI_own hxo
      obtain ⟨va, vc, hv, _⟩ := hrd
      obtain ⟨vn, hvn⟩ : ∃ vn, (meetAll ((L.map (·.vs)).take i)).length = vn := ⟨_, rfl⟩
      rw [hvn] at hv
      subst hv
      obtain ⟨W1, hW1⟩ : ∃ W1, wr.alloc (.cells #[.int .i64 xi, .slice xa k xc, .int .i64 xt] 35) = W1 := ⟨_, rfl⟩
      have hbW : Below wr.heap.size wr W1 := by rw [← hW1]; exact (Below.refl _ _).alloc (Nat.le_refl _) _
      have q0 : W1.cell? ⟨wr.heap.size, 0, none⟩ = some (.int .i64 xi) := by rw [← hW1]; simp [go_sem]
      have q1 : W1.cell? ⟨wr.heap.size, 1, none⟩ = some (.slice xa k xc) := by rw [← hW1]; simp [go_sem]
      have q2 : W1.cell? ⟨wr.heap.size, 2, none⟩ = some (.int .i64 xt) := by rw [← hW1]; simp [go_sem]
      have r1 : (i : Int) < (n : Int) := by omega
      have HX := Lib.hid (And.intro htk (And.intro hbW (And.intro (hxr.below hbW) (And.intro (HB.out.1.below hbW) (And.intro hvn hxk')))))
      clear htk hbW hx d0 d1 d2 hil hLw hxo hxk hxk' hxr hvn
      by_cases hi0 : i = 0
      · subst hi0
        go_wp2
        go_roundw
        case rel =>
          refine ⟨1, by omega, by go_num, ?_, HB.out.2.trans (HX.out.2.1.mono HB.out.2.size)⟩
          rw [HX.out.1]
          exact HX.out.2.2.1
        case measure => simp [intOf]; omega
      · have t0 : ((i : Int) == 0) = false := by simp; omega
        have t0' : ¬ (i : Int) = 0 := by omega
        have hne : (L.map (·.vs)).take i ≠ [] := by
          intro e
          have := congrArg List.length e
          rw [List.length_take, List.length_map, H1.out.2.1] at this
          simp at this
          omega
        have hvk2 : vn = k := by rw [← HX.out.2.2.2.2.1]; exact meetAll_len hne (fun a ha => HV.out a (List.mem_of_mem_take ha))
        subst hvk2
        have hM := meet_any HX.out.2.2.2.1 HX.out.2.2.1 (by rw [HX.out.2.2.2.2.1, HX.out.2.2.2.2.2]) (by rw [HX.out.2.2.2.2.1]; omega)
        rw [HX.out.2.2.2.2.1] at hM
        have HE := Lib.hid (meetAll_snoc hne xv)
        clear hne
        go_wp2_with (go_at_call 24; refine hM.mono ?_; rintro e w2 ⟨ao, ac, rfl, ho2, hb2⟩; obtain ⟨ag, rfl⟩ := own_some ho2 hk0; have H2 := Lib.hid (And.intro (rdI_own ho2) (HX.out.2.1.trans (hb2.mono HX.out.2.1.size))); clear ho2 hb2)
        go_roundw
        case rel =>
          refine ⟨i + 1, by omega, by go_num, ?_, HB.out.2.trans (H2.out.2.mono HB.out.2.size)⟩
          rw [HX.out.1, HE.out]
          exact H2.out.1
        case measure => simp [intOf]; omega
    · obtain rfl : i = n := by omega
      obtain ⟨va, vc, hv, _⟩ := hrd
      subst hv
      clear hLw
      go_wp2
      go_ret
      have hall : (L.map (·.vs)).take i = (sortM m).map (·.vs) := by rw [List.take_of_length_le (by rw [List.length_map, H1.out.2.1]; omega), H1.out.1]
      rw [← hall]
      exact ⟨_, rfl, HB.out.1, H1.out.2.2.2.trans (HB.out.2.mono H1.out.2.2.2.size)⟩
end Go.Proofs.Ytmdhegmnfcodbaa
