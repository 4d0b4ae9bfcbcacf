/-
  The document's net: Cut, its walk.
-/
import Derived.Test.YtanekdcmealoeaaRefH
namespace Go.Proofs.Ytanekdcmealoeaa
open Go.RowKit Go.Maps

theorem RefAt.recut {w w1 : World} {rb : Nat} {lr cr cr' : Value} {cl cl' : List (Int × Int)} {s : St} {cut' : Int → Int → Bool} (h : RefAt w rb lr cr cl s) (ht : Tn (fun _ => False) w w1) (hrow : OwnC w1 cr' cl') (hc : ∀ a b, cut' a b = cl'.contains (a, b)) (hnl : cr'.ownBlock ≠ some rb) :
    RefAt (w1.setCell ⟨rb, 2, none⟩ cr') rb lr cr' cl' { s with cut := cut' } := by
  have k0 := ht.cell h.c0 (fun e => e)
  have k1 := ht.cell h.c1 (fun e => e)
  have k2 := ht.cell h.c2 (fun e => e)
  have k3 := ht.cell h.c3 (fun e => e)
  have hts : Tn (fun k => k = rb) w1 (w1.setCell ⟨rb, 2, none⟩ cr') := Tn.setCell _ _ _ rfl
  refine ⟨?_, ?_, World.cell?_setCell_same _ _ _ k2, ?_, fun j => by rw [World.frozen?_setCell]; exact (ht.frozen h.lt (fun e => e)).trans (h.fz j), ?_, hts.row hrow (fun k hk e => hnl (e ▸ hk)), hc, h.nl, hnl, h.n0, h.n8, h.len, h.l0⟩
  · rw [World.cell?_setCell_other _ _ _ _ (ne_off (by decide))]; exact k0
  · rw [World.cell?_setCell_other _ _ _ _ (ne_off (by decide))]; exact k1
  · rw [World.cell?_setCell_other _ _ _ _ (ne_off (by decide))]; exact k3
  · exact hts.row (ht.row h.row (fun _ _ e => e)) (fun k hk e => h.nl (e ▸ hk))

/-- The ways but one. -/
def without (cl : List (Int × Int)) (p : Int × Int) : List (Int × Int) := cl.filter (fun x => x != p)
theorem without_len (cl : List (Int × Int)) (p : Int × Int) : (without cl p).length ≤ cl.length := List.length_filter_le _ _
theorem without_has (cl : List (Int × Int)) (a b c d : Int) (x : Bool) :
    (without cl (a, b) ++ (if x = true then [(a, b)] else [])).contains (c, d) = (if c = a ∧ d = b then x else cl.contains (c, d)) := by
  rw [Bool.eq_iff_iff]
  simp only [without, List.contains_eq_mem, List.mem_append, List.mem_filter, decide_eq_true_eq, bne_iff_ne, ne_eq]
  by_cases h : c = a ∧ d = b
  · obtain ⟨rfl, rfl⟩ := h
    cases x <;> simp
  · rw [if_neg h]
    have h2 : ¬ ((c, d) = (a, b)) := fun e => h (by injection e with e1 e2; exact ⟨e1, e2⟩)
    cases x <;> simp [h2]
theorem without_take {cl : List (Int × Int)} {i : Nat} (hi : i < cl.length) (p : Int × Int) :
    without (cl.take (i + 1)) p = if cl[i] = p then without (cl.take i) p else without (cl.take i) p ++ [cl[i]] := by
  rw [List.take_succ_eq_append_getElem hi]
  simp only [without, List.filter_append]
  by_cases h : cl[i] = p <;> simp [h]

set_option maxRecDepth 100000 in
theorem rcut_none {w : World} {rb : Nat} {lr cr : Value} {cl : List (Int × Int)} {s : St} (h : RefAt w rb lr cr cl s) (a b : Int) (x : Bool) (hw : s.way a b = false) :
    Calls Try.prog 24 #[.pointer (some ⟨rb, 0, none⟩), .int .i64 a, .int .i64 b, .bool x] w fun e w' => e = .returned (.int .i64 1) ∧ w = w' := by
  have HN := Lib.hid h
  clear h
  go_enter Try.func24, Try.ntmps24
  go_wp2_with (go_at_call 34; refine (rways_any HN.out a b).mono ?_; rintro _ _ ⟨rfl, rfl⟩; simp only [hw])
  go_ret
  exact ⟨rfl, rfl⟩

set_option maxRecDepth 100000 in
set_option maxHeartbeats 1000000 in
theorem rcut_ok {w : World} {rb : Nat} {lr cr : Value} {cl : List (Int × Int)} {s : St} (h : RefAt w rb lr cr cl s) (a b : Int) (x : Bool) (hw : s.way a b = true) (hsm : cl.length ≤ 1000) :
    Calls Try.prog 24 #[.pointer (some ⟨rb, 0, none⟩), .int .i64 a, .int .i64 b, .bool x] w fun e w' =>
      e = .returned (.int .i64 0) ∧ ∃ cr' cl', RefAt w' rb lr cr' cl' (s.setCut a b x) ∧ RStep rb lr cr w lr cr' w' ∧ cl'.length ≤ cl.length + 1 := by
  have heq := eq60
  have HN := Lib.hid h
  have h2 := h.c2
  obtain ⟨n, hn⟩ : ∃ n, n = cl.length := ⟨_, rfl⟩
  obtain ⟨g0, cap, hcr, hcap, hcm, hcell⟩ : ∃ (g0 : Option Addr) (cap : Nat), cr = .slice g0 n cap ∧ n ≤ cap ∧ cap ≤ 9223372036854775807 ∧ Hid (n = 0 ∨ ∃ g, g0 = some ⟨g, 0, none⟩ ∧ ∀ k, k < n * 2 → w.cell? ⟨g, k, none⟩ = (cCells cl)[k]?) := by
    rcases own_reads h.cuts with ⟨hcr, h0⟩ | ⟨g, cap, hcr, hcap, hcm, hg, hcell⟩
    · exact ⟨none, 0, by rw [hcr, hn, h0], by omega, by omega, Or.inl (by omega)⟩
    · unfold maxLen at hcm
      exact ⟨_, cap, by rw [hcr, hn], by omega, by omega, Or.inr ⟨g, rfl, by rw [hn]; exact hcell⟩⟩
  rw [hcr] at h2
  rw [← hn] at hsm
  have HCL := Lib.hid hn
  clear h hcr hn
  go_enter Try.func24, Try.ntmps24
  go_wp2_with (go_at_call 34; refine (rways_any HN.out a b).mono ?_; rintro _ _ ⟨rfl, rfl⟩; simp only [hw])
  go_loopw [9, 10] (fun v y wr => ∃ i : Nat, i ≤ n ∧ y = .int .i64 (i : Int) ∧ OwnC wr v (without (cl.take i) (a, b)) ∧ (∀ k, v.ownBlock = some k → w.heap.size ≤ k) ∧ Tn (fun _ => False) w wr) (fun _ y _ => n - (intOf y).toNat)
  case atStart => exact ⟨0, by omega, rfl, own_nilC _, fun k hk => by simp [Value.ownBlock] at hk, Tn.refl _ _⟩
  case round =>
    obtain ⟨i, hi, rfl, hv, hnew, ht⟩ := hrel
    obtain ⟨a1, n1, cap1, rfl⟩ := own_formC hv
    have k2 := ht.cell h2 (fun e => e)
    have HV := Lib.hid (And.intro hv (And.intro hnew ht))
    clear hv hnew ht
    by_cases hlt : i < n
    · obtain ⟨g, rfl, hce⟩ : ∃ g, g0 = some ⟨g, 0, none⟩ ∧ ∀ k, k < n * 2 → w.cell? ⟨g, k, none⟩ = (cCells cl)[k]? := hcell.out.resolve_left (by omega)
      have hil : i < cl.length := by have := HCL.out; omega
      obtain ⟨p, hp⟩ : ∃ p, p = cl[i].1 := ⟨_, rfl⟩
      obtain ⟨q, hq⟩ : ∃ q, q = cl[i].2 := ⟨_, rfl⟩
      have hg1 := cCells_get cl i hil
      have q0 : wr.cell? ⟨g, i * 2, none⟩ = some (.int .i64 p) := HV.out.2.2.cell (by rw [hce _ (by omega), Nat.mul_comm, hg1.1, hp]) (fun e => e)
      have q1 : wr.cell? ⟨g, i * 2 + 1, none⟩ = some (.int .i64 q) := HV.out.2.2.cell (by rw [hce _ (by omega), Nat.mul_comm, hg1.2, hq]) (fun e => e)
      have HP : Hid (cl[i] = (p, q)) := by unfold Hid; rw [hp, hq]
      clear hg1 hp hq hce
      by_cases e1 : p = a ∧ q = b
      · obtain ⟨rfl, rfl⟩ := e1
        have HT : Hid (without (cl.take (i + 1)) (p, q) = without (cl.take i) (p, q)) := by unfold Hid; rw [without_take hil, if_pos HP.out]
        go_wp2
        go_roundw
        case rel => exact ⟨i + 1, by omega, by go_num, by rw [HT.out]; exact HV.out.1, HV.out.2.1, HV.out.2.2⟩
        case measure => simp [intOf]; omega
      · have HT : Hid (without (cl.take (i + 1)) (a, b) = without (cl.take i) (a, b) ++ [(p, q)]) := by
          unfold Hid; rw [without_take hil, HP.out, if_neg (fun e => e1 (by injection e with h1 h2; exact ⟨h1, h2⟩))]
        have te : ((p == a) && (q == b)) = false := by
          rw [Bool.and_eq_false_iff]
          by_cases ep : p = a
          · exact Or.inr (by simpa using fun eq => e1 ⟨ep, eq⟩)
          · exact Or.inl (by simpa using ep)
        obtain ⟨w2, hw2⟩ : ∃ w2, wr.alloc (.cells #[.int .i64 p, .int .i64 q] 60) = w2 := ⟨_, rfl⟩
        have hta : Tn (fun _ => False) wr w2 := by rw [← hw2]; exact Tn.alloc _ _
        have HS2 := Lib.hid (src_oneC wr (p, q) w2 hw2.symm)
        have HO2 := Lib.hid (hta.row HV.out.1 (fun _ _ e => e))
        have HT2 := Lib.hid hta
        have hle := without_len (cl.take i) (a, b)
        rw [List.length_take] at hle
        clear hta
        go_wp2_with (at_builtin; refine wpList_appC rfl _ _ rfl (.slice a1 n1 cap1) (without (cl.take i) (a, b)) rfl HO2.out (.slice (some ⟨wr.heap.size, 0, none⟩) 1 1) [(p, q)] rfl HS2.out (by simp only [List.length_cons, List.length_nil]; omega) ?_)
        intro v3 w3 ho3 hg3 hb3
        have ht3 : Tn (fun k => (Value.slice a1 n1 cap1).ownBlock = some k) w2 w3 := Tn.ofGrown hg3 (fun _ hk => hk)
        have htw : Tn (fun _ => False) w w3 := (HV.out.2.2.trans HT2.out).andThen ht3 (fun k hk => Or.inr (HV.out.2.1 k hk))
        have hnew : ∀ k, v3.ownBlock = some k → w.heap.size ≤ k := by
          intro k hk
          rcases hb3 with h | h
          · rw [hk] at h; exact HV.out.2.1 k h.symm
          · rw [hk] at h; have := HV.out.2.2.size; have := HT2.out.size; injection h with h; omega
        rw [← HT.out] at ho3
        have HX := Lib.hid (And.intro ho3 (And.intro hnew htw))
        clear ho3 hg3 hb3 ht3 htw hnew
        go_wp2
        go_roundw
        case rel => exact ⟨i + 1, by omega, by go_num, HX.out.1, HX.out.2.1, HX.out.2.2⟩
        case measure => simp [intOf]; omega
    · obtain rfl : i = n := by omega
      have HTK : Hid (cl.take i = cl) := by unfold Hid; rw [List.take_of_length_le (by have := HCL.out; omega)]
      rw [HTK.out] at HV
      have hf := (HV.out.2.2.frozen HN.out.lt (fun e => e)).trans (HN.out.fz 2)
      have hle := without_len cl (a, b)
      rw [← HCL.out] at hle
      have HLE := Lib.hid hle
      cases x with
      | false =>
        have hb1 : (Value.slice a1 n1 cap1).ownBlock ≠ some rb := fun e => by have := HV.out.2.1 rb e; have := HN.out.lt; omega
        have HX := Lib.hid (HN.out.recut (cut' := fun c d => if c = a ∧ d = b then false else s.cut c d) HV.out.2.2 HV.out.1 (fun c d => by have := without_has cl a b c d false; rw [HN.out.cut c d]; simpa using this.symm) hb1)
        clear hb1 hle
        go_wp2
        refine ⟨rfl, _, ?_, rfl, _, _, HX.out, ⟨HV.out.2.2.mono (fun _ e => e.elim) |>.trans (Tn.setCell _ _ _ rfl), ?_⟩, by have := HLE.out; have := HCL.out; omega⟩
        · simp [results, Try.results24, go_sem]
        · rintro k (hk | hk | hk)
          · exact Or.inl (Or.inl hk)
          · exact Or.inl (Or.inr (Or.inl hk))
          · exact Or.inr (HV.out.2.1 k hk)
      | true =>
        obtain ⟨w2, hw2⟩ : ∃ w2, wr.alloc (.cells #[.int .i64 a, .int .i64 b] 60) = w2 := ⟨_, rfl⟩
        have hta : Tn (fun _ => False) wr w2 := by rw [← hw2]; exact Tn.alloc _ _
        have HS2 := Lib.hid (src_oneC wr (a, b) w2 hw2.symm)
        have HO2 := Lib.hid (hta.row HV.out.1 (fun _ _ e => e))
        have HT2 := Lib.hid hta
        clear hta
        go_wp2_with (at_builtin; refine wpList_appC rfl _ _ rfl (.slice a1 n1 cap1) (without cl (a, b)) rfl HO2.out (.slice (some ⟨wr.heap.size, 0, none⟩) 1 1) [(a, b)] rfl HS2.out (by simp only [List.length_cons, List.length_nil]; omega) ?_)
        intro v3 w3 ho3 hg3 hb3
        have ht3 : Tn (fun k => (Value.slice a1 n1 cap1).ownBlock = some k) w2 w3 := Tn.ofGrown hg3 (fun _ hk => hk)
        have htw : Tn (fun _ => False) w w3 := (HV.out.2.2.trans HT2.out).andThen ht3 (fun k hk => Or.inr (HV.out.2.1 k hk))
        have hnew : ∀ k, v3.ownBlock = some k → w.heap.size ≤ k := by
          intro k hk
          rcases hb3 with h | h
          · rw [hk] at h; exact HV.out.2.1 k h.symm
          · rw [hk] at h; have := HV.out.2.2.size; have := HT2.out.size; injection h with h; omega
        have hb1 : v3.ownBlock ≠ some rb := fun e => by have := hnew rb e; have := HN.out.lt; omega
        obtain ⟨a3, n3, cap3, rfl⟩ := own_formC ho3
        have kd3 := htw.cell h2 (fun e => e)
        have hf3 := (htw.frozen HN.out.lt (fun e => e)).trans (HN.out.fz 2)
        have HX := Lib.hid (HN.out.recut (cut' := fun c d => if c = a ∧ d = b then true else s.cut c d) htw ho3 (fun c d => by have := without_has cl a b c d true; rw [HN.out.cut c d]; simpa using this.symm) hb1)
        have HY := Lib.hid (And.intro htw hnew)
        clear ho3 hg3 hb3 ht3 htw hnew hb1 hle
        go_wp2
        refine ⟨rfl, _, ?_, rfl, _, _, HX.out, ⟨HY.out.1.mono (fun _ e => e.elim) |>.trans (Tn.setCell _ _ _ rfl), ?_⟩, by rw [List.length_append]; have := HLE.out; have := HCL.out; simp only [List.length_cons, List.length_nil]; omega⟩
        · simp [results, Try.results24, go_sem]
        · rintro k (hk | hk | hk)
          · exact Or.inl (Or.inl hk)
          · exact Or.inl (Or.inr (Or.inl hk))
          · exact Or.inr (HY.out.2 k hk)
end Go.Proofs.Ytanekdcmealoeaa
