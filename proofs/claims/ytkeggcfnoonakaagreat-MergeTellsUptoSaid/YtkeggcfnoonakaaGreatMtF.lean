/-
  MergeTells: its walk.
-/
import Derived.Test.YtkeggcfnoonakaaGreatMtB
import Derived.Test.YtkeggcfnoonakaaGreatMtE
import Derived.Test.YtkeggcfnoonakaaGreatMgN
import Derived.Deep.Cut
set_option linter.unusedSimpArgs false
set_option linter.unusedVariables false
namespace Go.Proofs.YtkeggcfnoonakaaGreat
open Go.RowKit

theorem RdQ.below {w w' : World} {a : Option Addr} {c : Nat} {l : List KV} (h : RdQ w a c l) (hb : Below w.heap.size w w') : RdQ w' a c l := ⟨RdP.below (n := 0) h.1 hb, h.2⟩
theorem RdM.below {w w' : World} {a : Option Addr} {L : List (List KV)} (h : RdM w a L) (hb : Below w.heap.size w w') : RdM w' a L :=
  h.imp id (fun ⟨b, off, h1, h2⟩ => ⟨b, off, h1, fun i hi => by
    obtain ⟨ai, ci, h3, h4⟩ := h2 i hi
    exact ⟨ai, ci, (hb.cell (p := ⟨b, off + i, none⟩) (World.block_lt_of_cell? _ _ h3)).trans h3, h4.below hb⟩⟩)
theorem lightN_eq' (l : List KV) : lightN l = 20 * l.length + bytesL l := by
  induction l with
  | nil => rfl
  | cons p l ih =>
    unfold lightN bytesL at *
    rw [List.map_cons, List.sum_cons, List.map_cons, List.sum_cons, List.length_cons, ih]
    omega
theorem bytesL_one {l : List KV} {p : KV} (h : p ∈ l) : p.1.size + p.2.size ≤ bytesL l := by
  induction l with
  | nil => simp at h
  | cons x l ih =>
    have e : bytesL (x :: l) = x.1.size + x.2.size + bytesL l := by simp [bytesL]
    rw [e]
    rcases List.mem_cons.1 h with rfl | h
    · omega
    · have := ih h; omega
/-- What the guards say. -/
theorem light_facts {l : List KV} (h : lightB l = true) : l.length ≤ 3000 ∧ bytesL l ≤ 60000 ∧ Short l := by
  have h60 : lightN l ≤ 60000 := of_decide_eq_true h
  rw [lightN_eq'] at h60
  exact ⟨by omega, by omega, fun p hp => by have := bytesL_one hp; omega⟩
theorem lightL_facts {L : List (List KV)} (h : lightL L = true) : L.length ≤ 40 ∧ lenS L ≤ 2000 ∧ ∀ l ∈ L, lightB l = true := by
  unfold lightL at h
  simp only [Bool.and_eq_true, decide_eq_true_eq, List.all_eq_true] at h
  exact ⟨h.1.2, h.2, h.1.1⟩
theorem bt {a b c : World} (h1 : Below a.heap.size a b) (h2 : Below b.heap.size b c) : Below a.heap.size a c := h1.trans (h2.mono h1.size)
theorem rd_start {w2 wr w : World} {bk : Nat} {b : BB} {vb vc : Value} {Sb Sc : List (Sl × List KV)} {sa : Sl} (hst : BkSt wr bk w2.heap.size b) (htn : Tn (fun q => q = bk ∨ w2.heap.size ≤ q) w2 wr) (hb : Below wr.heap.size wr w)
    (ha : ∀ q, sa.val.ownBlock = some q → wr.heap.size ≤ q ∧ q < w.heap.size) (hlb : Lst eKV eSl w wr.heap.size vb Sb) (hlc : Lst eKV eSl w wr.heap.size vc Sc) (hbc : ∀ q, footL vb Sb q → ¬ footL vc Sc q) (lenb : ∀ x ∈ Sb, x.2.length ≤ 50000) (lenc : ∀ x ∈ Sc, x.2.length ≤ 50000) :
    RdSt w2 w bk b vb Sb vc Sc (fun q => sa.val.ownBlock = some q ∨ Pb vb Sb vc Sc 0 q) := by
  have hP : ∀ q, (sa.val.ownBlock = some q ∨ Pb vb Sb vc Sc 0 q) → wr.heap.size ≤ q ∧ q < w.heap.size := by
    intro q hq
    rcases hq with hq | ⟨k, hk, _, hq⟩ | hq | hq
    · exact ha q hq
    · exact hlb.lt (.inr ⟨k, hk, hq⟩)
    · exact hlb.lt (.inl hq)
    · exact hlc.lt hq
  refine ⟨hst.below hb, hlb.mono hst.Bw, hlc.mono hst.Bw, hbc, fun q hq ho => ?_, fun q hq hf => ?_, fun q hq => (hP q hq).2, htn.trans (Tn.ofBelow hb), lenb, lenc⟩
  · have h1 : wr.heap.size ≤ q := hq.elim (fun h => (hlb.lt h).1) (fun h => (hlc.lt h).1)
    rcases BB.out_foot ho with h2 | h2
    · have := hst.bB
      have := hst.Bw
      omega
    · have := (hst.lt h2).2
      omega
  · have := (hP q hq).1
    have := (hst.lt hf).2
    omega
theorem rd_keysA {w2 w : World} {bk : Nat} {b : BB} {vb vc : Value} {Sb Sc : List (Sl × List KV)} {sa : Sl} {l : List KV} (h : RdSt w2 w bk b vb Sb vc Sc (fun q => sa.val.ownBlock = some q ∨ Pb vb Sb vc Sc 0 q)) {B : Nat} (ho : Own eKV w B sa.val l) (hB : w2.heap.size ≤ B) (hl : l.length ≤ 50000)
    (hd : ∀ q, sa.val.ownBlock = some q → ¬ footL vb Sb q ∧ ¬ footL vc Sc q) :
    Calls Tryz.prog 17 #[.pointer (some ⟨bk, 0, none⟩), sa.val] w fun e w' => e = .returned (.tuple #[]) ∧ ∃ b', RdSt w2 w' bk b' vb Sb vc Sc (Pb vb Sb vc Sc 0) ∧ b'.S1.length = b.S1.length := by
  refine (keys_book h.st (row_mono ho hB) (fun q hq => h.p q (.inl hq)) hl).mono ?_
  rintro e w' ⟨rfl, b', hg, hn⟩
  refine ⟨rfl, b', h.grow hg (fun q hq => ⟨.inr hq, fun e => ?_⟩), hn⟩
  rcases hq with ⟨k, hk, _, hq⟩ | hq | hq
  · exact (hd q e).1 (.inr ⟨k, hk, hq⟩)
  · exact (hd q e).1 (.inl hq)
  · exact (hd q e).2 hq
theorem RdSt.grow0 {w2 w w' : World} {bk : Nat} {b : BB} {vb vc : Value} {Sb Sc : List (Sl × List KV)} {P : Nat → Prop} (h : RdSt w2 w bk b vb Sb vc Sc P) (hb : Below w.heap.size w w') : RdSt w2 w' bk b vb Sb vc Sc P :=
  ⟨h.st.below hb, h.lb.below hb, h.lc.below hb, h.bc, h.out, h.p, fun q hq => Nat.lt_of_lt_of_le (h.lt q hq) hb.size, h.tn.trans (Tn.ofBelow hb), h.lenb, h.lenc⟩
/-- The lent lists, as they lie in the list of lists. -/
theorem lst_stays {w : World} {B : Nat} {vx : Value} {Sx : List (Sl × List KV)} {L : List (List KV)} (h : Lst eKV eSl w B vx Sx) (hm : Sx.map (·.2) = L) {i : Nat} (hi : i < L.length) :
    ∃ (g c : Nat) (s : Sl), (∃ hi : i < Sx.length, Sx[i].1 = s) ∧ vx = .slice (some ⟨g, 0, none⟩) L.length c ∧ w.cell? ⟨g, i, none⟩ = some (.slice s.a L[i].length s.cap) ∧ RdP w s.a s.cap L[i] := by
  subst hm
  have hi2 : i < Sx.length := by rwa [List.length_map] at hi
  obtain ⟨g, c, hv, hc⟩ := h.read hi2
  have hs := h.sl hi2
  obtain ⟨a, c2, hv2, hr⟩ := rdP_own (h.each i hi2)
  have e1 : (Sx.map (·.2))[i] = Sx[i].2 := by simp
  rw [e1, List.length_map]
  unfold Sl.val at hv2
  injection hv2 with q1 q2 q3
  subst q1 q3
  refine ⟨g, c, Sx[i].1, ⟨hi2, rfl⟩, hv, ?_, hr⟩
  rw [hc]
  unfold Sl.val
  rw [hs]
theorem short_le {l : List KV} (h : bytesL l ≤ 60000) {p : KV} (hp : p ∈ l) : p.1.size ≤ 100000000 := by
  have := bytesL_one hp
  omega
theorem len_le_flat' {P : List (List KV)} (h : ∀ x ∈ P, x ≠ []) : P.length ≤ P.flatten.length := by
  induction P with
  | nil => simp
  | cons x P ih =>
    have h1 := List.length_pos_iff.2 (h x (by simp))
    have h2 := ih (fun y hy => h y (List.mem_cons_of_mem _ hy))
    rw [List.flatten_cons, List.length_append, List.length_cons]
    omega
/-- How many pieces, and how long each. -/
theorem spl_facts {l : List KV} {size : Int} (h : l.length ≤ 3000) : ((spl (grp hdF l) (max size 1)).1).length ≤ 3000 ∧ ∀ x ∈ (spl (grp hdF l) (max size 1)).1, x.length ≤ 3000 := by
  have hq := spq hdF (max size 1) (grp hdF l) (grp_ne (hd := hdF) l) (grp_adj hdF l)
  have hfl : ((spl (grp hdF l) (max size 1)).1).flatten = l := hq.flat.trans (grp_flat (hd := hdF) l)
  have h1 := len_le_flat' hq.ne
  rw [hfl] at h1
  refine ⟨by omega, fun x hx => ?_⟩
  have := len_flat hx
  rw [hfl] at this
  omega
theorem grp_facts {l : List KV} (h : l.length ≤ 3000) : (grp hdF l).length ≤ 3000 ∧ ∀ x ∈ grp hdF l, x.length ≤ 3000 := by
  refine ⟨Nat.le_trans (grp_len hdF l) h, fun x hx => ?_⟩
  have := len_flat hx
  rw [grp_flat] at this
  omega
theorem lens_of {S : List (Sl × List KV)} {G : List (List KV)} (h : S.map (·.2) = G) (hG : ∀ x ∈ G, x.length ≤ 3000) : ∀ x ∈ S, x.2.length ≤ 50000 := fun x hx => by
  have := hG x.2 (by rw [← h]; exact List.mem_map.2 ⟨x, hx, rfl⟩)
  omega
theorem samelists_lst {w : World} {B B2 bc dc : Nat} {ba da : Option Addr} {Sb Sd : List (Sl × List KV)} (h1 : Lst eKV eSl w B (.slice ba Sb.length bc) Sb) (h2 : Lst eKV eSl w B2 (.slice da Sd.length dc) Sd) (he : Sb.map (·.2) = Sd.map (·.2)) (hn : Sb.length ≤ 3000) (hl : ∀ x ∈ Sb.map (·.2), x.length ≤ 3000) :
    Calls Tryz.prog 13 #[.slice ba Sb.length bc, .slice da Sd.length dc] w fun e w' => e = .returned (.bool true) ∧ Below w.heap.size w w' := by
  obtain ⟨a9, c9, e9, r9⟩ := rdL_of_lst h1
  obtain ⟨a8, c8, e8, r8⟩ := rdL_of_lst h2
  injection e9 with p1 _ p3
  injection e8 with q1 _ q3
  subst p1 p3 q1 q3
  have hs := samelists_quiet (ca := bc) (cb := dc) r9 r8 (by rw [List.length_map]; omega) (by rw [← he, List.length_map]; omega) (fun x hx => by have := hl x hx; omega) (fun x hx => by rw [← he] at hx; have := hl x hx; omega)
  rw [List.length_map, List.length_map] at hs
  refine hs.mono ?_
  rintro e w' ⟨rfl, d, rfl⟩
  exact ⟨by rw [decide_eq_true he], drew_below _ _⟩
theorem samekeys_want {w : World} {oa wa : Option Addr} {oc wc : Nat} {l : List KV} (h1 : RdP w oa oc l) (h2 : RdP w wa wc l) (hl : l.length ≤ 100000) :
    Calls Tryz.prog 12 #[.slice oa l.length oc, .slice wa l.length wc] w fun e w' => e = .returned (.bool true) ∧ Below w.heap.size w w' := by
  refine (samekeys_quiet h1 h2 hl hl).mono ?_
  rintro e w' ⟨rfl, d, rfl⟩
  exact ⟨by rw [decide_eq_true rfl], drew_below _ _⟩
set_option maxRecDepth 100000 in
set_option maxHeartbeats 4000000 in
theorem tells_walk (a : Option Addr) (len cap : Nat) (L : List (List KV)) (am : Option Addr) (lenm capm : Nat) (l : List KV) (s : Int) {W : World} (hl : LsInQ W a len cap L) (hm : KsInQ W am lenm capm l) (hs : (Lit.int IntKind.i64 s).wf = true) (w : World) (hW : W = w) (hshape : W.ShapedOpen Tryz.prog) :
    Calls Tryz.prog 3 #[.slice a len cap, .slice am lenm capm, .int .i64 s] w fun e w' => e = .returned (.bool true) ∧ Below W.heap.size W w' := by
  subst hW
  obtain ⟨hl1, hrd, hsz, hl6, hcap, hcap2⟩ := hl
  obtain ⟨hm1, hmrd, hmsz, hm6, hmcap, hmcap2⟩ := hm
  have hmax := maxAt_shaped hshape
  clear hshape
  obtain ⟨hs1, hs2⟩ : -9223372036854775808 ≤ s ∧ s ≤ 9223372036854775807 := by
    simp only [Lit.wf, Bool.and_eq_true, decide_eq_true_eq] at hs
    exact hs
  clear hs
  subst hl1 hm1
  have hlt := light_any (c := cap) hrd.rd hsz (by omega)
  have hlm : ∀ w', Below W.heap.size W w' → Calls Tryz.prog 5 #[.slice am l.length capm] w' fun e w'' => e = .returned (.bool (lightB l)) ∧ ∃ d, w'' = w'.drewN d := fun w' hb =>
    Light_any (c := capm) (hmrd.below hb).1 (fun p hp => by have := hmsz p hp; omega) (by omega)
  obtain ⟨n, hn⟩ : ∃ n, L.length = n := ⟨_, rfl⟩
  obtain ⟨m, hmm⟩ : ∃ m, l.length = m := ⟨_, rfl⟩
  rw [hn] at hlt hl6 hcap ⊢
  rw [hmm] at hlm hm6 hmcap ⊢
  have HL := Lib.hid (And.intro hlt (And.intro hlm (And.intro hn (And.intro hmm (And.intro hrd (And.intro hmrd (And.intro hmax (And.intro hs1 hs2))))))))
  clear hlt hlm hn hmm hrd hmrd hmax hs1 hs2 hsz hmsz
  go_enter Tryz.func3, Tryz.ntmps3
  cases hb1 : lightL L with
  | false =>
    have HB1 := Lib.hid hb1
    clear hb1
    go_wp2_with fail
    refine HL.out.1.mono ?_
    rintro e w1 ⟨rfl, hbw1⟩
    rw [HB1.out]
    have H1 := Lib.hid hbw1
    clear hbw1
    go_wp2_with fail
    refine (alive_any _).mono ?_
    rintro e w2 ⟨rfl, hb2⟩
    have H2 := Lib.hid hb2
    clear hb2
    go_wp2_with fail
    go_ret
    exact ⟨rfl, bt H1.out H2.out⟩
  | true =>
    have HB1 := Lib.hid hb1
    clear hb1
    go_wp2_with fail
    refine HL.out.1.mono ?_
    rintro e w1 ⟨rfl, hbw1⟩
    rw [HB1.out]
    have H1 := Lib.hid hbw1
    clear hbw1
    go_wp2_with fail
    refine (HL.out.2.1 w1 H1.out).mono ?_
    rintro e w1' ⟨rfl, d1, hw1'⟩
    have hbw2 : Below W.heap.size W w1' := by rw [hw1']; exact bt H1.out (drew_below _ _)
    have H2 := Lib.hid hbw2
    clear hbw2 hw1' H1
    cases hb2 : lightB l with
    | false =>
      clear hb2
      go_wp2_with fail
      refine (alive_any _).mono ?_
      rintro e w2 ⟨rfl, hb2⟩
      have H3 := Lib.hid hb2
      clear hb2
      go_wp2_with fail
      go_ret
      exact ⟨rfl, bt H2.out H3.out⟩
    | true =>
      have hlf := lightL_facts HB1.out
      have hmf := light_facts hb2
      have HF := Lib.hid (And.intro hlf hmf)
      clear hb2 hlf hmf
      obtain ⟨wb, hwb⟩ : ∃ wb, w1'.alloc (.cells bookCells 42) = wb := ⟨_, rfl⟩
      have hbb : Below w1'.heap.size w1' wb := by rw [← hwb]; exact (Below.refl _ _).alloc (Nat.le_refl _) _
      have hbs : wb.heap.size = w1'.heap.size + 1 := by rw [← hwb]; simp
      have b0 : ∀ o, o < 30 → wb.cell? ⟨w1'.heap.size, o, none⟩ = some (.slice none 0 0) := fun o ho => by rw [← hwb]; exact book_cell _ _ o ho
      have bf : ∀ j, wb.frozen? ⟨w1'.heap.size, j, none⟩ = false := fun j => by rw [← hwb]; exact fz_alloc _ _ _ _
      obtain ⟨bk, hbk⟩ : ∃ bk, bk = w1'.heap.size := ⟨_, rfl⟩
      rw [← hbk] at b0 bf hbs
      have hbkW : W.heap.size ≤ bk := by rw [hbk]; exact H2.out.size
      have hWb : Below W.heap.size W wb := bt H2.out hbb
      have HBK := Lib.hid (And.intro b0 (And.intro bf (And.intro hbs (And.intro hbkW hWb))))
      unfold bookCells at hwb
      clear b0 bf hbs hbkW hWb hbb
      go_upto_region 4 with fail
      clear hwb
      rw [← hbk]
      clear hbk
      go_wp2_with fail
      have hrm : Calls Tryz.prog 7 #[.slice a n cap] wb (MergeAns L wb) := by
        have := refmerge_any (c := cap) (HL.out.2.2.2.2.1.below HBK.out.2.2.2.2).rd (by have := HF.out.1.1; omega) (by have := HF.out.1.2.1; omega) (fun x hx => (light_facts (HF.out.1.2.2 x hx)).2.2)
        rwa [HL.out.2.2.1] at this
      refine hrm.mono ?_
      intro e w2 hans
      clear hrm
      obtain ⟨⟨wa, wn, wc⟩, want, code, rfl, hwo, hwm, hwl, hw2⟩ := mergeAns_one hans
      clear hans
      simp only [Sl.val] at hwo ⊢
      have hst0 : BkSt w2 bk w2.heap.size b00 := bkst_start (fun o ho => (hw2.cell (p := ⟨bk, o, none⟩) (by have := HBK.out.2.2.1; show bk < _; omega)).trans (HBK.out.1 o ho)) (fun j => (hw2.frozen (p := ⟨bk, j, none⟩) (by have := HBK.out.2.2.1; show bk < _; omega)).trans (HBK.out.2.1 j))
      have hW2 : Below W.heap.size W w2 := bt HBK.out.2.2.2.2 hw2
      have hwn : wn = want.length := by
        obtain ⟨_, _, e, _⟩ := row_form hwo
        injection e
      have H3 := Lib.hid (And.intro hwo (And.intro hwm (And.intro hwl (And.intro hst0 (And.intro hW2 (And.intro hwn hw2))))))
      clear hwo hwm hwl hst0 hW2 hwn hw2
      go_wp2_with fail
      go_loopw [10] (fun y wr => ∃ (k : Nat) (b : BB), k ≤ 2 ∧ y = .int .i64 (k : Int) ∧ BkSt wr bk w2.heap.size b ∧ b.S1.length = 2 * k ∧ Tn (fun q => q = bk ∨ w2.heap.size ≤ q) w2 wr) (fun y _ => 2 - (RowKit.intOf y).toNat)
      case atStart => exact ⟨0, b00, by omega, rfl, H3.out.2.2.2.1, rfl, Tn.refl _ _⟩
      case round =>
        obtain ⟨k, b, hk, rfl, hst, hbn, htn⟩ := hrel
        obtain ⟨wo, rfl⟩ : ∃ wo, wo = wr := ⟨_, rfl⟩
        have hWo : Below W.heap.size W wo := H3.out.2.2.2.2.1.trans (htn.below H3.out.2.2.2.2.1.size (fun q hq => by
          have h1 := HBK.out.2.2.2.1
          have h2 := H3.out.2.2.2.2.1.size
          rcases hq with hq | hq <;> omega))
        have HR := Lib.hid (And.intro hst (And.intro hbn (And.intro htn hWo)))
        clear hst hbn htn hWo
        by_cases hlt : k < 2
        · have z0 : (k : Int) < 2 := by omega
          have hrd : RdM wo a L := HL.out.2.2.2.2.1.below HR.out.2.2.2
          have HRD := Lib.hid hrd
          clear hrd
          go_wp2_with fail
          go_loopw [11, 12] (fun v y wx => ∃ (i : Nat) (Sx : List (Sl × List KV)), i ≤ n ∧ y = .int .i64 (i : Int) ∧ Lst eKV eSl wx wo.heap.size v Sx ∧ Sx.map (·.2) = L.take i ∧ (∀ j (hj : j < Sx.length), MarkAt wx Sx[j].1 Sx[j].2) ∧ Below wo.heap.size wo wx) (fun _ y _ => n - (RowKit.intOf y).toNat)
          case atStart => exact ⟨0, [], by omega, rfl, Lst.nil _ _, rfl, fun j hj => by simp at hj, Below.refl _ _⟩
          case round =>
            obtain ⟨i, Sx, hi, rfl, hS, hSm, hmk, hbx⟩ := hrel
            obtain ⟨vxa, vxc, rfl⟩ := hS.form
            have hSl : Sx.length = i := by
              have h1 := congrArg List.length hSm
              rw [List.length_map, List.length_take, HL.out.2.2.1] at h1
              omega
            by_cases hin : i < n
            · have hil : i < L.length := by rw [HL.out.2.2.1]; exact hin
              obtain ⟨gb, go, rfl, hc⟩ := HRD.out.resolve_left (fun e => by rw [e] at hil; simp at hil)
              obtain ⟨ai, ci, c0, hq⟩ := hc i hil
              have d0 := (hbx.cell (p := ⟨gb, go + i, none⟩) (World.block_lt_of_cell? _ _ c0)).trans c0
              have hmem := HF.out.1.2.2 _ (List.getElem_mem hil)
              have hlf := (light_facts hmem).1
              have htk : L.take (i + 1) = L.take i ++ [L[i]] := List.take_succ_eq_append_getElem hil
              obtain ⟨x, hx⟩ : ∃ x, L[i] = x := ⟨_, rfl⟩
              rw [hx] at d0 hq hlf htk
              obtain ⟨xn, hxn⟩ : ∃ xn, x.length = xn := ⟨_, rfl⟩
              rw [hxn] at d0 hlf
              have hcall := lentk_any (n := xn) (c := ci) (by have := (hq.below hbx).src; rwa [hxn] at this) hxn (by omega)
              have HX := Lib.hid (And.intro hS (And.intro hSm (And.intro hmk (And.intro hbx (And.intro hSl (And.intro htk hcall))))))
              have z1 : (i : Int) < (n : Int) := by omega
              have z2 : (0 : Int) ≤ (i : Int) := by omega
              rw [hSl]
              clear hc c0 hq hmem hS hSm hmk hbx htk hcall hx hxn hSl
              go_wp2_with fail
              refine HX.out.2.2.2.2.2.2.mono ?_
              rintro e w5 ⟨⟨sa, sn, sc⟩, rfl, hsn, ho5, hmk5, hb5⟩
              simp only [Sl.val]
              have hS5 : Lst eKV eSl (w5.alloc (.cells #[.slice sa sn sc] 23)) wo.heap.size (.slice vxa i vxc) Sx := by
                have h1 := (HX.out.1.below hb5).below ((Below.refl _ _).alloc (Nat.le_refl _) (.cells #[.slice sa sn sc] 23))
                rwa [HX.out.2.2.2.2.1] at h1
              have hsrc : Src eSl (w5.alloc (.cells #[.slice sa sn sc] 23)) (.slice (some ⟨w5.heap.size, 0, none⟩) 1 1) [(⟨sa, sn, sc⟩ : Sl)] := src_one (e := eSl) w5 (⟨sa, sn, sc⟩ : Sl) #[.slice sa sn sc] 23 rfl 1
              have H5 := Lib.hid (And.intro hS5 (And.intro hsrc (And.intro ho5 (And.intro hmk5 (And.intro hb5 hsn)))))
              have HLE : Hid ((Sx.map (·.1)).length + ([(⟨sa, sn, sc⟩ : Sl)]).length ≤ 100000000) := by unfold Hid; rw [List.length_map, HX.out.2.2.2.2.1]; simp; have := HF.out.1.1; have := HL.out.2.2.1; omega
              have hsz : wo.heap.size ≤ w5.heap.size := Nat.le_trans HX.out.2.2.2.1.size hb5.size
              clear hS5 hsrc ho5 hmk5 hb5 hsn
              go_wp2_with (at_builtin; go_loud (refine wpl_app2 eSl rfl _ _ rfl rfl rfl (v := .slice vxa i vxc) (l := Sx.map (·.1)) (l2 := [(⟨sa, sn, sc⟩ : Sl)]) H5.out.1.outer H5.out.2.1 HLE.out (by simp; omega) ?_); rw [List.length_map, HX.out.2.2.2.2.1]; intro a6 cap6 w6 ha6; have H6 := Lib.hid ha6; clear ha6)
              go_roundw
              case rel =>
                have h5 : Below w5.heap.size w5 (w5.alloc (.cells #[.slice sa sn sc] 23)) := (Below.refl _ _).alloc (Nat.le_refl _) _
                have hs5 : Own eKV (w5.alloc (.cells #[.slice sa sn sc] 23)) wo.heap.size (Sl.val ⟨sa, sn, sc⟩) x := row_mono (row_below H5.out.2.2.1 h5) HX.out.2.2.2.1.size
                have hne : ∀ q, (Sl.val ⟨sa, sn, sc⟩).ownBlock = some q → ¬ footL (.slice vxa i vxc) Sx q := fun q hq hf => by
                  have h1 := (H5.out.2.2.1.lt q hq).1
                  have h2 := HX.out.1
                  rw [HX.out.2.2.2.2.1] at h2
                  have := (h2.lt hf).2
                  omega
                have hls := H5.out.1.add hs5 hne H6.out
                have hout := H5.out.1.outer
                refine ⟨i + 1, Sx ++ [((⟨sa, sn, sc⟩ : Sl), x)], by omega, by go_num, hls, ?_, fun j hj => ?_, ?_⟩
                · rw [HX.out.2.2.2.2.2.1, List.map_append, HX.out.2.1]
                  rfl
                · rcases Nat.lt_or_ge j Sx.length with h1 | h1
                  · rw [List.getElem_append_left h1]
                    refine (((HX.out.2.2.1 j h1).below H5.out.2.2.2.2.1).below h5).tn H6.out.tn (fun q hq hv => ?_)
                    exact H5.out.1.sepO j h1 q hv hq
                  · have hj2 : j = Sx.length := by rw [List.length_append] at hj; simp at hj; omega
                    subst hj2
                    rw [List.getElem_append_right (Nat.le_refl _)]
                    simp only [Nat.sub_self, List.getElem_cons_zero]
                    exact (H5.out.2.2.2.1.below h5).tn H6.out.tn (fun q hq hv => hne q hq (.inl hv))
                · have h9 : Below wo.heap.size wo (w5.alloc (.cells #[.slice sa sn sc] 23)) := bt (bt HX.out.2.2.2.1 H5.out.2.2.2.2.1) h5
                  exact h9.trans (H6.out.tn.below h9.size (fun q hq => (hout.lt q hq).1))
              case measure => simp [intOf]; omega
            · obtain rfl : i = n := by omega
              obtain ⟨wx, rfl⟩ : ∃ wx, wx = wr := ⟨_, rfl⟩
              have hfull : L.take i = L := by rw [← HL.out.2.2.1]; exact List.take_length
              rw [hfull] at hSm
              have hWx : Below W.heap.size W wx := bt HR.out.2.2.2 hbx
              have hmq : RdQ wx am capm l := HL.out.2.2.2.2.2.1.below hWx
              have hlk := lentk_any (n := m) (c := capm) (by have := hmq.src; rwa [HL.out.2.2.2.1] at this) HL.out.2.2.2.1 (by have := HF.out.2.1; have := HL.out.2.2.2.1; omega)
              have HX := Lib.hid (And.intro hS (And.intro hSm (And.intro hmk (And.intro hbx (And.intro hWx hlk)))))
              have z1 : ¬ (i : Int) < (i : Int) := by omega
              rw [hSl]
              clear hS hSm hmk hbx hWx hmq hlk hfull hSl
              go_wp2_with fail
              refine HX.out.2.2.2.2.2.mono ?_
              rintro e w6 ⟨⟨ya, yn, yc⟩, rfl, hyn, hyo, hymk, hb6⟩
              simp only at hyn
              have hyn2 := hyn.symm
              subst hyn2
              simp only [Sl.val]
              have hSx6 := HX.out.1.below hb6
              have hmk6 := fun j hj => (HX.out.2.2.1 j hj).below hb6
              have hmg : Calls Tryz.prog 9 #[.slice vxa i vxc] w6 (MergeAns L w6) := by
                obtain ⟨a9, c9, e9, hr9⟩ := rdL_of_lst hSx6
                rw [HX.out.2.1] at e9 hr9
                injection e9 with q1 q2 q3
                subst q1 q3
                have := merge_any (c := vxc) hr9 (by have := HF.out.1.1; omega) (by have := HF.out.1.2.1; unfold lenS at this; omega)
                rwa [HL.out.2.2.1] at this
              have HY := Lib.hid (And.intro hyo (And.intro hymk (And.intro hb6 (And.intro hSx6 (And.intro hmk6 hmg)))))
              clear hyo hymk hb6 hSx6 hmk6 hmg
              go_wp2_with fail
              refine HY.out.2.2.2.2.2.mono ?_
              intro e w7 hans
              obtain ⟨⟨oa, on, oc⟩, out, code2, rfl, ho7, hans7, hol, hb7⟩ := mergeAns_one hans
              obtain ⟨e1, e2⟩ := hans7.uniq H3.out.2.1
              have e3 := e1.symm
              have e4 := e2.symm
              subst e3 e4
              clear e1 e2
              clear hans hans7
              have hon : on = want.length := by
                obtain ⟨_, _, e, _⟩ := row_form ho7
                injection e
              have hWw7 : Below W.heap.size W w7 := bt (bt HX.out.2.2.2.2.1 HY.out.2.2.1) hb7
              have hyp : RdP w7 ya yc l := by
                obtain ⟨a9, c9, e9, hr9⟩ := rdP_own (row_below HY.out.1 hb7 : Own eKV w7 wx.heap.size (Sl.val ⟨ya, m, yc⟩) l)
                unfold Sl.val at e9
                injection e9 with q1 q2 q3
                subst q1 q3
                exact hr9
              have hmax7 : MaxAt w7 := HL.out.2.2.2.2.2.2.1.below hWw7
              have hspl : Calls Tryz.prog 10 #[.slice ya m yc, .int .i64 s] w7 fun e w' => ∃ vo S, e = .returned vo ∧ Lst eKV eSl w' w7.heap.size vo S ∧ S.map (·.2) = (spl (grp hdF l) (max s 1)).1 ∧ Below w7.heap.size w7 w' := by
                have := split_any (hd := hdF) (c := yc) s HL.out.2.2.2.2.2.2.2.1 HL.out.2.2.2.2.2.2.2.2 hyp (by have := HF.out.2.1; omega) (by have := HF.out.2.2.1; omega) (fun p hp w' hb => head_any p.1 w' (hmax7.below hb) (short_le HF.out.2.2.1 hp))
                rwa [HL.out.2.2.2.1] at this
              have hgrp : ∀ w', Below w7.heap.size w7 w' → Calls Tryz.prog 11 #[.slice ya m yc] w' fun e w'' => ∃ vo S, e = .returned vo ∧ Lst eKV eSl w'' w'.heap.size vo S ∧ S.map (·.2) = grp hdF l ∧ Below w'.heap.size w' w'' := by
                intro w' hb
                have := group_any (w := w') (hd := hdF) (c := yc) (RdP.below (n := 0) hyp hb) (by have := HF.out.2.1; omega) (fun p hp w'' hb2 => head_any p.1 w'' ((hmax7.below hb).below hb2) (short_le HF.out.2.2.1 hp))
                rwa [HL.out.2.2.2.1] at this
              have H7 := Lib.hid (And.intro ho7 (And.intro hol (And.intro hb7 (And.intro hon (And.intro hWw7 (And.intro hyp (And.intro hspl hgrp)))))))
              clear ho7 hol hb7 hon hWw7 hyp hmax7 hspl hgrp
              go_wp2_with fail
              refine H7.out.2.2.2.2.2.2.1.mono ?_
              rintro e w8 ⟨vb, Sb, rfl, hSb, hSbm, hb8⟩
              obtain ⟨ba, bc, rfl⟩ := hSb.form
              have H8 := Lib.hid (And.intro hSb (And.intro hSbm hb8))
              clear hSb hSbm hb8
              go_wp2_with fail
              refine (H7.out.2.2.2.2.2.2.2 w8 H8.out.2.2).mono ?_
              rintro e w9 ⟨vc, Sc, rfl, hSc, hScm, hb9⟩
              obtain ⟨ca, cc, rfl⟩ := hSc.form
              -- all of it, in one world
              have hb79 : Below w7.heap.size w7 w9 := bt H8.out.2.2 hb9
              have hb69 : Below w6.heap.size w6 w9 := bt H7.out.2.2.1 hb79
              have hbx9 : Below wx.heap.size wx w9 := bt HY.out.2.2.1 hb69
              have hbo9 : Below wo.heap.size wo w9 := bt HX.out.2.2.2.1 hbx9
              have hW9 : Below W.heap.size W w9 := bt HR.out.2.2.2 hbo9
              have hb29 : Tn (fun q => q = bk ∨ w2.heap.size ≤ q) w2 w9 := HR.out.2.2.1.trans (Tn.ofBelow hbo9)
              have x9 := HY.out.2.2.2.1.below hb69
              have mk9 := fun j hj => (HY.out.2.2.2.2.1 j hj).below hb69
              have y9 : RdP w9 ya yc l := RdP.below (n := 0) H7.out.2.2.2.2.2.1 hb79
              have ym9 : MarkAt w9 ⟨ya, m, yc⟩ l := HY.out.2.1.below hb69
              have o9 : Own eKV w9 w6.heap.size (Sl.val ⟨oa, on, oc⟩) want := row_below H7.out.1 hb79
              have sb9 : Lst eKV eSl w9 w7.heap.size (.slice ba Sb.length bc) Sb := H8.out.1.below hb9
              have want9 : Own eKV w9 wb.heap.size (.slice wa wn wc) want := hb29.row H3.out.1 (fun q hq h9 => by
                have h1 := H3.out.1.lt q hq
                have h2 := HBK.out.2.2.1
                rcases h9 with h9 | h9 <;> omega)
              have wantP : RdP w9 wa wc want := by
                obtain ⟨a9, c9, e9, hr9⟩ := rdP_own want9
                injection e9 with q1 q2 q3
                subst q1 q3
                exact hr9
              have outP : RdP w9 oa oc want := by
                obtain ⟨a9, c9, e9, hr9⟩ := rdP_own o9
                unfold Sl.val at e9
                injection e9 with q1 q2 q3
                subst q1 q3
                exact hr9
              have hbc : ∀ q, footL (.slice ba Sb.length bc) Sb q → ¬ footL (.slice ca Sc.length cc) Sc q := fun q h1 h2 => by
                have := (H8.out.1.lt h1).2
                have := (hSc.lt h2).1
                omega
              have h9b := spl_facts (size := s) HF.out.2.1
              have h9c := grp_facts HF.out.2.1
              rw [← H8.out.2.1] at h9b
              rw [← hScm] at h9c
              have lenb := lens_of rfl h9b.2
              have lenc := lens_of rfl h9c.2
              have hnb : Sb.length ≤ 3000 := by have := h9b.1; rwa [List.length_map] at this
              have hnc : Sc.length ≤ 3000 := by have := h9c.1; rwa [List.length_map] at this
              have hdab : ∀ q, (Sl.val ⟨oa, on, oc⟩).ownBlock = some q → ¬ footL (.slice ba Sb.length bc) Sb q ∧ ¬ footL (.slice ca Sc.length cc) Sc q := fun q hq => by
                have h1 := (H7.out.1.lt q hq).2
                refine ⟨fun h2 => ?_, fun h2 => ?_⟩
                · have := (H8.out.1.lt h2).1; omega
                · have := (hSc.lt h2).1
                  have := H8.out.2.2.size
                  omega
              have hst9 : RdSt w2 w9 bk b (.slice ba Sb.length bc) Sb (.slice ca Sc.length cc) Sc (fun q => (Sl.val ⟨oa, on, oc⟩).ownBlock = some q ∨ Pb (.slice ba Sb.length bc) Sb (.slice ca Sc.length cc) Sc 0 q) :=
                rd_start HR.out.1 HR.out.2.2.1 hbo9 (fun q hq => ⟨by have := (o9.lt q hq).1; have := HX.out.2.2.2.1.size; have := HY.out.2.2.1.size; omega, (o9.lt q hq).2⟩) (sb9.mono (by have := HX.out.2.2.2.1.size; have := HY.out.2.2.1.size; have := H7.out.2.2.1.size; omega)) (hSc.mono (by have := HX.out.2.2.2.1.size; have := HY.out.2.2.1.size; have := H7.out.2.2.1.size; have := H8.out.2.2.size; omega)) hbc lenb lenc
              have hsz29 : w2.heap.size ≤ w6.heap.size := by have := HR.out.2.2.1.size; have := HX.out.2.2.2.1.size; have := HY.out.2.2.1.size; omega
              have HW := Lib.hid (And.intro hW9 (And.intro wantP (And.intro outP (And.intro y9 (And.intro ym9 (And.intro x9 (And.intro HX.out.2.1 mk9)))))))
              have HB := Lib.hid (And.intro sb9 (And.intro H8.out.2.1 (And.intro hSc hScm)))
              have HST := Lib.hid (And.intro hst9 (And.intro o9 (And.intro hdab hsz29)))
              have HON := Lib.hid (And.intro H7.out.2.2.2.1 (And.intro H3.out.2.2.2.2.2.1 (And.intro H7.out.2.1 (And.intro h9b.2 h9c.2))))
              clear hb79 hb69 hbx9 hbo9 hW9 hb29 x9 mk9 y9 ym9 o9 sb9 want9 wantP outP hbc h9b h9c lenb lenc hdab hst9 hSc hScm hb9 HX HY H7 H8 HRD hsz29
              have hln5 : want.length ≤ 100000 := by have := HON.out.2.2.1; have := HF.out.1.2.1; omega
              have hk9 : Calls Tryz.prog 12 #[.slice oa on oc, .slice wa wn wc] w9 fun e w' => e = .returned (.bool true) ∧ Below w9.heap.size w9 w' := by
                rw [HON.out.1, HON.out.2.1]
                exact samekeys_want HW.out.2.2.1 HW.out.2.1 hln5
              have hsp9 : ∀ w', Below w9.heap.size w9 w' → Calls Tryz.prog 14 #[.slice am m capm, .int .i64 s] w' fun e w'' => ∃ vo S, e = .returned vo ∧ Lst eKV eSl w'' w'.heap.size vo S ∧ S.map (·.2) = (spl (grp hdF l) (max s 1)).1 ∧ Below w'.heap.size w' w'' := by
                intro w' hb
                have := refsplit_any (w := w') (hd := hdF) (c := capm) s HL.out.2.2.2.2.2.2.2.1 HL.out.2.2.2.2.2.2.2.2 (HL.out.2.2.2.2.2.1.below (bt HW.out.1 hb)).1 (by have := HF.out.2.1; omega) (by have := HF.out.2.2.1; omega) (fun p hp w'' _ => refhead_any p.1 w'' (short_le HF.out.2.2.1 hp))
                rwa [HL.out.2.2.2.1] at this
              have hgr9 : ∀ w', Below w9.heap.size w9 w' → Calls Tryz.prog 15 #[.slice am m capm] w' fun e w'' => ∃ vo S, e = .returned vo ∧ Lst eKV eSl w'' w'.heap.size vo S ∧ S.map (·.2) = grp hdF l ∧ Below w'.heap.size w' w'' := by
                intro w' hb
                have := refgroup_any (w := w') (hd := hdF) (c := capm) (HL.out.2.2.2.2.2.1.below (bt HW.out.1 hb)).1 (by have := HF.out.2.1; omega) (fun p hp w'' _ => refhead_any p.1 w'' (short_le HF.out.2.2.1 hp))
                rwa [HL.out.2.2.2.1] at this
              have hsy9 : ∀ w', Below w9.heap.size w9 w' → Calls Tryz.prog 16 #[.slice ya m yc, .slice am m capm] w' fun e w'' => e = .returned (.bool true) ∧ Below w'.heap.size w' w'' := by
                intro w' hb
                have := staysk_any (w := w') (s := ⟨ya, m, yc⟩) (cb := capm) (ao := am) (RdP.below (n := 0) HW.out.2.2.2.1 hb) (HW.out.2.2.2.2.1.below hb) (HL.out.2.2.2.2.2.1.below (bt HW.out.1 hb)).1 (by have := HF.out.2.1; omega)
                rw [HL.out.2.2.2.1] at this
                exact this.mono (fun e w'' ⟨h1, d, h2⟩ => ⟨h1, by rw [h2]; exact drew_below _ _⟩)
              have HC := Lib.hid (And.intro hk9 (And.intro hsp9 (And.intro hgr9 hsy9)))
              have t7 : (code != code) = false := by simp
              clear hk9 hsp9 hgr9 hsy9
              go_wp2_with fail
              refine HC.out.1.mono ?_
              rintro e w10 ⟨rfl, hb10⟩
              have H10 := Lib.hid hb10
              clear hb10
              go_wp2_with fail
              refine (HC.out.2.1 w10 H10.out).mono ?_
              rintro e w11 ⟨vd, Sd, rfl, hSd, hSdm, hb11⟩
              obtain ⟨da, dc, rfl⟩ := hSd.form
              have hb911 := bt H10.out hb11
              have hsl11 := samelists_lst (HB.out.1.below hb911) hSd (HB.out.2.1.trans hSdm.symm) hnb HON.out.2.2.2.1
              have H11 := Lib.hid (And.intro hb911 hsl11)
              clear hSd hSdm hb11 hb911 hsl11 H10
              go_wp2_with fail
              refine H11.out.2.mono ?_
              rintro e w12 ⟨rfl, hb12⟩
              have H12 := Lib.hid (bt H11.out.1 hb12)
              clear hb12 H11
              go_wp2_with fail
              refine (HC.out.2.2.1 w12 H12.out).mono ?_
              rintro e w13 ⟨ve, Se, rfl, hSe, hSem, hb13⟩
              obtain ⟨ea, ec, rfl⟩ := hSe.form
              have hb913 := bt H12.out hb13
              have hsl13 := samelists_lst (HB.out.2.2.1.below hb913) hSe (HB.out.2.2.2.trans hSem.symm) hnc HON.out.2.2.2.2
              have H13 := Lib.hid (And.intro hb913 hsl13)
              clear hSe hSem hb13 hb913 hsl13 H12
              go_wp2_with fail
              refine H13.out.2.mono ?_
              rintro e w14 ⟨rfl, hb14⟩
              have H14 := Lib.hid (bt H13.out.1 hb14)
              clear hb14 H13
              go_wp2_with fail
              refine (HC.out.2.2.2 w14 H14.out).mono ?_
              rintro e w15 ⟨rfl, hb15⟩
              have hb915 := bt H14.out hb15
              have hx15 := HW.out.2.2.2.2.2.1.below hb915
              have hm15 : ∀ j (hj : j < Sx.length), MarkAt w15 Sx[j].1 Sx[j].2 := fun j hj => (HW.out.2.2.2.2.2.2.2 j hj).below hb915
              have hr15 : RdM w15 a L := HL.out.2.2.2.2.1.below (bt HW.out.1 hb915)
              have H15 := Lib.hid (And.intro hb915 (And.intro hx15 (And.intro hm15 (And.intro hr15 HW.out.2.2.2.2.2.2.1))))
              clear hb15 hb915 hx15 hm15 hr15 H14 HC
              go_wp2_with fail
              -- the lent lists stay
              go_loopw [18] (fun y wz => ∃ (j d : Nat), j ≤ i ∧ y = .int .i64 (j : Int) ∧ wz = w15.drewN d) (fun y _ => i - (RowKit.intOf y).toNat)
              case atStart => exact ⟨0, 0, by omega, rfl, rfl⟩
              case round =>
                obtain ⟨j, d, hj, rfl, hwz⟩ := hrel
                have HZ := Lib.hid hwz
                clear hwz
                by_cases hji : j < i
                · have hjl : j < L.length := by rw [HL.out.2.2.1]; exact hji
                  obtain ⟨gb, go, rfl, hc⟩ := H15.out.2.2.2.1.resolve_left (fun e => by rw [e] at hjl; simp at hjl)
                  obtain ⟨ai, ci, c0, hq⟩ := hc j hjl
                  obtain ⟨gx, cx, s', ⟨hjS, hs'⟩, hvx, cs, hrs⟩ := lst_stays H15.out.2.1 H15.out.2.2.2.2 hjl
                  have hmk := H15.out.2.2.1 j hjS
                  rw [hs'] at hmk
                  have hSj : Sx[j].2 = L[j] := by
                    have h1 := congrArg (fun l => l[j]?) H15.out.2.2.2.2
                    simp only [List.getElem?_map, List.getElem?_eq_getElem hjS, List.getElem?_eq_getElem hjl, Option.map_some, Option.some.injEq] at h1
                    exact h1
                  rw [hSj] at hmk
                  have hlf := (light_facts (HF.out.1.2.2 _ (List.getElem_mem hjl))).1
                  have hcall0 : ∀ dd, Calls Tryz.prog 16 #[.slice s'.a L[j].length s'.cap, .slice ai L[j].length ci] (wr.drewN dd) fun e w'' => e = .returned (.bool true) ∧ ∃ d, w'' = (wr.drewN dd).drewN d := by
                    intro dd
                    rw [HZ.out, World.drewN_drewN]
                    exact staysk_any (hrs.drewN _) (hmk.below (drew_below _ _)) (hq.1.drewN _) (by omega)
                  injection hvx with v1 _ v3
                  subst v1 v3
                  obtain ⟨xn, hxn⟩ : ∃ xn, L[j].length = xn := ⟨_, rfl⟩
                  rw [hxn] at c0 cs hcall0
                  obtain ⟨sa, sn, sc⟩ := s'
                  simp only at cs hcall0
                  have e0 : wr.cell? ⟨gb, go + j, none⟩ = some (.slice ai xn ci) := by rw [HZ.out]; exact c0
                  have e1 : wr.cell? ⟨gx, j, none⟩ = some (.slice sa xn sc) := by rw [HZ.out]; exact cs
                  have z3 : (j : Int) < (i : Int) := by omega
                  have z4 : (0 : Int) ≤ (j : Int) := by omega
                  clear hc c0 hq hs' cs hrs hmk hSj hlf hxn
                  go_wp2_with fail
                  go_quiet ((go_at_call 16; with_reducible exact Calls.quiet_of (hcall0 _)))
                  clear hcall0
                  go_wp2_with fail
                  go_roundw
                  case rel => exact ⟨j + 1, _, by omega, by go_num, by rw [HZ.out]; exact World.drewN_drewN _ _ _⟩
                  case measure => simp [intOf]; omega
                · obtain rfl : j = i := by omega
                  have z3 : ¬ (j : Int) < (j : Int) := by omega
                  have hbz : Below w9.heap.size w9 wr := by rw [HZ.out]; exact bt H15.out.1 (drew_below _ _)
                  have hka := rd_keysA (l := want) (HST.out.1.grow0 hbz) (row_below HST.out.2.1 hbz) HST.out.2.2.2 (by have := HON.out.2.2.1; have := HF.out.1.2.1; omega) HST.out.2.2.1
                  have HKA := Lib.hid hka
                  clear hbz hka H15 HB HW
                  go_wp2_with fail
                  refine HKA.out.mono ?_
                  rintro e w16 ⟨rfl, b1, hst1, hn1⟩
                  have HR1 := Lib.hid (And.intro hst1 hn1)
                  clear hst1 hn1 HKA HST
                  go_wp2_with fail
                  go_loopw [19] (fun y wz => ∃ (j : Nat) (b : BB), j ≤ Sb.length ∧ y = .int .i64 (j : Int) ∧ RdSt w2 wz bk b (.slice ba Sb.length bc) Sb (.slice ca Sc.length cc) Sc (Pb (.slice ba Sb.length bc) Sb (.slice ca Sc.length cc) Sc j) ∧ b.S1.length = 2 * k) (fun y _ => Sb.length - (RowKit.intOf y).toNat)
                  case atStart => exact ⟨0, b1, by omega, rfl, HR1.out.1, HR1.out.2.trans HR.out.2.1⟩
                  case round =>
                    obtain ⟨q, b2, hq, rfl, hst2, hn2⟩ := hrel
                    by_cases hqn : q < Sb.length
                    · obtain ⟨gb, gcap, hgv, hgc⟩ := hst2.lb.read hqn
                      injection hgv with v1 _ v3
                      subst v1 v3
                      have hcl := rd_keysB hst2 hqn
                      obtain ⟨sx, hsx⟩ : ∃ sx, Sb[q].1 = sx := ⟨_, rfl⟩
                      rw [hsx] at hgc hcl
                      obtain ⟨sa, sn, sc⟩ := sx
                      simp only [Sl.val] at hgc hcl
                      have HCL := Lib.hid hcl
                      have z5 : (q : Int) < (Sb.length : Int) := by omega
                      have z6 : (0 : Int) ≤ (q : Int) := by omega
                      clear hcl hsx hst2
                      go_wp2_with fail
                      refine HCL.out.mono ?_
                      rintro e w17 ⟨rfl, b3, hst3, hn3⟩
                      have HR3 := Lib.hid (And.intro hst3 hn3)
                      clear hst3 hn3 hgc
                      go_wp2_with fail
                      go_roundw
                      case rel => exact ⟨q + 1, b3, by omega, by go_num, HR3.out.1, HR3.out.2.trans hn2⟩
                      case measure => simp [intOf]; omega
                    · obtain rfl : q = Sb.length := by omega
                      have z5 : ¬ (Sb.length : Int) < (Sb.length : Int) := by omega
                      have HR2 := Lib.hid (And.intro hst2.b_to_c hn2)
                      clear hst2 hn2
                      go_wp2_with fail
                      go_loopw [20] (fun y wz => ∃ (j : Nat) (b : BB), j ≤ Sc.length ∧ y = .int .i64 (j : Int) ∧ RdSt w2 wz bk b (.slice ba Sb.length bc) Sb (.slice ca Sc.length cc) Sc (Pc (.slice ba Sb.length bc) (.slice ca Sc.length cc) Sc j) ∧ b.S1.length = 2 * k) (fun y _ => Sc.length - (RowKit.intOf y).toNat)
                      case atStart => exact ⟨0, b2, by omega, rfl, HR2.out.1, HR2.out.2⟩
                      case round =>
                        obtain ⟨q, b3, hq, rfl, hst3, hn3⟩ := hrel
                        by_cases hqn : q < Sc.length
                        · obtain ⟨gb, gcap, hgv, hgc⟩ := hst3.lc.read hqn
                          injection hgv with v1 _ v3
                          subst v1 v3
                          have hcl := rd_keysC hst3 hqn
                          obtain ⟨sx, hsx⟩ : ∃ sx, Sc[q].1 = sx := ⟨_, rfl⟩
                          rw [hsx] at hgc hcl
                          obtain ⟨sa, sn, sc⟩ := sx
                          simp only [Sl.val] at hgc hcl
                          have HCL := Lib.hid hcl
                          have z5 : (q : Int) < (Sc.length : Int) := by omega
                          have z6 : (0 : Int) ≤ (q : Int) := by omega
                          clear hcl hsx hst3
                          go_wp2_with fail
                          refine HCL.out.mono ?_
                          rintro e w17 ⟨rfl, b4, hst4, hn4⟩
                          have HR4 := Lib.hid (And.intro hst4 hn4)
                          clear hst4 hn4 hgc
                          go_wp2_with fail
                          go_roundw
                          case rel => exact ⟨q + 1, b4, by omega, by go_num, HR4.out.1, HR4.out.2.trans hn3⟩
                          case measure => simp [intOf]; omega
                        · obtain rfl : q = Sc.length := by omega
                          have z6 : ¬ (Sc.length : Int) < (Sc.length : Int) := by omega
                          have hcl := rd_listsB (s := ⟨ba, Sb.length, bc⟩) rfl hst3 (by omega) (by omega)
                          simp only [Sl.val] at hcl
                          have HCL := Lib.hid (And.intro hcl hn3)
                          clear hst3 hn3 hcl
                          go_wp2_with fail
                          refine HCL.out.1.mono ?_
                          rintro e w18 ⟨rfl, b5, hst5, hn5⟩
                          have hcl2 := rd_listsC (s := ⟨ca, Sc.length, cc⟩) rfl hst5 (by omega) (by have := HCL.out.2; omega)
                          simp only [Sl.val] at hcl2
                          have HCL2 := Lib.hid (And.intro hcl2 hn5)
                          clear hst5 hn5 hcl2
                          go_wp2_with fail
                          refine HCL2.out.1.mono ?_
                          rintro e w19 ⟨rfl, b6, hst6, hn6⟩
                          have HR6 := Lib.hid (And.intro hst6 hn6)
                          clear hst6 hn6
                          go_wp2_with fail
                          go_roundw
                          case rel => exact ⟨k + 1, b6, by omega, by go_num, HR6.out.1.1, by have := HR6.out.2; have := HCL2.out.2; have := HCL.out.2; omega, HR6.out.1.2⟩
                          case measure => simp [intOf]; omega
        · obtain rfl : k = 2 := by omega
          have z0 : ¬ ((2 : Nat) : Int) < 2 := by omega
          go_wp2_with fail
          refine (alive_any _).mono ?_
          rintro e w4 ⟨rfl, hb4⟩
          have hap := rd_apart (HR.out.1.below hb4) (by have := HR.out.2.1; omega) (HR.out.2.2.1.trans (Tn.ofBelow hb4))
          have HAP := Lib.hid hap
          clear hap hb4
          go_wp2_with fail
          refine HAP.out.mono ?_
          rintro e w5 ⟨rfl, ht5⟩
          have H5 := Lib.hid ht5
          clear ht5
          go_wp2_with fail
          go_ret
          exact ⟨rfl, H3.out.2.2.2.2.1.trans (H5.out.below H3.out.2.2.2.2.1.size (fun q hq => by
            have h1 := HBK.out.2.2.2.1
            have h2 := H3.out.2.2.2.2.1.size
            rcases hq with hq | hq <;> omega))⟩
end Go.Proofs.YtkeggcfnoonakaaGreat
