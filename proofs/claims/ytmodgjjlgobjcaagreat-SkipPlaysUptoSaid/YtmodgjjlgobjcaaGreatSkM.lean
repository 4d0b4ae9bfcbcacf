/-
  From.
-/
import Derived.Test.YtmodgjjlgobjcaaGreatRound
import Derived.Deep.AppendLies
import Derived.Deep.Onto
namespace Go.Proofs.YtmodgjjlgobjcaaGreat
open Go.RowKit Go.Shelf

attribute [local go_sem] Oper.semAt_some

theorem info_kv : (Tryz.prog.info? 74).map (fun i => (i.zero, i.size, i.bytes)) = some (some (.agg #[.string ⟨#[]⟩, .string ⟨#[]⟩]), 2, 32) := by kernel_rfl

def kvCell (p : ByteArray × ByteArray) : List Value := [.string p.1, .string p.2]
def kvCells (l : List (ByteArray × ByteArray)) : List Value := l.flatMap kvCell
theorem kvCells_append (a b : List (ByteArray × ByteArray)) : kvCells (a ++ b) = kvCells a ++ kvCells b := by simp [kvCells]
/-- A row of pairs. -/
def OwnKv (w : World) (base : Nat) (v : Value) (l : List (ByteArray × ByteArray)) : Prop := w.ownsRow base 74 2 v l.length (kvCells l)
theorem kv_form {w : World} {base : Nat} {v : Value} {l : List (ByteArray × ByteArray)} (h : OwnKv w base v l) : ∃ a cap, v = .slice a l.length cap := by
  obtain ⟨_, h2⟩ := h
  rcases h2 with ⟨rfl, h0⟩ | ⟨g, cap, cur, rfl, _⟩
  · exact ⟨none, 0, by rw [h0]⟩
  · exact ⟨_, _, rfl⟩

/-- What From tells. -/
def kvOf (n : Nd) : ByteArray × ByteArray := (n.k, n.v)
def fromOf (L : List Nd) (k : ByteArray) (most : Int) : List (ByteArray × ByteArray) :=
  if 0 ≤ most then ((L.drop (below L k)).take most.toNat).map kvOf else (L.drop (below L k)).map kvOf

theorem step_append_kv {w : World} {ops : Array Oper} {o : Oper} {a : Act} {K : Act → World → Prop} {Q : Exit → Act → World → Prop} {E : Prop} (hgd : o.guard = none) (s x : Operand)
    (ho : o.op = .call { callee := .builtin .append, args := #[s, x], argTypes := #[59, 59] }) (base : Nat) (v : Value) (l : List (ByteArray × ByteArray)) (hs : a.eval s = v) (hown : OwnKv w base v l) (hbase : base ≤ w.heap.size) (m : ByteArray × ByteArray)
    (ad : Addr) (c : Nat) (hx : a.eval x = .slice (some ad) 1 c) (hnews : ∀ j u, (kvCell m)[j]? = some u → w.cell? (ad.add j) = some u) (hlen : l.length ≤ 100000)
    (h : ∀ g cap w', OwnKv w' base (.slice (some ⟨g, 0, none⟩) (l.length + 1) cap) (l ++ [m]) → w.grownBy w' v.ownBlock → (v.ownBlock = some g ∨ g = w.heap.size) → g < w'.heap.size → K (a.put o.dst (.slice (some ⟨g, 0, none⟩) (l.length + 1) cap)) w') :
    if Region.wanted o (yielded ops a.tmps) = true then Oper.wp Tryz.prog o a w K Q else E := by
  obtain ⟨i, hi, hz, hsz, hby⟩ := info_parts info_kv
  refine step_append_lies w hgd s x 59 ho base 74 i (.agg #[.string ⟨#[]⟩, .string ⟨#[]⟩]) 2 32 Tryz.underlying59 hi hz hsz hby rfl (by decide) v l.length (kvCells l) hs hown ad 1 c (kvCell m) hx rfl hnews ?_ (by decide) (by unfold maxLen; omega) (by omega) hbase _ rfl ?_
  · intro u hu
    simp only [kvCell, List.mem_cons, List.not_mem_nil, or_false] at hu
    rcases hu with rfl | rfl <;> rfl
  · intro g cap w' h2 h3 h4 h5
    refine h g cap w' ?_ h3 h4 h5
    show w'.ownsRow base 74 2 _ _ _
    rw [List.length_append, kvCells_append]
    simpa [kvCells] using h2

theorem OwnKv.own {W A : World} {base : Nat} {v : Value} {l : List (ByteArray × ByteArray)} {row : Option Nat} (h : OwnKv W base v l) (hg : W.grownBy A row) (hr : ∀ r, row = some r → ∃ o : Obj, W.heap[r]? = some o ∧ o.isCells = false) : OwnKv A base v l := by
  refine (Tn.ofGrown (F := fun q => row = some q) hg (fun _ e => e)).row h (fun q hq hrow => ?_)
  obtain ⟨o, ho, hc⟩ := hr q hrow
  obtain ⟨_, h2⟩ := h
  rcases h2 with ⟨rfl, _⟩ | ⟨g, cap, cur, rfl, _, hb, _⟩
  · cases hq
  · have e : g = q := by simpa [Value.ownBlock] using hq
    subst e
    rw [hb] at ho
    cases ho
    cases hc

theorem OwnKv.own_ge {W : World} {base : Nat} {v : Value} {l : List (ByteArray × ByteArray)} (h : OwnKv W base v l) : ∀ q, v.ownBlock = some q → base ≤ q ∧ ∃ o : Obj, W.heap[q]? = some o ∧ o.isCells = true := by
  intro q hq
  obtain ⟨_, h2⟩ := h
  rcases h2 with ⟨rfl, _⟩ | ⟨g, cap, cur, rfl, hg, hb, _⟩
  · cases hq
  · have e : g = q := by simpa [Value.ownBlock] using hq
    subst e
    exact ⟨hg, _, hb, rfl⟩

set_option maxRecDepth 100000 in
theorem from_end {w V : World} {D : Nat} {v : Value} {l : List (ByteArray × ByteArray)} {T : Array Value}
    (hK : V.heap[D]? = some (.deferred (some []))) (h1 : OwnKv V (w.heap.size + 2) v l) (hb : Below w.heap.size w V) (hD : w.heap.size ≤ D) (t6 : T[6]? = some v) : bodyPostM Fence.wide 9 Tryz.prog Tryz.f10 (fun e w' => ∃ v, e = .returned v ∧ OwnKv w' w.heap.size v l ∧ Below w.heap.size w w') Exit.ret
    { tmps := T, defers := [{ target := Target.collected D, args := #[] }] } V := by
  refine ⟨by simp, .inl ⟨_, _, rfl, run_takeDeferred hK, ?_⟩⟩
  refine ⟨v, ?_, _, rfl, World.ownsRow.mono (ownsRow_putObj h1 _ hK rfl) (by omega), hb.trans (belowK_b (w := w) (Nat.le_refl _) V D _ _ hD hK rfl rfl)⟩
  simp [results, Tryz.f10, go_sem, t6]

def kvPre {L : List Nd} (pre : List (In L)) : List (ByteArray × ByteArray) := pre.map fun x => kvOf x.1
theorem kvPre_snoc {L : List Nd} (pre : List (In L)) (x : In L) : kvPre (pre ++ [x]) = kvPre pre ++ [kvOf x.1] := by simp [kvPre]
theorem kvPre_from {L : List Nd} (m : Nat) : kvPre (from_ L m) = (L.drop m).map kvOf := by
  rw [← from_val (L := L)]
  simp [kvPre]

/-- What is so between two rounds. -/
def FromI (w : World) {L : List Nd} (most : Int) (pre : List (In L)) (W : World) : Prop :=
  BoxAt W w.heap.size (.int .i64 most) ∧ ∃ v, BoxAt W (w.heap.size + 1) v ∧ OwnKv W (w.heap.size + 2) v (kvPre pre) ∧ (0 ≤ most → (pre.length : Int) ≤ most)
theorem FromI.own {w W A : World} {L : List Nd} {most : Int} {pre : List (In L)} {row : Option Nat} (h : FromI w most pre W) (hg : W.grownBy A row) (hr : ∀ r, row = some r → ∃ o : Obj, W.heap[r]? = some o ∧ o.isCells = false) : FromI w most pre A := by
  obtain ⟨h1, v, h2, h3, h4⟩ := h
  exact ⟨h1.own hg hr, v, h2.own hg hr, h3.own hg hr, h4⟩

set_option maxRecDepth 100000 in
set_option maxHeartbeats 2000000 in
theorem from_core {w : World} {o : Option Addr} {L : List Nd} {k : ByteArray} (s : ListAt w o L k) (hlen : L.length ≤ 100000) (most : Int) (hm0 : -9223372036854775808 ≤ most) (hm1 : most ≤ 9223372036854775807) :
    Calls Tryz.prog 10 #[.pointer o, .string k, .int .i64 most] w fun e w' =>
      ∃ v, e = .returned v ∧ OwnKv w' w.heap.size v (fromOf L k most) ∧ Below w.heap.size w w' := by
  have HS := Lib.hid s
  have HL := Lib.hid hlen
  clear s hlen
  refine (callsIn_wide (n := 9)).1 ?_
  refine callsIn_of_wp_marks Tryz.func10 rfl trivial ?_ rfl
  simp only [Tryz.ntmps10, List.size_toArray, List.length_cons, List.length_nil, Nat.reduceAdd, Nat.reduceSub, Array.replicate_succ, Array.replicate_zero, List.push_toArray, List.append_toArray, List.nil_append, List.cons_append]
  gi_wp2_with (refine ⟨trivial, ?_⟩; gi_at_call 31; refine (callsIn_wide.2 (all_any _ _ _)).mono ?_; rintro e w' ⟨rfl, rfl⟩)
  obtain ⟨W4, hW4, c0, c1, c2, c3, hb4, hz4⟩ : ∃ W4, (((w.alloc (.cells #[.int .i64 most] 3)).alloc (.cells #[.slice none 0 0] 59)).alloc (.cells #[.pointer o] 24)).alloc (.cells #[.string k] 9) = W4 ∧ BoxAt W4 w.heap.size (.int .i64 most) ∧ BoxAt W4 (w.heap.size + 1) (.slice none 0 0) ∧ BoxAt W4 (w.heap.size + 1 + 1) (.pointer o) ∧ BoxAt W4 (w.heap.size + 1 + 1 + 1) (.string k) ∧ Below w.heap.size w W4 ∧ W4.heap.size = w.heap.size + 4 := by
    refine ⟨_, rfl, ?_, ?_, ?_, ?_, ?_, by simp⟩
    · exact (((BoxAt.new w _ _).alloc _).alloc _).alloc _
    · have := (((BoxAt.new (w.alloc (.cells #[.int .i64 most] 3)) (.slice none 0 0) 59).alloc (.cells #[.pointer o] 24)).alloc (.cells #[.string k] 9))
      simpa using this
    · have := ((BoxAt.new ((w.alloc (.cells #[.int .i64 most] 3)).alloc (.cells #[.slice none 0 0] 59)) (.pointer o) 24).alloc (.cells #[.string k] 9))
      simpa using this
    · have := (BoxAt.new (((w.alloc (.cells #[.int .i64 most] 3)).alloc (.cells #[.slice none 0 0] 59)).alloc (.cells #[.pointer o] 24)) (.string k) 9)
      simpa using this
    · exact ((((Below.refl _ w).alloc (Nat.le_refl _) _).alloc (by simp) _).alloc (by simp; omega) _).alloc (by simp; omega) _
  rw [hW4]
  clear hW4
  have hs4 := HS.out.stops W4 (w.heap.size + 1 + 1) (w.heap.size + 1 + 1 + 1) hb4 (by omega) (by omega) c2.1 c3.1
  refine wpIn_rangeFunc_ownF rfl (by decide) (gf := 98) (lb := #[.pointer (some ⟨w.heap.size + 1 + 1, 0, none⟩), .pointer (some ⟨w.heap.size + 1 + 1 + 1, 0, none⟩)]) rfl trivial (enters_of Tryz.func98 (by kernel_rfl) rfl)
    hs4 belowK_t (belowK_b (by omega)) (Below.refl _ _) (fun _ => rfl)
    (fun pre W => FromI w most pre W ∧ Below w.heap.size w W)
    (fun c pre W => (c = .exit 0 ∧ ∃ ys x, pre = ys ++ [x] ∧ FromI w most ys W ∧ 0 ≤ most ∧ most ≤ (ys.length : Int)) ∧ Below w.heap.size w W)
    (OwnFrom.and (Own.from (fun s A B row hs hg hr => hs.own hg hr) _) (ownFrom_below (Nat.le_refl _) (by omega)))
    (fun c => OwnFrom.and (Own.from (fun s A B row hs hg hr => by
      obtain ⟨h1, ys, x, h2, h3, h4⟩ := hs
      exact ⟨h1, ys, x, h2, h3.own hg hr, h4⟩) _) (ownFrom_below (Nat.le_refl _) (by omega)))
    ⟨⟨c0, _, c1, World.ownsRow_nil _ _ _ _, fun h => h⟩, hb4⟩
    (fun x => { tmps := #[.pointer o, .string k, .int .i64 most, undef, undef, .pointer (some ⟨w.heap.size, 0, none⟩), .slice none 0 0, .pointer (some ⟨w.heap.size + 1, 0, none⟩), .pointer (some ⟨x.1.b, 0, none⟩), .pointer o, .string k, .func (.func 98) #[] #[.pointer (some ⟨w.heap.size + 1 + 1, 0, none⟩), .pointer (some ⟨w.heap.size + 1 + 1 + 1, 0, none⟩)], .pointer (some ⟨x.1.b, 0, none⟩), undef, undef, undef, undef, undef, undef, undef, undef, undef, undef, undef, undef, undef, undef, undef, undef, undef, undef, undef, undef, undef], defers := [] }) ?assign ?body ?done ?stop
  case assign =>
    intro l x W K hK
    unfold encN
    gi_wp2
    exact hK
  case body =>
    rintro l pre x W ⟨⟨d0, v, d1, hrow, hmost⟩, hB⟩ hpl
    obtain ⟨x, hx⟩ := x
    obtain ⟨a1, cap1, rfl⟩ := kv_form hrow
    have hkl : (kvPre pre).length = pre.length := by simp [kvPre]
    rw [from_len] at hpl
    have hnl : pre.length ≤ 100000 := by have := HL.out; omega
    obtain ⟨n, hn⟩ : ∃ n, n = (kvPre pre).length := ⟨_, rfl⟩
    have hnd := HS.out.node W hB x hx
    have n0 := hnd.c0
    have n1 := hnd.c1
    have d01 := d0.1
    have d11 := d1.1
    have d12 := d1.2
    have d12c := d1.1
    rw [← hn] at d11
    have hmn : 0 ≤ most → (n : Int) ≤ most := fun h => by have := hmost h; omega
    have HX := Lib.hid (And.intro hB (And.intro d0 (And.intro d1 hrow)))
    have HN := Lib.hid (And.intro hn hkl)
    have HM := Lib.hid hmost
    have hsz : w.heap.size + 1 < W.heap.size := World.block_lt_of_cell? _ _ d12c
    clear hnd hn hkl d0 d1 hB hrow hmost d12c
    by_cases hc : 0 ≤ most ∧ most ≤ n
    · obtain ⟨hc1, hc2⟩ := hc
      have t1 : decide ((0 : Int) ≤ most) = true := by simpa using hc1
      have t2 : decide (most ≤ (n : Int)) = true := by simpa using hc2
      gi_wp2
      exact ⟨KeepsOthers.refl _, ⟨rfl, pre, ⟨x, hx⟩, rfl, ⟨HX.out.2.1, _, HX.out.2.2.1, HX.out.2.2.2, HM.out⟩, hc1, by have := HN.out; omega⟩, HX.out.1⟩
    · have kd : W.drew.cell? ⟨w.heap.size + 1, 0, none⟩ = some (.slice a1 n cap1) := d11
      have kn0 : W.drew.cell? ⟨x.b, 0, none⟩ = some (.string x.k) := n0
      have kn1 : W.drew.cell? ⟨x.b, 1, none⟩ = some (.string x.v) := n1
      have hxb : x.b < w.heap.size := World.block_lt_of_cell? _ _ (HS.out.node w (Below.refl _ _) x hx).c0
      have hgo : 0 ≤ most → (n : Int) + 1 ≤ most := fun h => by have := hmn h; omega
      have HGO := Lib.hid hgo
      obtain ⟨W2, hW2⟩ : ∃ W2, W2 = (W.alloc (.cells #[.string x.k, .string x.v] 74)).drew := ⟨_, rfl⟩
      have ht2 : Tn (fun _ => False) W.drew W2 := by rw [hW2]; exact Tn.alloc W.drew _
      have hnews : ∀ j u, (kvCell (x.k, x.v))[j]? = some u → W2.cell? ((⟨W.heap.size, 0, none⟩ : Addr).add j) = some u := by
        rw [hW2]
        exact World.news_of_block (cs := #[.string x.k, .string x.v]) (t := 74) (fr := (0, 0)) (World.alloc_heap_new W.drew _)
      have HW2 := Lib.hid (And.intro hW2 (And.intro ht2 hnews))
      clear hgo hW2 ht2 hnews
      have htest : (decide ((0 : Int) ≤ most) = true ∧ decide (most ≤ (n : Int)) = false) ∨ decide ((0 : Int) ≤ most) = false := by
        by_cases hc1 : 0 ≤ most
        · exact Or.inl ⟨by simpa using hc1, by simp; omega⟩
        · exact Or.inr (by simpa using hc1)
      clear hmn hc
      rcases htest with ⟨t1, t2⟩ | t1
      · gi_wp2
        refine wpIn_region_roundK (fun w' => w'.cell? ⟨w.heap.size + 1, 0, none⟩ = some (.slice a1 n cap1) ∧ w'.cell? ⟨x.b, 0, none⟩ = some (.string x.k) ∧ w'.cell? ⟨x.b, 1, none⟩ = some (.string x.v)) 12 13 (by kernel_rfl) (by kernel_rfl) (by kernel_rfl) ⟨kd, kn0, kn1⟩ (fun hH => ?_)
        refine wpAnyK_take (i := 0) [12] (v := ?v1) rfl (by kernel_rfl) (by kernel_rfl) (by kernel_rfl) (by kernel_rfl) (fun _ _ _ h => h) (Or.inl ⟨by rfl, ?hy1⟩) hH ?rest1
        case hy1 => (intro w hSw; (try dsimp only at hSw); go_simp; with_reducible rfl)
        try simp only [Act.put, List.setIfInBounds_toArray, List.set_cons_zero, List.set_cons_succ]
        refine wpAnyK_take (i := 1) [12] (v := ?v2) rfl (by kernel_rfl) (by kernel_rfl) (by kernel_rfl) (by kernel_rfl) (fun _ _ _ h => h) (Or.inl ⟨by rfl, ?hy2⟩) hH ?rest2
        case hy2 => (intro w hSw; (try dsimp only at hSw); go_simp; with_reducible rfl)
        try simp only [Act.put, List.setIfInBounds_toArray, List.set_cons_zero, List.set_cons_succ]
        refine wpAnyK_take (i := 2) [12] (v := ?v3) rfl (by kernel_rfl) (by kernel_rfl) (by kernel_rfl) (by kernel_rfl) (fun _ _ _ h => h) (Or.inl ⟨by rfl, ?hy3⟩) hH ?rest3
        case hy3 => (intro w hSw; (try dsimp only at hSw); go_simp; with_reducible rfl)
        try simp only [Act.put, List.setIfInBounds_toArray, List.set_cons_zero, List.set_cons_succ]
        refine wpAnyK_take (i := 3) [12] (v := ?v4) rfl (by kernel_rfl) (by kernel_rfl) (by kernel_rfl) (by kernel_rfl) (fun _ _ _ h => h) (Or.inl ⟨by rfl, ?hy4⟩) hH ?rest4
        case hy4 => (intro w hSw; (try dsimp only at hSw); go_simp; with_reducible rfl)
        try simp only [Act.put, List.setIfInBounds_toArray, List.set_cons_zero, List.set_cons_succ]
        refine wpAnyK_take (i := 4) [12] (v := ?v5) rfl (by kernel_rfl) (by kernel_rfl) (by kernel_rfl) (by kernel_rfl) (fun _ _ _ h => h) (Or.inl ⟨by rfl, ?hy5⟩) hH ?rest5
        case hy5 => (intro w hSw; (try dsimp only at hSw); go_simp; with_reducible rfl)
        try simp only [Act.put, List.setIfInBounds_toArray, List.set_cons_zero, List.set_cons_succ]
        refine wpAnyK_take (i := 5) [12] (v := ?v6) rfl (by kernel_rfl) (by kernel_rfl) (by kernel_rfl) (by kernel_rfl) (fun _ _ _ h => h) (Or.inl ⟨by rfl, ?hy6⟩) hH ?rest6
        case hy6 => (intro w hSw; (try dsimp only at hSw); go_simp; with_reducible rfl)
        try simp only [Act.put, List.setIfInBounds_toArray, List.set_cons_zero, List.set_cons_succ]
        refine wpAnyK_take (i := 6) [12] (v := ?v7) rfl (by kernel_rfl) (by kernel_rfl) (by kernel_rfl) (by kernel_rfl) (fun _ _ _ h => h) (Or.inl ⟨by rfl, ?hy7⟩) hH ?rest7
        case hy7 => (intro w hSw; (try dsimp only at hSw); go_simp; with_reducible rfl)
        try simp only [Act.put, List.setIfInBounds_toArray, List.set_cons_zero, List.set_cons_succ]
        refine wpAnyK_take (i := 7) [12] (v := ?v8) rfl (by kernel_rfl) (by kernel_rfl) (by kernel_rfl) (by kernel_rfl) (fun _ _ _ h => h) (Or.inl ⟨by rfl, ?hy8⟩) hH ?rest8
        case hy8 => (intro w hSw; (try dsimp only at hSw); go_simp; with_reducible rfl)
        try simp only [Act.put, List.setIfInBounds_toArray, List.set_cons_zero, List.set_cons_succ]
        refine wpAnyK_take (i := 8) [12] (v := ?v9) rfl (by kernel_rfl) (by kernel_rfl) (by kernel_rfl) (by kernel_rfl) (fun _ _ _ h => h) (Or.inl ⟨by rfl, ?hy9⟩) hH ?rest9
        case hy9 => (intro w hSw; (try dsimp only at hSw); go_simp; with_reducible rfl)
        try simp only [Act.put, List.setIfInBounds_toArray, List.set_cons_zero, List.set_cons_succ]
        refine wpAnyK_take (i := 9) [12] (v := ?v10) rfl (by kernel_rfl) (by kernel_rfl) (by kernel_rfl) (by kernel_rfl) (fun _ _ _ h => h) (Or.inl ⟨by rfl, ?hy10⟩) hH ?rest10
        case hy10 => (intro w hSw; (try dsimp only at hSw); go_simp; with_reducible rfl)
        try simp only [Act.put, List.setIfInBounds_toArray, List.set_cons_zero, List.set_cons_succ]
        refine wpAnyK_one (i := 10) (by kernel_rfl) rfl (fun K hK => ?_) (by kernel_rfl)
        go_simp
        rw [← HW2.out.1]
        have e1 := HW2.out.2.1.cell kd (fun e => e)
        have e2 := HW2.out.2.1.cell kn0 (fun e => e)
        have e3 := HW2.out.2.1.cell kn1 (fun e => e)
        refine hK.out _ _ ⟨e1, e2, e3⟩ (fun hH => ?_)
        clear hK K
        try simp only [Act.put, List.setIfInBounds_toArray, List.set_cons_zero, List.set_cons_succ]
        refine wpAnyK_one (i := 11) (by kernel_rfl) rfl (fun K hK => ?_) (by kernel_rfl)
        have hrow2 : OwnKv W2 (w.heap.size + 2) (.slice a1 n cap1) (kvPre pre) := by
          have h0 := HX.out.2.2.2
          rw [← HN.out.1] at h0
          exact HW2.out.2.1.row ((Tn.drew (F := fun _ => False) W).row h0 (fun _ _ e => e)) (fun _ _ e => e)
        refine step_append_kv rfl (.tmp 21) (.tmp 31) rfl (w.heap.size + 2) (.slice a1 n cap1) (kvPre pre) rfl hrow2 ?_ (x.k, x.v) ⟨W.heap.size, 0, none⟩ 1 rfl HW2.out.2.2 ?_ ?_
        · have := HW2.out.2.1.size; have e : W.drew.heap.size = W.heap.size := rfl; omega
        · have := HN.out.2; omega
        intro g cap' W3 hown3 hg3 hgs3 hlt3
        have hge := hrow2.own_ge
        have ht3 : Tn (fun q => w.heap.size + 2 ≤ q) W2 W3 := Tn.ofGrown hg3 (fun q e => (hge q e).1)
        have k3 : KeepsOthers W2 W3 := KeepsOthers.of_grownBy hg3 (fun j o e ho => by
          obtain ⟨_, o2, ho2, hc2⟩ := hge j e
          rw [ho] at ho2
          cases ho2
          exact hc2)
        have f1 := ht3.cell e1 (by simp)
        have f2 := ht3.cell e2 (by simp; omega)
        have f3 := ht3.cell e3 (by simp; omega)
        refine hK.out _ _ ⟨f1, f2, f3⟩ (fun hH => ?_)
        clear hK K
        try simp only [Act.put, List.setIfInBounds_toArray, List.set_cons_zero, List.set_cons_succ]
        have hW2s := HW2.out.2.1.size
        have hWd : W.drew.heap.size = W.heap.size := rfl
        have fz2 : W2.frozen? ⟨w.heap.size + 1, 0, none⟩ = false := (HW2.out.2.1.frozen (a := W.drew) (World.block_lt_of_cell? _ _ kd) (fun e => e)).trans d12
        have fz3 : W3.frozen? ⟨w.heap.size + 1, 0, none⟩ = false := (ht3.frozen (World.block_lt_of_cell? _ _ e1) (by simp)).trans fz2
        have hbox0 : BoxAt W3 w.heap.size (.int .i64 most) := by
          have h0 := HX.out.2.1
          refine ⟨ht3.cell (HW2.out.2.1.cell (a := W.drew) h0.1 (fun e => e)) (by simp), ?_⟩
          exact (ht3.frozen (World.block_lt_of_cell? _ _ (HW2.out.2.1.cell (a := W.drew) h0.1 (fun e => e))) (by simp)).trans ((HW2.out.2.1.frozen (a := W.drew) (World.block_lt_of_cell? _ _ h0.1) (fun e => e)).trans h0.2)
        have hk3 : KeepsOthers W W3 := by
          refine KeepsOthers.trans ?_ k3
          rw [HW2.out.1]
          exact (KeepsOthers.alloc W _).trans (KeepsOthers.drew _)
        have hbW : Below w.heap.size W W3 := ((Tn.drew (F := fun q => w.heap.size + 2 ≤ q) W).trans ((HW2.out.2.1.mono (fun _ e => e.elim)).trans ht3)).below (by omega) (fun q e => by omega)
        have hfin : FromI w most (pre ++ [⟨x, hx⟩]) (W3.setCell ⟨w.heap.size + 1, 0, none⟩ (.slice (some ⟨g, 0, none⟩) ((kvPre pre).length + 1) cap')) := by
          refine ⟨hbox0.other _ (by simp), _, BoxAt.set ⟨f1, fz3⟩ _, ?_, fun h => ?_⟩
          · rw [kvPre_snoc]
            refine (Tn.setCell (F := fun q => q = w.heap.size + 1) W3 ⟨w.heap.size + 1, 0, none⟩ _ rfl).row (xs := kvCells (kvPre pre ++ [kvOf x])) ?_ ?_
            · rw [List.length_append]
              have := hown3
              unfold OwnKv at this
              rw [List.length_append] at this
              exact this
            · intro q hq e
              have := (hown3.own_ge q hq).1
              omega
          · have := HGO.out h; have h1 := HN.out; simp only [List.length_append, List.length_cons, List.length_nil]; omega
        have HF := Lib.hid (And.intro hfin (And.intro hk3 hbW))
        clear hfin hk3 hbW hbox0 k3 ht3 hg3 hgs3 hlt3 hown3 hge hrow2 e1 e2 e3 fz2 kd kn0 kn1 d11 d12
        refine wpAnyK_last (by kernel_rfl) rfl (fun K hK => ?_) (by kernel_rfl)
        go_simp
        refine hK.out _ _ (wpAnyK_done (by kernel_rfl) ?_ _)
        clear hK K hH
        unfold onlyN
        gi_wp2
        exact ⟨HF.out.2.1.trans (KeepsOthers.setCell _ _ _), HF.out.2.2.setCell (p := ⟨w.heap.size + 1, 0, none⟩) (by simp) _, HF.out.1, (HX.out.1.trans HF.out.2.2).setCell (p := ⟨w.heap.size + 1, 0, none⟩) (by simp) _⟩
      · gi_wp2
        refine wpIn_region_roundK (fun w' => w'.cell? ⟨w.heap.size + 1, 0, none⟩ = some (.slice a1 n cap1) ∧ w'.cell? ⟨x.b, 0, none⟩ = some (.string x.k) ∧ w'.cell? ⟨x.b, 1, none⟩ = some (.string x.v)) 12 13 (by kernel_rfl) (by kernel_rfl) (by kernel_rfl) ⟨kd, kn0, kn1⟩ (fun hH => ?_)
        refine wpAnyK_take (i := 0) [12] (v := ?v11) rfl (by kernel_rfl) (by kernel_rfl) (by kernel_rfl) (by kernel_rfl) (fun _ _ _ h => h) (Or.inl ⟨by rfl, ?hy11⟩) hH ?rest11
        case hy11 => (intro w hSw; (try dsimp only at hSw); go_simp; with_reducible rfl)
        try simp only [Act.put, List.setIfInBounds_toArray, List.set_cons_zero, List.set_cons_succ]
        refine wpAnyK_take (i := 1) [12] (v := ?v12) rfl (by kernel_rfl) (by kernel_rfl) (by kernel_rfl) (by kernel_rfl) (fun _ _ _ h => h) (Or.inl ⟨by rfl, ?hy12⟩) hH ?rest12
        case hy12 => (intro w hSw; (try dsimp only at hSw); go_simp; with_reducible rfl)
        try simp only [Act.put, List.setIfInBounds_toArray, List.set_cons_zero, List.set_cons_succ]
        refine wpAnyK_take (i := 2) [12] (v := ?v13) rfl (by kernel_rfl) (by kernel_rfl) (by kernel_rfl) (by kernel_rfl) (fun _ _ _ h => h) (Or.inl ⟨by rfl, ?hy13⟩) hH ?rest13
        case hy13 => (intro w hSw; (try dsimp only at hSw); go_simp; with_reducible rfl)
        try simp only [Act.put, List.setIfInBounds_toArray, List.set_cons_zero, List.set_cons_succ]
        refine wpAnyK_take (i := 3) [12] (v := ?v14) rfl (by kernel_rfl) (by kernel_rfl) (by kernel_rfl) (by kernel_rfl) (fun _ _ _ h => h) (Or.inl ⟨by rfl, ?hy14⟩) hH ?rest14
        case hy14 => (intro w hSw; (try dsimp only at hSw); go_simp; with_reducible rfl)
        try simp only [Act.put, List.setIfInBounds_toArray, List.set_cons_zero, List.set_cons_succ]
        refine wpAnyK_take (i := 4) [12] (v := ?v15) rfl (by kernel_rfl) (by kernel_rfl) (by kernel_rfl) (by kernel_rfl) (fun _ _ _ h => h) (Or.inl ⟨by rfl, ?hy15⟩) hH ?rest15
        case hy15 => (intro w hSw; (try dsimp only at hSw); go_simp; with_reducible rfl)
        try simp only [Act.put, List.setIfInBounds_toArray, List.set_cons_zero, List.set_cons_succ]
        refine wpAnyK_take (i := 5) [12] (v := ?v16) rfl (by kernel_rfl) (by kernel_rfl) (by kernel_rfl) (by kernel_rfl) (fun _ _ _ h => h) (Or.inl ⟨by rfl, ?hy16⟩) hH ?rest16
        case hy16 => (intro w hSw; (try dsimp only at hSw); go_simp; with_reducible rfl)
        try simp only [Act.put, List.setIfInBounds_toArray, List.set_cons_zero, List.set_cons_succ]
        refine wpAnyK_take (i := 6) [12] (v := ?v17) rfl (by kernel_rfl) (by kernel_rfl) (by kernel_rfl) (by kernel_rfl) (fun _ _ _ h => h) (Or.inl ⟨by rfl, ?hy17⟩) hH ?rest17
        case hy17 => (intro w hSw; (try dsimp only at hSw); go_simp; with_reducible rfl)
        try simp only [Act.put, List.setIfInBounds_toArray, List.set_cons_zero, List.set_cons_succ]
        refine wpAnyK_take (i := 7) [12] (v := ?v18) rfl (by kernel_rfl) (by kernel_rfl) (by kernel_rfl) (by kernel_rfl) (fun _ _ _ h => h) (Or.inl ⟨by rfl, ?hy18⟩) hH ?rest18
        case hy18 => (intro w hSw; (try dsimp only at hSw); go_simp; with_reducible rfl)
        try simp only [Act.put, List.setIfInBounds_toArray, List.set_cons_zero, List.set_cons_succ]
        refine wpAnyK_take (i := 8) [12] (v := ?v19) rfl (by kernel_rfl) (by kernel_rfl) (by kernel_rfl) (by kernel_rfl) (fun _ _ _ h => h) (Or.inl ⟨by rfl, ?hy19⟩) hH ?rest19
        case hy19 => (intro w hSw; (try dsimp only at hSw); go_simp; with_reducible rfl)
        try simp only [Act.put, List.setIfInBounds_toArray, List.set_cons_zero, List.set_cons_succ]
        refine wpAnyK_take (i := 9) [12] (v := ?v20) rfl (by kernel_rfl) (by kernel_rfl) (by kernel_rfl) (by kernel_rfl) (fun _ _ _ h => h) (Or.inl ⟨by rfl, ?hy20⟩) hH ?rest20
        case hy20 => (intro w hSw; (try dsimp only at hSw); go_simp; with_reducible rfl)
        try simp only [Act.put, List.setIfInBounds_toArray, List.set_cons_zero, List.set_cons_succ]
        refine wpAnyK_one (i := 10) (by kernel_rfl) rfl (fun K hK => ?_) (by kernel_rfl)
        go_simp
        rw [← HW2.out.1]
        have e1 := HW2.out.2.1.cell kd (fun e => e)
        have e2 := HW2.out.2.1.cell kn0 (fun e => e)
        have e3 := HW2.out.2.1.cell kn1 (fun e => e)
        refine hK.out _ _ ⟨e1, e2, e3⟩ (fun hH => ?_)
        clear hK K
        try simp only [Act.put, List.setIfInBounds_toArray, List.set_cons_zero, List.set_cons_succ]
        refine wpAnyK_one (i := 11) (by kernel_rfl) rfl (fun K hK => ?_) (by kernel_rfl)
        have hrow2 : OwnKv W2 (w.heap.size + 2) (.slice a1 n cap1) (kvPre pre) := by
          have h0 := HX.out.2.2.2
          rw [← HN.out.1] at h0
          exact HW2.out.2.1.row ((Tn.drew (F := fun _ => False) W).row h0 (fun _ _ e => e)) (fun _ _ e => e)
        refine step_append_kv rfl (.tmp 21) (.tmp 31) rfl (w.heap.size + 2) (.slice a1 n cap1) (kvPre pre) rfl hrow2 ?_ (x.k, x.v) ⟨W.heap.size, 0, none⟩ 1 rfl HW2.out.2.2 ?_ ?_
        · have := HW2.out.2.1.size; have e : W.drew.heap.size = W.heap.size := rfl; omega
        · have := HN.out.2; omega
        intro g cap' W3 hown3 hg3 hgs3 hlt3
        have hge := hrow2.own_ge
        have ht3 : Tn (fun q => w.heap.size + 2 ≤ q) W2 W3 := Tn.ofGrown hg3 (fun q e => (hge q e).1)
        have k3 : KeepsOthers W2 W3 := KeepsOthers.of_grownBy hg3 (fun j o e ho => by
          obtain ⟨_, o2, ho2, hc2⟩ := hge j e
          rw [ho] at ho2
          cases ho2
          exact hc2)
        have f1 := ht3.cell e1 (by simp)
        have f2 := ht3.cell e2 (by simp; omega)
        have f3 := ht3.cell e3 (by simp; omega)
        refine hK.out _ _ ⟨f1, f2, f3⟩ (fun hH => ?_)
        clear hK K
        try simp only [Act.put, List.setIfInBounds_toArray, List.set_cons_zero, List.set_cons_succ]
        have hW2s := HW2.out.2.1.size
        have hWd : W.drew.heap.size = W.heap.size := rfl
        have fz2 : W2.frozen? ⟨w.heap.size + 1, 0, none⟩ = false := (HW2.out.2.1.frozen (a := W.drew) (World.block_lt_of_cell? _ _ kd) (fun e => e)).trans d12
        have fz3 : W3.frozen? ⟨w.heap.size + 1, 0, none⟩ = false := (ht3.frozen (World.block_lt_of_cell? _ _ e1) (by simp)).trans fz2
        have hbox0 : BoxAt W3 w.heap.size (.int .i64 most) := by
          have h0 := HX.out.2.1
          refine ⟨ht3.cell (HW2.out.2.1.cell (a := W.drew) h0.1 (fun e => e)) (by simp), ?_⟩
          exact (ht3.frozen (World.block_lt_of_cell? _ _ (HW2.out.2.1.cell (a := W.drew) h0.1 (fun e => e))) (by simp)).trans ((HW2.out.2.1.frozen (a := W.drew) (World.block_lt_of_cell? _ _ h0.1) (fun e => e)).trans h0.2)
        have hk3 : KeepsOthers W W3 := by
          refine KeepsOthers.trans ?_ k3
          rw [HW2.out.1]
          exact (KeepsOthers.alloc W _).trans (KeepsOthers.drew _)
        have hbW : Below w.heap.size W W3 := ((Tn.drew (F := fun q => w.heap.size + 2 ≤ q) W).trans ((HW2.out.2.1.mono (fun _ e => e.elim)).trans ht3)).below (by omega) (fun q e => by omega)
        have hfin : FromI w most (pre ++ [⟨x, hx⟩]) (W3.setCell ⟨w.heap.size + 1, 0, none⟩ (.slice (some ⟨g, 0, none⟩) ((kvPre pre).length + 1) cap')) := by
          refine ⟨hbox0.other _ (by simp), _, BoxAt.set ⟨f1, fz3⟩ _, ?_, fun h => ?_⟩
          · rw [kvPre_snoc]
            refine (Tn.setCell (F := fun q => q = w.heap.size + 1) W3 ⟨w.heap.size + 1, 0, none⟩ _ rfl).row (xs := kvCells (kvPre pre ++ [kvOf x])) ?_ ?_
            · rw [List.length_append]
              have := hown3
              unfold OwnKv at this
              rw [List.length_append] at this
              exact this
            · intro q hq e
              have := (hown3.own_ge q hq).1
              omega
          · have := HGO.out h; have h1 := HN.out; simp only [List.length_append, List.length_cons, List.length_nil]; omega
        have HF := Lib.hid (And.intro hfin (And.intro hk3 hbW))
        clear hfin hk3 hbW hbox0 k3 ht3 hg3 hgs3 hlt3 hown3 hge hrow2 e1 e2 e3 fz2 kd kn0 kn1 d11 d12
        refine wpAnyK_last (by kernel_rfl) rfl (fun K hK => ?_) (by kernel_rfl)
        go_simp
        refine hK.out _ _ (wpAnyK_done (by kernel_rfl) ?_ _)
        clear hK K hH
        unfold onlyN
        gi_wp2
        exact ⟨HF.out.2.1.trans (KeepsOthers.setCell _ _ _), HF.out.2.2.setCell (p := ⟨w.heap.size + 1, 0, none⟩) (by simp) _, HF.out.1, (HX.out.1.trans HF.out.2.2).setCell (p := ⟨w.heap.size + 1, 0, none⟩) (by simp) _⟩
  case done =>
    rintro D ys W hD rfl ⟨⟨d0, v, d1, hrow, hmost⟩, hB⟩ hK
    have hres : kvPre (from_ L (below L k)) = fromOf L k most := by
      rw [kvPre_from]
      unfold fromOf
      split
      · rename_i h
        have := hmost h
        rw [from_len] at this
        rw [List.take_of_length_le (by simp; omega)]
      · rfl
    rw [hres] at hrow
    have HX := Lib.hid (And.intro hB hrow)
    have d11 := d1.1
    clear hres hrow hB hmost d0 d1
    gi_wp2
    exact from_end hK HX.out.2 HX.out.1 (by omega) rfl
  case stop =>
    rintro D c pre W hD hpre ⟨⟨rfl, ys, x, rfl, ⟨d0, v, d1, hrow, hmost⟩, hm, hge⟩, hB⟩ hK
    have hres : kvPre ys = fromOf L k most := by
      unfold fromOf
      rw [if_pos hm, List.map_take, ← kvPre_from]
      obtain ⟨t, ht⟩ := hpre
      rw [← ht]
      have h1 := hmost hm
      have h2 : most.toNat = (kvPre ys).length := by simp [kvPre]; omega
      rw [h2]
      simp [kvPre]
    rw [hres] at hrow
    have HX := Lib.hid (And.intro hB hrow)
    have d11 := d1.1
    clear hres hrow hB hmost d0 d1
    gi_wp2
    exact from_end hK HX.out.2 HX.out.1 (by omega) rfl

theorem from_any {w : World} {sb : Nat} {L : List Nd} {fr : Bool} (s : SkAt w sb L fr) (k : ByteArray) (most : Int) (hm0 : -9223372036854775808 ≤ most) (hm1 : most ≤ 9223372036854775807) :
    Calls Tryz.prog 10 #[.pointer (some ⟨sb, 0, none⟩), .string k, .int .i64 most] w fun e w' =>
      ∃ v, e = .returned v ∧ OwnKv w' w.heap.size v (fromOf L k most) ∧ Below w.heap.size w w' := from_core (s.listAt k) s.len most hm0 hm1
theorem nilfrom_any (k : ByteArray) (most : Int) (hm0 : -9223372036854775808 ≤ most) (hm1 : most ≤ 9223372036854775807) (w : World) :
    Calls Tryz.prog 10 #[.pointer none, .string k, .int .i64 most] w fun e w' =>
      ∃ v, e = .returned v ∧ OwnKv w' w.heap.size v (fromOf [] k most) ∧ Below w.heap.size w w' := from_core (nilAt w k) (by simp) most hm0 hm1
end Go.Proofs.YtmodgjjlgobjcaaGreat
