import Derived.Test.YtjebpppjhkkebaaGreatDoorM9
import Derived.Test.YtjebpppjhkkebaaGreatDoorM10
import Derived.Test.YtjebpppjhkkebaaGreatDoorM4
import Derived.Deep.DeepCutAuto
/-
  Manifest: Apply.
-/
set_option linter.unusedSimpArgs false
set_option linter.unusedVariables false
namespace Go.Proofs.YtjebpppjhkkebaaGreatDoor
open Go.RowKit

section
variable {P : Program} {ops : Array Oper} {Q : Exit → Act → World → Prop} {md : Region.Mode} {S : World → Prop} {k : Nat}
/-- One that may come up, and is not k, comes up. -/
theorem wpOp_K {i : Nat} {t : Option Tmp} {op : Op} {ty : TypeId} {pos : String} {aft : Array Edge} {gd : Option (Nat × Bool)} {fuel : Nat} {listed : Array Bool} {a : Act} {w : World} (hi : ops[i]? = some ⟨t, op, ty, pos, aft, gd⟩)
    (h : ∀ K' : Act → World → Prop, Shut (∀ a w, S w → (S w → wpAnyK P md ops Q S k fuel (listed.setIfInBounds i true) a w) → K' a w) →
      if Region.wanted ⟨t, op, ty, pos, aft, gd⟩ (yielded ops a.tmps) = true then Oper.wp P ⟨t, op, ty, pos, aft, gd⟩ a w K' Q else K' (a.put t undef) w)
    (hk : (listed.setIfInBounds i true).getD k true = false) : wpOp P ops Q i (fun a' w' => ((listed.setIfInBounds i true).getD k true = false → S w') ∧ wpAnyK P md ops Q S k fuel (listed.setIfInBounds i true) a' w') a w :=
  wpOp_step hi (fun K' hK => h K' (fun a w hS hW => hK a w ⟨fun _ => hS, hW hS⟩))
end
theorem results_cell2 {fn : Func} {t u : Tmp} {ty : TypeId} (h : fn.results = #[.cell t ty, .tmp u]) {tmps : Array Value} {P : Program} {w : World} {ad : Addr} {v : Value} (ht : tmps.getD t undef = .pointer (some ad)) (hl : (loadVar ty ad).run P w = .ok v w) :
    (results fn tmps).run P w = .ok (.tuple #[v, tmps.getD u undef]) w := by
  have ht' : tmps[t]?.getD undef = .pointer (some ad) := by simpa using ht
  simp [results, h, ht', asAddr, hl, Result.andThen]
theorem load_st {w : World} {b : Nat} {x0 x3 x4 : Value} {x1 x2 : Int} (h0 : w.cell? ⟨b, 0, none⟩ = some x0) (h1 : w.cell? ⟨b, 1, none⟩ = some (.int .i64 x1)) (h2 : w.cell? ⟨b, 2, none⟩ = some (.int .i64 x2)) (h3 : w.cell? ⟨b, 3, none⟩ = some x3) (h4 : w.cell? ⟨b, 4, none⟩ = some x4) :
    (loadVar 30 ⟨b, 0, none⟩).run Tryz.prog w = .ok (.agg #[x0, .int .i64 x1, .int .i64 x2, x3, x4]) w := by
  simp [go_sem, loadVar, h0, h1, h2, h3, h4]
/-- A state of one's own. -/
def OwnSt (w : World) (B : Nat) (v : Value) (s : PS) : Prop := ∃ fv lv nv, v = .agg #[fv, .int .i64 s.next, .int .i64 s.log, lv, nv] ∧ Own eFi w B fv s.fs ∧ Own eVec w B lv s.fl ∧ Own eNt w B nv s.ns
theorem ownSt00 (w : World) (B : Nat) : OwnSt w B (.agg #[.slice none 0 0, .int .i64 0, .int .i64 0, .slice none 0 0, .slice none 0 0]) s00 := ⟨_, _, _, rfl, World.ownsRow_nil _ _ _ _, World.ownsRow_nil _ _ _ _, World.ownsRow_nil _ _ _ _⟩
def ApAns (s : PS) (e : PE) (w : World) (r : Ending) (w' : World) : Prop :=
  Below w.heap.size w w' ∧ ∃ v, r = .returned (.tuple #[v, .int .i64 (applyF s e).1]) ∧ OwnSt w' w.heap.size v (applyF s e).2
structure ApS (w w' : World) (vv0 vv1 vv2 vv3 vv4 uu0 uu1 uu2 uu3 uu4 : Value) : Prop where
  a0 : w'.cell? ⟨w.heap.size, 0, none⟩ = some vv0
  a1 : w'.cell? ⟨w.heap.size, 1, none⟩ = some vv1
  a2 : w'.cell? ⟨w.heap.size, 2, none⟩ = some vv2
  a3 : w'.cell? ⟨w.heap.size, 3, none⟩ = some vv3
  a4 : w'.cell? ⟨w.heap.size, 4, none⟩ = some vv4
  b0 : w'.cell? ⟨w.heap.size + 1, 0, none⟩ = some uu0
  b1 : w'.cell? ⟨w.heap.size + 1, 1, none⟩ = some uu1
  b2 : w'.cell? ⟨w.heap.size + 1, 2, none⟩ = some uu2
  b3 : w'.cell? ⟨w.heap.size + 1, 3, none⟩ = some uu3
  b4 : w'.cell? ⟨w.heap.size + 1, 4, none⟩ = some uu4
  r0 : w'.cell? ⟨w.heap.size + 2, 0, none⟩ = some (.slice none 0 0)
  r1 : w'.cell? ⟨w.heap.size + 2, 1, none⟩ = some (.int .i64 0)
  r2 : w'.cell? ⟨w.heap.size + 2, 2, none⟩ = some (.int .i64 0)
  r3 : w'.cell? ⟨w.heap.size + 2, 3, none⟩ = some (.slice none 0 0)
  r4 : w'.cell? ⟨w.heap.size + 2, 4, none⟩ = some (.slice none 0 0)
  rf : ∀ j, w'.frozen? ⟨w.heap.size + 2, j, none⟩ = false
  bel : Below w.heap.size w w'
  sz : w.heap.size + 3 ≤ w'.heap.size
theorem ApS.below {w w' w'' : World} {vv0 vv1 vv2 vv3 vv4 uu0 uu1 uu2 uu3 uu4 : Value} (h : ApS w w' vv0 vv1 vv2 vv3 vv4 uu0 uu1 uu2 uu3 uu4) (hb : Below w'.heap.size w' w'') : ApS w w'' vv0 vv1 vv2 vv3 vv4 uu0 uu1 uu2 uu3 uu4 :=
  ⟨(hb.cell (p := ⟨w.heap.size, 0, none⟩) (by have := h.sz; dsimp only; omega)).trans h.a0, (hb.cell (p := ⟨w.heap.size, 1, none⟩) (by have := h.sz; dsimp only; omega)).trans h.a1, (hb.cell (p := ⟨w.heap.size, 2, none⟩) (by have := h.sz; dsimp only; omega)).trans h.a2, (hb.cell (p := ⟨w.heap.size, 3, none⟩) (by have := h.sz; dsimp only; omega)).trans h.a3, (hb.cell (p := ⟨w.heap.size, 4, none⟩) (by have := h.sz; dsimp only; omega)).trans h.a4, (hb.cell (p := ⟨w.heap.size + 1, 0, none⟩) (by have := h.sz; dsimp only; omega)).trans h.b0, (hb.cell (p := ⟨w.heap.size + 1, 1, none⟩) (by have := h.sz; dsimp only; omega)).trans h.b1, (hb.cell (p := ⟨w.heap.size + 1, 2, none⟩) (by have := h.sz; dsimp only; omega)).trans h.b2, (hb.cell (p := ⟨w.heap.size + 1, 3, none⟩) (by have := h.sz; dsimp only; omega)).trans h.b3, (hb.cell (p := ⟨w.heap.size + 1, 4, none⟩) (by have := h.sz; dsimp only; omega)).trans h.b4, (hb.cell (p := ⟨w.heap.size + 2, 0, none⟩) (by have := h.sz; dsimp only; omega)).trans h.r0, (hb.cell (p := ⟨w.heap.size + 2, 1, none⟩) (by have := h.sz; dsimp only; omega)).trans h.r1, (hb.cell (p := ⟨w.heap.size + 2, 2, none⟩) (by have := h.sz; dsimp only; omega)).trans h.r2, (hb.cell (p := ⟨w.heap.size + 2, 3, none⟩) (by have := h.sz; dsimp only; omega)).trans h.r3, (hb.cell (p := ⟨w.heap.size + 2, 4, none⟩) (by have := h.sz; dsimp only; omega)).trans h.r4, fun j => (hb.frozen (p := ⟨w.heap.size + 2, j, none⟩) (by have := h.sz; dsimp only; omega)).trans (h.rf j), h.bel.trans (hb.mono (by have := h.sz; omega)), Nat.le_trans h.sz hb.size⟩
def RgAns (s : PS) (e : PE) (wv : World) (fv : Value) (nx : Int) (y9 : Value) (wx : World) : Prop :=
  Below wv.heap.size wv wx ∧ ∃ (ob : Nat) (ca na : Option Addr) (cc nc : Nat), y9 = .pointer (some ⟨ob, 0, none⟩) ∧ wv.heap.size ≤ ob ∧ ob < wx.heap.size ∧
    wx.cell? ⟨ob, 0, none⟩ = some fv ∧ wx.cell? ⟨ob, 1, none⟩ = some (.int .i64 nx) ∧ wx.cell? ⟨ob, 2, none⟩ = some (.int .i64 s.log) ∧ wx.cell? ⟨ob, 3, none⟩ = some (.slice ca s.fl.length cc) ∧ wx.cell? ⟨ob, 4, none⟩ = some (.slice na (notesF s.ns e.ns).length nc) ∧
    (∀ j, wx.frozen? ⟨ob, j, none⟩ = false) ∧ Own eVec wx wv.heap.size (.slice ca s.fl.length cc) s.fl ∧ Own eNt wx wv.heap.size (.slice na (notesF s.ns e.ns).length nc) (notesF s.ns e.ns) ∧
    (∀ q, (Value.slice ca s.fl.length cc).ownBlock = some q → q ≠ ob) ∧ (∀ q, (Value.slice na (notesF s.ns e.ns).length nc).ownBlock = some q → q ≠ ob)
def ClAns (l : List Int) (w : World) (r : Ending) (w' : World) : Prop := ∃ a c, r = .returned (.slice a l.length c) ∧ Own eVec w' w.heap.size (.slice a l.length c) l ∧ Below w.heap.size w w'
def NtAns (l : List KV) (w : World) (r : Ending) (w' : World) : Prop := ∃ a c, r = .returned (.slice a l.length c) ∧ Own eNt w' w.heap.size (.slice a l.length c) l ∧ Below w.heap.size w w'
theorem valid_of {x : Fi} (h : validF x = true) : (1 ≤ x.nu ∧ x.nu ≤ 2147483647) ∧ x.f.size ≤ 500 ∧ x.l.size ≤ 500 := by
  unfold validF inI at h
  simp only [Bool.and_eq_true, decide_eq_true_eq] at h
  obtain ⟨⟨⟨⟨⟨⟨h1, h2⟩, h3⟩, h4⟩, h5⟩, h6⟩, h7⟩ := h
  omega
theorem right_of {e : PE} (h : rightE e = true) : (∀ f ∈ e.add, validF f = true) ∧ (e.fl = [] ∨ vecB e.fl = true) ∧ (0 ≤ e.log ∧ e.log ≤ 4294967295) ∧ ∀ p ∈ e.ns, noteB p = true := by
  unfold rightE inI at h
  simp only [Bool.and_eq_true, Bool.or_eq_true, decide_eq_true_eq, List.all_eq_true] at h
  exact ⟨h.1.1.1, h.1.1.2, h.1.2, h.2⟩
theorem note_of {p : KV} (h : noteB p = true) : p.1.size ≤ 32 ∧ p.2.size ≤ 20000 := by
  unfold noteB at h
  simp only [Bool.and_eq_true, decide_eq_true_eq] at h
  exact ⟨h.1.2, h.2⟩
theorem tabF_len {s : PS} {e : PE} {FL : List Fi} {nx : Int} (h : tabF s e = (0, FL, nx)) (hn : NumsF s.fs) : FL.length ≤ s.fs.length + e.add.length := by
  have h0 : (tabF s e).1 = 0 := by rw [h]
  obtain ⟨m, m2, last, hr, hd, ht⟩ := tabF_zero h0
  rw [h] at ht
  obtain rfl : FL = sortFi (vals m2) := congrArg (fun t => t.2.1) ht
  have h1 := remF_len e.rem hr
  have h2 := (addF_mp e.add (remF_mp e.rem (base_mp hn) hr).1 hd).2.2.2.2.1
  have h3 : (baseF s.fs).length = s.fs.length := by unfold baseF; rw [List.length_map]
  have h4 : (sortFi (vals m2)).length = m2.length := by rw [(sortFi_perm _).length_eq]; unfold vals; rw [List.length_map]
  omega
theorem notesF_len (s e : List KV) : (notesF s e).length ≤ s.length + e.length := by
  have h1 := (sortN_perm ((baseN (s ++ e)).filter (fun p => decide (p.2.size ≠ 0)))).length_eq
  have h2 := List.length_filter_le (fun p : KV => decide (p.2.size ≠ 0)) (baseN (s ++ e))
  have h3 := baseN_len (s ++ e)
  rw [List.length_append] at h3
  unfold notesF
  omega
theorem textsN_mul {l : List KV} (h : ∀ p ∈ l, p.2.size ≤ 20000) : textsN l ≤ 20000 * l.length := by
  induction l with
  | nil => simp [textsN]
  | cons p l ih =>
    have h1 := h p (List.mem_cons_self ..)
    have h2 := ih (fun q hq => h q (List.mem_cons_of_mem _ hq))
    have h3 : textsN (p :: l) = p.2.size + textsN l := by simp [textsN]
    rw [h3, List.length_cons]
    omega
/-- A state's block. -/
structure ObS (w : World) (b : Nat) (x0 x1 x2 x3 x4 : Value) : Prop where
  z0 : w.cell? ⟨b, 0, none⟩ = some x0
  z1 : w.cell? ⟨b, 1, none⟩ = some x1
  z2 : w.cell? ⟨b, 2, none⟩ = some x2
  z3 : w.cell? ⟨b, 3, none⟩ = some x3
  z4 : w.cell? ⟨b, 4, none⟩ = some x4
  zf : ∀ j, w.frozen? ⟨b, j, none⟩ = false
theorem ObS.lt {w : World} {b : Nat} {x0 x1 x2 x3 x4 : Value} (h : ObS w b x0 x1 x2 x3 x4) : b < w.heap.size := World.block_lt_of_cell? _ _ h.z0
theorem ObS.below {w w' : World} {b : Nat} {x0 x1 x2 x3 x4 : Value} (h : ObS w b x0 x1 x2 x3 x4) (hb : Below w.heap.size w w') : ObS w' b x0 x1 x2 x3 x4 :=
  ⟨(hb.cell (p := ⟨b, 0, none⟩) h.lt).trans h.z0, (hb.cell (p := ⟨b, 1, none⟩) h.lt).trans h.z1, (hb.cell (p := ⟨b, 2, none⟩) h.lt).trans h.z2, (hb.cell (p := ⟨b, 3, none⟩) h.lt).trans h.z3, (hb.cell (p := ⟨b, 4, none⟩) h.lt).trans h.z4, fun j => (hb.frozen (p := ⟨b, j, none⟩) h.lt).trans (h.zf j)⟩
theorem ObS.set2 {w : World} {b : Nat} {x0 x1 x2 x3 x4 y : Value} (h : ObS w b x0 x1 x2 x3 x4) : ObS (w.setCell ⟨b, 2, none⟩ y) b x0 x1 y x3 x4 :=
  ⟨cell_keep h.z0 (by decide), cell_keep h.z1 (by decide), World.cell?_setCell_same _ _ _ h.z2, cell_keep h.z3 (by decide), cell_keep h.z4 (by decide), fun j => by rw [World.frozen?_setCell]; exact h.zf j⟩
theorem ObS.set3 {w : World} {b : Nat} {x0 x1 x2 x3 x4 y : Value} (h : ObS w b x0 x1 x2 x3 x4) : ObS (w.setCell ⟨b, 3, none⟩ y) b x0 x1 x2 y x4 :=
  ⟨cell_keep h.z0 (by decide), cell_keep h.z1 (by decide), cell_keep h.z2 (by decide), World.cell?_setCell_same _ _ _ h.z3, cell_keep h.z4 (by decide), fun j => by rw [World.frozen?_setCell]; exact h.zf j⟩
theorem ApS.tn {w w' w'' : World} {b : Nat} {vv0 vv1 vv2 vv3 vv4 uu0 uu1 uu2 uu3 uu4 : Value} (h : ApS w w' vv0 vv1 vv2 vv3 vv4 uu0 uu1 uu2 uu3 uu4) (ht : Tn (fun q => q = b) w' w'') (hb : w.heap.size + 3 ≤ b) : ApS w w'' vv0 vv1 vv2 vv3 vv4 uu0 uu1 uu2 uu3 uu4 :=
  ⟨ht.cell (p := ⟨w.heap.size, 0, none⟩) h.a0 (by dsimp only; omega), ht.cell (p := ⟨w.heap.size, 1, none⟩) h.a1 (by dsimp only; omega), ht.cell (p := ⟨w.heap.size, 2, none⟩) h.a2 (by dsimp only; omega), ht.cell (p := ⟨w.heap.size, 3, none⟩) h.a3 (by dsimp only; omega), ht.cell (p := ⟨w.heap.size, 4, none⟩) h.a4 (by dsimp only; omega), ht.cell (p := ⟨w.heap.size + 1, 0, none⟩) h.b0 (by dsimp only; omega), ht.cell (p := ⟨w.heap.size + 1, 1, none⟩) h.b1 (by dsimp only; omega), ht.cell (p := ⟨w.heap.size + 1, 2, none⟩) h.b2 (by dsimp only; omega), ht.cell (p := ⟨w.heap.size + 1, 3, none⟩) h.b3 (by dsimp only; omega), ht.cell (p := ⟨w.heap.size + 1, 4, none⟩) h.b4 (by dsimp only; omega), ht.cell (p := ⟨w.heap.size + 2, 0, none⟩) h.r0 (by dsimp only; omega), ht.cell (p := ⟨w.heap.size + 2, 1, none⟩) h.r1 (by dsimp only; omega), ht.cell (p := ⟨w.heap.size + 2, 2, none⟩) h.r2 (by dsimp only; omega), ht.cell (p := ⟨w.heap.size + 2, 3, none⟩) h.r3 (by dsimp only; omega), ht.cell (p := ⟨w.heap.size + 2, 4, none⟩) h.r4 (by dsimp only; omega), fun j => (ht.frozen (p := ⟨w.heap.size + 2, j, none⟩) (by have := h.sz; dsimp only; omega) (by dsimp only; omega)).trans (h.rf j), h.bel.trans (ht.below (by have := h.sz; omega) (fun q hq => by omega)), Nat.le_trans h.sz ht.size⟩
/-- What the answer will be made of, all of one's own, behind the boxes. -/
def OwnP (w : World) (B ob : Nat) (fv lv nv : Value) (fs : List Fi) (fl : List Int) (ns : List KV) : Prop := Own eFi w B fv fs ∧ Own eVec w B lv fl ∧ Own eNt w B nv ns ∧ (∀ q, fv.ownBlock = some q → q ≠ ob) ∧ (∀ q, nv.ownBlock = some q → q ≠ ob)
theorem OwnP.below {w w' : World} {B ob : Nat} {fv lv nv : Value} {fs : List Fi} {fl : List Int} {ns : List KV} (h : OwnP w B ob fv lv nv fs fl ns) (hb : Below w.heap.size w w') : OwnP w' B ob fv lv nv fs fl ns :=
  ⟨row_below h.1 hb, row_below h.2.1 hb, row_below h.2.2.1 hb, h.2.2.2⟩
theorem OwnP.tn {w w' : World} {B ob b : Nat} {fv lv nv : Value} {fs : List Fi} {fl : List Int} {ns : List KV} (h : OwnP w B ob fv lv nv fs fl ns) (ht : Tn (fun q => q = b) w w') (hb : b < B) : OwnP w' B ob fv lv nv fs fl ns :=
  ⟨ht.row h.1 (fun q hq e => by have := (h.1.lt q hq).1; omega), ht.row h.2.1 (fun q hq e => by have := (h.2.1.lt q hq).1; omega), ht.row h.2.2.1 (fun q hq e => by have := (h.2.2.1.lt q hq).1; omega), h.2.2.2⟩
/-- A state's block of zeros. -/
structure ObZ (w : World) (b : Nat) : Prop where
  z0 : w.cell? ⟨b, 0, none⟩ = some (.slice none 0 0)
  z1 : w.cell? ⟨b, 1, none⟩ = some (.int .i64 0)
  z2 : w.cell? ⟨b, 2, none⟩ = some (.int .i64 0)
  z3 : w.cell? ⟨b, 3, none⟩ = some (.slice none 0 0)
  z4 : w.cell? ⟨b, 4, none⟩ = some (.slice none 0 0)
  zf : ∀ j, w.frozen? ⟨b, j, none⟩ = false
theorem ObZ.lt {w : World} {b : Nat} (h : ObZ w b) : b < w.heap.size := World.block_lt_of_cell? _ _ h.z0
theorem ObZ.made (w : World) : ObZ (w.alloc (.cells #[.slice none 0 0, .int .i64 0, .int .i64 0, .slice none 0 0, .slice none 0 0] 30)) w.heap.size := by
  refine ⟨?_, ?_, ?_, ?_, ?_, fun j => ?_⟩
  all_goals simp [go_sem]
theorem ObZ.below {w w' : World} {b : Nat} (h : ObZ w b) (hb : Below w.heap.size w w') : ObZ w' b :=
  ⟨(hb.cell (p := ⟨b, 0, none⟩) h.lt).trans h.z0, (hb.cell (p := ⟨b, 1, none⟩) h.lt).trans h.z1, (hb.cell (p := ⟨b, 2, none⟩) h.lt).trans h.z2, (hb.cell (p := ⟨b, 3, none⟩) h.lt).trans h.z3, (hb.cell (p := ⟨b, 4, none⟩) h.lt).trans h.z4, fun j => (hb.frozen (p := ⟨b, j, none⟩) h.lt).trans (h.zf j)⟩
theorem tn_setS {w : World} {b j : Nat} {v : Value} : Tn (fun q => q = b) w (w.setCell ⟨b, j, none⟩ v) := Tn.setCell w ⟨b, j, none⟩ v rfl
theorem rg_done {s : PS} {e : PE} {wv w' : World} {fv : Value} {nx : Int} {ob cc nc ln nn : Nat} {ca na : Option Addr} (hb : Below wv.heap.size wv w') (h : ObZ w' ob) (hob : wv.heap.size ≤ ob) (hln : s.fl.length = ln) (hnn : (notesF s.ns e.ns).length = nn)
    (ho : Own eVec w' wv.heap.size (.slice ca ln cc) s.fl) (hn : Own eNt w' wv.heap.size (.slice na nn nc) (notesF s.ns e.ns)) (h1 : ∀ q, (Value.slice ca ln cc).ownBlock = some q → q ≠ ob) (h2 : ∀ q, (Value.slice na nn nc).ownBlock = some q → q ≠ ob) :
    RgAns s e wv fv nx (.pointer (some ⟨ob, 0, none⟩)) (((((w'.setCell ⟨ob, 0, none⟩ (fv)).setCell ⟨ob, 1, none⟩ (.int .i64 nx)).setCell ⟨ob, 2, none⟩ (.int .i64 s.log)).setCell ⟨ob, 3, none⟩ (.slice ca ln cc)).setCell ⟨ob, 4, none⟩ (.slice na nn nc)) := by
  subst hln hnn
  have ht : Tn (fun q => q = ob) w' (((((w'.setCell ⟨ob, 0, none⟩ (fv)).setCell ⟨ob, 1, none⟩ (.int .i64 nx)).setCell ⟨ob, 2, none⟩ (.int .i64 s.log)).setCell ⟨ob, 3, none⟩ (.slice ca s.fl.length cc)).setCell ⟨ob, 4, none⟩ (.slice na (notesF s.ns e.ns).length nc)) := (((tn_setS.trans tn_setS).trans tn_setS).trans tn_setS).trans tn_setS
  refine ⟨hb.trans (ht.below hb.size (fun q hq => by rw [hq]; exact hob)), ob, ca, na, cc, nc, rfl, hob, Nat.lt_of_lt_of_le h.lt ht.size, ?_, ?_, ?_, ?_, ?_, fun j => ?_, ht.row ho (fun q hq => h1 q hq), ht.row hn (fun q hq => h2 q hq), h1, h2⟩
  · exact (cell_keep (cell_keep (cell_keep (cell_keep (World.cell?_setCell_same _ _ _ h.z0) (by decide)) (by decide)) (by decide)) (by decide))
  · exact (cell_keep (cell_keep (cell_keep (World.cell?_setCell_same _ _ _ (cell_keep h.z1 (by decide))) (by decide)) (by decide)) (by decide))
  · exact (cell_keep (cell_keep (World.cell?_setCell_same _ _ _ (cell_keep (cell_keep h.z2 (by decide)) (by decide))) (by decide)) (by decide))
  · exact (cell_keep (World.cell?_setCell_same _ _ _ (cell_keep (cell_keep (cell_keep h.z3 (by decide)) (by decide)) (by decide))) (by decide))
  · exact (World.cell?_setCell_same _ _ _ (cell_keep (cell_keep (cell_keep (cell_keep h.z4 (by decide)) (by decide)) (by decide)) (by decide)))
  · simp only [World.frozen?_setCell]
    exact h.zf j
def TbAns (l : List Fi) (nx er : Int) (n : Nat) (w : World) (r : Ending) (w' : World) : Prop := ∃ a c, r = .returned (.tuple #[.slice a n c, .int .i64 nx, .int .i64 er]) ∧ Own eFi w' w.heap.size (.slice a n c) l ∧ Below w.heap.size w w'
set_option maxRecDepth 100000 in
set_option maxHeartbeats 8000000 in
theorem apply_any {w : World} {sv ev : Value} {s : PS} {e : PE} (hs : StV w sv s) (he : EdV w ev e) (hg : GoodS s) (ha : e.add.length ≤ 100000) (hr : e.rem.length ≤ 100000) (hl : e.fl.length ≤ 100000) (hn : e.ns.length ≤ 100000) :
    Calls Tryz.prog 15 #[sv, ev] w (ApAns s e w) := by
  have HG := Lib.hid hg
  obtain ⟨fv, lv, nv, rfl, hs1, hs2, hs3⟩ := hs
  obtain ⟨xv, yv, mv, ov, rfl, he1, he2, he3, he4⟩ := he
  have hsv : StV w _ s := ⟨fv, lv, nv, rfl, hs1, hs2, hs3⟩
  have hev : EdV w _ e := ⟨xv, yv, mv, ov, rfl, he1, he2, he3, he4⟩
  have HV := Lib.hid (And.intro hsv hev)
  have HL2 := Lib.hid (And.intro hs2 he3)
  have HN := Lib.hid (And.intro ha (And.intro hr (And.intro hl hn)))
  have HNT := Lib.hid he4
  obtain ⟨sa, sc, rfl, _, _⟩ := hs1.form
  obtain ⟨la, lc, rfl, hl1, hl2⟩ := hs2.form
  obtain ⟨na, nc, rfl, _, _⟩ := hs3.form
  obtain ⟨xa, xc, rfl, hx1, hx2⟩ := he1.form
  obtain ⟨ya, yc, rfl, _, _⟩ := he2.form
  obtain ⟨ma, mc, rfl, hm1, hm2⟩ := he3.form
  obtain ⟨oa, oc, rfl, _, _⟩ := he4.form
  obtain ⟨sn, hsn⟩ : ∃ n, s.fs.length = n := ⟨_, rfl⟩
  obtain ⟨ln, hln⟩ : ∃ n, s.fl.length = n := ⟨_, rfl⟩
  obtain ⟨nn, hnn⟩ : ∃ n, s.ns.length = n := ⟨_, rfl⟩
  obtain ⟨xn, hxn⟩ : ∃ n, e.add.length = n := ⟨_, rfl⟩
  obtain ⟨yn, hyn⟩ : ∃ n, e.rem.length = n := ⟨_, rfl⟩
  obtain ⟨mn, hmn⟩ : ∃ n, e.fl.length = n := ⟨_, rfl⟩
  obtain ⟨on, hon⟩ : ∃ n, e.ns.length = n := ⟨_, rfl⟩
  rw [hsn, hln, hnn] at HV ⊢
  rw [hxn, hyn, hmn, hon] at HV ⊢
  rw [hln, hmn] at HL2
  rw [hon] at HNT
  rw [hln] at hl1
  rw [hxn] at hx1 ha
  rw [hmn] at hm1 hl
  have HQ := Lib.hid (And.intro hsn (And.intro hln (And.intro hnn (And.intro hxn (And.intro hyn (And.intro hmn hon))))))
  clear hsv hev hs1 hs2 hs3 he1 he2 he3 he4 hg hsn hln hnn hxn hyn hmn hon hr hn
  obtain ⟨w1, hw1⟩ : ∃ w1, w.alloc (.cells #[.slice sa sn sc, .int .i64 s.next, .int .i64 s.log, .slice la ln lc, .slice na nn nc] 30) = w1 := ⟨_, rfl⟩
  obtain ⟨w2, hw2⟩ : ∃ w2, w1.alloc (.cells #[.slice xa xn xc, .slice ya yn yc, .int .i64 e.log, .slice ma mn mc, .slice oa on oc] 40) = w2 := ⟨_, rfl⟩
  obtain ⟨w3, hw3⟩ : ∃ w3, w2.alloc (.cells #[.slice none 0 0, .int .i64 0, .int .i64 0, .slice none 0 0, .slice none 0 0] 30) = w3 := ⟨_, rfl⟩
  have hz1 : w1.heap.size = w.heap.size + 1 := by rw [← hw1]; simp
  have hz2 : w2.heap.size = w.heap.size + 2 := by rw [← hw2, ← hw1]; simp
  have hz3 : w3.heap.size = w.heap.size + 3 := by rw [← hw3, ← hw2, ← hw1]; simp
  have h3 : ApS w w3 (.slice sa sn sc) (.int .i64 s.next) (.int .i64 s.log) (.slice la ln lc) (.slice na nn nc) (.slice xa xn xc) (.slice ya yn yc) (.int .i64 e.log) (.slice ma mn mc) (.slice oa on oc) := by
    rw [← hw3, ← hw2, ← hw1]
    refine ⟨?_, ?_, ?_, ?_, ?_, ?_, ?_, ?_, ?_, ?_, ?_, ?_, ?_, ?_, ?_, fun j => ?_, (((Below.refl _ _).alloc (Nat.le_refl _) _).alloc (by simp) _).alloc (by simp; omega) _, by simp⟩
    all_goals simp [go_sem]
  have H3 := Lib.hid h3
  clear h3
  have hR := mright_any (HV.out.2.below H3.out.bel) (by have := HN.out.2.2.1; omega)
  have HR := Lib.hid hR
  have hCL : ∀ w', Below w3.heap.size w3 w' → Calls Tryz.prog 40 #[.slice la ln lc] w' (ClAns s.fl w') := fun w' hb => vclone_any (rdz_rdi ((HL2.out.1.below H3.out.bel).below hb)) (by have := HQ.out.2.1; have := HG.out.fl; rcases this with h9 | h9 <;> first | (rw [h9]; simp) | (unfold vecB at h9; simp only [Bool.and_eq_true, decide_eq_true_eq] at h9; omega))
  have hCM : ∀ w', Below w3.heap.size w3 w' → Calls Tryz.prog 40 #[.slice ma mn mc] w' (ClAns e.fl w') := fun w' hb => vclone_any (rdz_rdi ((HL2.out.2.below H3.out.bel).below hb)) (by have := HN.out.2.2.1; omega)
  have hLQ : ∀ w', Below w3.heap.size w3 w' → Calls Tryz.prog 16 #[.slice la ln lc, .slice ma mn mc] w' (LqAns s.fl e.fl w') := fun w' hb => mleq_any ((HL2.out.1.below H3.out.bel).below hb) ((HL2.out.2.below H3.out.bel).below hb) (by have := HG.out.fl; rcases this with h9 | h9 <;> first | (rw [h9]; simp) | (unfold vecB at h9; simp only [Bool.and_eq_true, decide_eq_true_eq] at h9; omega)) (by have := HN.out.2.2.1; omega)
  have HCL := Lib.hid (And.intro hCL (And.intro hCM hLQ))
  clear hCL hCM hLQ
  have HZ3 := Lib.hid hz3
  clear hR hz3
  have b0 := H3.out.b0
  have b1 := H3.out.b1
  have b2 := H3.out.b2
  have b3 := H3.out.b3
  have b4 := H3.out.b4
  cases hE : rightE e with
  | false =>
    have hap : applyF s e = (1, s00) := by unfold applyF; rw [if_pos hE]
    have HAP := Lib.hid hap
    clear hap
    go_enter Tryz.func15, Tryz.ntmps15
    go_wp2_with (go_at_call 38; refine HR.out.mono ?_; rintro r w4 ⟨rfl, hb4⟩; rw [hE]; have H4 := Lib.hid (H3.out.below hb4); have r0 := H4.out.r0; have r1 := H4.out.r1; have r2 := H4.out.r2; have r3 := H4.out.r3; have r4 := H4.out.r4; have y0 := H4.out.rf 0; have y1 := H4.out.rf 1; have y2 := H4.out.rf 2; have y3 := H4.out.rf 3; have y4 := H4.out.rf 4; clear hb4)
    have q0 : (((((w4.setCell ⟨w.heap.size + 2, 0, none⟩ (.slice none 0 0)).setCell ⟨w.heap.size + 2, 1, none⟩ (.int .i64 0)).setCell ⟨w.heap.size + 2, 2, none⟩ (.int .i64 0)).setCell ⟨w.heap.size + 2, 3, none⟩ (.slice none 0 0)).setCell ⟨w.heap.size + 2, 4, none⟩ (.slice none 0 0)).cell? ⟨w.heap.size + 2, 0, none⟩ = some (.slice none 0 0) := (cell_keep (cell_keep (cell_keep (cell_keep (World.cell?_setCell_same _ _ _ H4.out.r0) (by decide)) (by decide)) (by decide)) (by decide))
    have q1 : (((((w4.setCell ⟨w.heap.size + 2, 0, none⟩ (.slice none 0 0)).setCell ⟨w.heap.size + 2, 1, none⟩ (.int .i64 0)).setCell ⟨w.heap.size + 2, 2, none⟩ (.int .i64 0)).setCell ⟨w.heap.size + 2, 3, none⟩ (.slice none 0 0)).setCell ⟨w.heap.size + 2, 4, none⟩ (.slice none 0 0)).cell? ⟨w.heap.size + 2, 1, none⟩ = some (.int .i64 0) := (cell_keep (cell_keep (cell_keep (World.cell?_setCell_same _ _ _ (cell_keep H4.out.r1 (by decide))) (by decide)) (by decide)) (by decide))
    have q2 : (((((w4.setCell ⟨w.heap.size + 2, 0, none⟩ (.slice none 0 0)).setCell ⟨w.heap.size + 2, 1, none⟩ (.int .i64 0)).setCell ⟨w.heap.size + 2, 2, none⟩ (.int .i64 0)).setCell ⟨w.heap.size + 2, 3, none⟩ (.slice none 0 0)).setCell ⟨w.heap.size + 2, 4, none⟩ (.slice none 0 0)).cell? ⟨w.heap.size + 2, 2, none⟩ = some (.int .i64 0) := (cell_keep (cell_keep (World.cell?_setCell_same _ _ _ (cell_keep (cell_keep H4.out.r2 (by decide)) (by decide))) (by decide)) (by decide))
    have q3 : (((((w4.setCell ⟨w.heap.size + 2, 0, none⟩ (.slice none 0 0)).setCell ⟨w.heap.size + 2, 1, none⟩ (.int .i64 0)).setCell ⟨w.heap.size + 2, 2, none⟩ (.int .i64 0)).setCell ⟨w.heap.size + 2, 3, none⟩ (.slice none 0 0)).setCell ⟨w.heap.size + 2, 4, none⟩ (.slice none 0 0)).cell? ⟨w.heap.size + 2, 3, none⟩ = some (.slice none 0 0) := (cell_keep (World.cell?_setCell_same _ _ _ (cell_keep (cell_keep (cell_keep H4.out.r3 (by decide)) (by decide)) (by decide))) (by decide))
    have q4 : (((((w4.setCell ⟨w.heap.size + 2, 0, none⟩ (.slice none 0 0)).setCell ⟨w.heap.size + 2, 1, none⟩ (.int .i64 0)).setCell ⟨w.heap.size + 2, 2, none⟩ (.int .i64 0)).setCell ⟨w.heap.size + 2, 3, none⟩ (.slice none 0 0)).setCell ⟨w.heap.size + 2, 4, none⟩ (.slice none 0 0)).cell? ⟨w.heap.size + 2, 4, none⟩ = some (.slice none 0 0) := (World.cell?_setCell_same _ _ _ (cell_keep (cell_keep (cell_keep (cell_keep H4.out.r4 (by decide)) (by decide)) (by decide)) (by decide)))
    (try simp only [Exit.inBlock, Exit.then])
    exact bodyPost_ret (results_cell2 rfl rfl (load_st q0 q1 q2 q3 q4)) rfl ⟨(((((H4.out.bel.setCell (Nat.le_add_right _ _) _).setCell (Nat.le_add_right _ _) _).setCell (Nat.le_add_right _ _) _).setCell (Nat.le_add_right _ _) _).setCell (Nat.le_add_right _ _) _), _, by rw [HAP.out]; rfl, by rw [HAP.out]; exact ownSt00 _ _⟩
  | true =>
    have hro := right_of hE
    obtain ⟨⟨er, FL, nx⟩, hT⟩ : ∃ t, tabF s e = t := ⟨_, rfl⟩
    obtain ⟨tn, htn⟩ : ∃ t, FL.length = t := ⟨_, rfl⟩
    obtain ⟨NL, hNL⟩ : ∃ l, notesF s.ns e.ns = l := ⟨_, rfl⟩
    obtain ⟨kn, hkn⟩ : ∃ t, NL.length = t := ⟨_, rfl⟩
    have hTB : ∀ w', Below w3.heap.size w3 w' → Calls Tryz.prog 39 #[.agg #[.slice sa sn sc, .int .i64 s.next, .int .i64 s.log, .slice la ln lc, .slice na nn nc], .agg #[.slice xa xn xc, .slice ya yn yc, .int .i64 e.log, .slice ma mn mc, .slice oa on oc]] w' (TbAns FL nx er tn w') := by
      intro w' hb
      have hbw := H3.out.bel.trans (hb.mono H3.out.bel.size)
      refine (tables_any (HV.out.1.below hbw) (HV.out.2.below hbw) HG.out.nums (by have := HG.out.few; omega) HN.out.1 HN.out.2.1 HG.out.next (fun f hf => by have := valid_of (hro.1 f hf); omega) (fun f hf => by
        rcases hf with hf | hf
        · have := valid_of (HG.out.val f hf); omega
        · have := valid_of (hro.1 f hf); omega)).mono ?_
      rintro r w'' ⟨h1, fv, rfl, h2⟩
      rw [hT] at h2 ⊢
      obtain ⟨a, c, rfl, _, _⟩ := row_form h2
      simp only at h2
      exact ⟨a, c, by rw [htn], by rw [← htn]; exact h2, h1⟩
    have hNT : ∀ w', Below w3.heap.size w3 w' → Calls Tryz.prog 41 #[.agg #[.slice sa sn sc, .int .i64 s.next, .int .i64 s.log, .slice la ln lc, .slice na nn nc], .agg #[.slice xa xn xc, .slice ya yn yc, .int .i64 e.log, .slice ma mn mc, .slice oa on oc]] w' (NtAns NL w') := by
      intro w' hb
      have hbw := H3.out.bel.trans (hb.mono H3.out.bel.size)
      refine (notes_any (HV.out.1.below hbw) (HV.out.2.below hbw) (by have := HG.out.nfew; omega) (by have := HN.out.2.2.2; omega) (fun p hp => by
        rcases List.mem_append.1 hp with hp | hp
        · have := note_of (HG.out.note p hp).1; omega
        · have := note_of (hro.2.2.2 p hp); omega)).mono ?_
      rintro r w'' ⟨h1, v, rfl, h2⟩
      rw [hNL] at h2
      obtain ⟨a, c, rfl, _, _⟩ := row_form h2
      exact ⟨a, c, rfl, h2, h1⟩
    have HTB := Lib.hid (And.intro hTB hNT)
    have HRO := Lib.hid hro
    have HTT := Lib.hid (And.intro hT (And.intro htn (And.intro hNL hkn)))
    clear hro hTB hNT hT htn hNL hkn
    go_enter Tryz.func15, Tryz.ntmps15
    go_upto_region 4 with (first
      | (go_at_call 39; refine (HTB.out.1 _ HB4.out).mono ?_; rintro r w5 ⟨fa, fc, rfl, ho5, hb5⟩; have H5 := Lib.hid (And.intro (H4.out.below hb5) (And.intro ho5 (And.intro hb5 (HB4.out.trans (hb5.mono HB4.out.size))))); clear ho5 hb5)
      | (go_at_call 38; refine HR.out.mono ?_; rintro r w4 ⟨rfl, hb4⟩; rw [hE]; have H4 := Lib.hid (H3.out.below hb4); have HB4 := Lib.hid hb4; clear b0 b1 b2 b3 b4; have a0 := H4.out.a0; have a1 := H4.out.a1; have a2 := H4.out.a2; have a3 := H4.out.a3; have a4 := H4.out.a4; have b0 := H4.out.b0; have b1 := H4.out.b1; have b2 := H4.out.b2; have b3 := H4.out.b3; have b4 := H4.out.b4; clear hb4))
    clear a0 a1 a2 a3 a4 b0 b1 b2 b3 b4 hw1 hw2 hw3
    go_cut [9] (fun y9 wx => RgAns s e w5 (.slice fa tn fc) nx y9 wx)
    case first =>
      have hd : ApS w w5.drew (.slice sa sn sc) (.int .i64 s.next) (.int .i64 s.log) (.slice la ln lc) (.slice na nn nc) (.slice xa xn xc) (.slice ya yn yc) (.int .i64 e.log) (.slice ma mn mc) (.slice oa on oc) := H5.out.1.below (Below.refl _ _).drew
      have hdb : Below w3.heap.size w3 w5.drew := H5.out.2.2.2.trans ((Below.refl w5.heap.size w5).drew.mono H5.out.2.2.2.size)
      have HD := Lib.hid (And.intro hd hdb)
      clear hd hdb
      refine wp_region_K (fun w' => w'.cell? ⟨w.heap.size, 0, none⟩ = some (.slice sa sn sc) ∧ w'.cell? ⟨w.heap.size, 1, none⟩ = some (.int .i64 s.next) ∧ w'.cell? ⟨w.heap.size, 2, none⟩ = some (.int .i64 s.log) ∧ w'.cell? ⟨w.heap.size, 3, none⟩ = some (.slice la ln lc) ∧ w'.cell? ⟨w.heap.size, 4, none⟩ = some (.slice na nn nc) ∧ w'.cell? ⟨w.heap.size + 1, 0, none⟩ = some (.slice xa xn xc) ∧ w'.cell? ⟨w.heap.size + 1, 1, none⟩ = some (.slice ya yn yc) ∧ w'.cell? ⟨w.heap.size + 1, 2, none⟩ = some (.int .i64 e.log) ∧ w'.cell? ⟨w.heap.size + 1, 3, none⟩ = some (.slice ma mn mc) ∧ w'.cell? ⟨w.heap.size + 1, 4, none⟩ = some (.slice oa on oc)) 12 13 (by kernel_rfl) (by kernel_rfl) ⟨HD.out.1.a0, HD.out.1.a1, HD.out.1.a2, HD.out.1.a3, HD.out.1.a4, HD.out.1.b0, HD.out.1.b1, HD.out.1.b2, HD.out.1.b3, HD.out.1.b4⟩ (fun hH => ?_)
      refine tkK (i := 0) [12] rfl hH ?_
      try simp only [Act.put, tkA, tkB, tkC]
      refine tkK (i := 1) [12] rfl hH ?_
      try simp only [Act.put, tkA, tkB, tkC]
      refine tkK (i := 2) [12] rfl hH ?_
      try simp only [Act.put, tkA, tkB, tkC]
      refine tkK (i := 3) [12] rfl hH ?_
      try simp only [Act.put, tkA, tkB, tkC]
      refine tkK (i := 4) [12] rfl hH ?_
      try simp only [Act.put, tkA, tkB, tkC]
      refine tkK (i := 5) [12] rfl hH ?_
      try simp only [Act.put, tkA, tkB, tkC]
      refine tkK (i := 7) [12] rfl hH ?_
      try simp only [Act.put, tkA, tkB, tkC]
      refine tkK (i := 8) [12] rfl hH ?_
      try simp only [Act.put, tkA, tkB, tkC]
      obtain ⟨wz, hwz⟩ : ∃ wz, w5.drew = wz := ⟨_, rfl⟩
      have hwb5 : Below w5.heap.size w5 wz := by rw [← hwz]; exact (Below.refl _ _).drew
      have hws : wz.heap.size = w5.heap.size := by rw [← hwz]; rfl
      rw [hwz] at HD hH ⊢
      have HW5 := Lib.hid (And.intro hwb5 hws)
      clear hwz hwb5 hws
      refine wpAnyK_all (rs := [6, 11]) (by kernel_rfl) (by simp) (fun i hi => ?_)
      rcases List.mem_cons.1 hi with rfl | hi2
      · refine wpOp_K rfl (fun K hK => ?_) (by kernel_rfl)
        go_simp
        go_at_call 40
        refine (HCL.out.1 _ HD.out.2).mono ?_
        rintro r w6 ⟨ca, cc, rfl, ho6, hb6⟩
        simp only []
        rw [HQ.out.2.1] at ho6 ⊢
        have HA6 := Lib.hid (And.intro (HD.out.1.below hb6) (HD.out.2.trans (hb6.mono HD.out.2.size)))
        have HO6 := Lib.hid (And.intro ho6 hb6)
        clear ho6 hb6
        refine hK.out _ _ ⟨HA6.out.1.a0, HA6.out.1.a1, HA6.out.1.a2, HA6.out.1.a3, HA6.out.1.a4, HA6.out.1.b0, HA6.out.1.b1, HA6.out.1.b2, HA6.out.1.b3, HA6.out.1.b4⟩ (fun hH => ?_)
        clear hK K
        try simp only [Act.put, tkA, tkB, tkC]
        refine wpAnyK_all (rs := [9, 11]) (by kernel_rfl) (by simp) (fun i hi => ?_)
        rcases List.mem_cons.1 hi with rfl | hi2
        · refine wpOp_K rfl (fun K hK => ?_) (by kernel_rfl)
          go_simp
          go_at_call 41
          refine (HTB.out.2 _ HA6.out.2).mono ?_
          rintro r w9 ⟨da, dc, rfl, ho9, hb9⟩
          simp only []
          rw [HTT.out.2.2.2] at ho9 ⊢
          have HA9 := Lib.hid (And.intro (HA6.out.1.below hb9) (HA6.out.2.trans (hb9.mono HA6.out.2.size)))
          have HO9 := Lib.hid (And.intro ho9 hb9)
          clear ho9 hb9
          refine hK.out _ _ ⟨HA9.out.1.a0, HA9.out.1.a1, HA9.out.1.a2, HA9.out.1.a3, HA9.out.1.a4, HA9.out.1.b0, HA9.out.1.b1, HA9.out.1.b2, HA9.out.1.b3, HA9.out.1.b4⟩ (fun hH => ?_)
          clear hK K
          try simp only [Act.put, tkA, tkB, tkC]
          refine tkK (i := 10) [12] rfl hH ?_
          try simp only [Act.put, tkA, tkB, tkC]
          refine wpAnyK_one (i := 11) (by kernel_rfl) rfl (fun K hK => ?_) (by kernel_rfl)
          go_simp
          obtain ⟨obk, hobk⟩ : ∃ k, w9.heap.size = k := ⟨_, rfl⟩
          rw [hobk]
          have HOBK := Lib.hid hobk
          clear hobk
          obtain ⟨wb, hwb⟩ : ∃ wb, w9.alloc (.cells #[.slice none 0 0, .int .i64 0, .int .i64 0, .slice none 0 0, .slice none 0 0] 30) = wb := ⟨_, rfl⟩
          rw [hwb]
          have hbb : Below w9.heap.size w9 wb := by rw [← hwb]; exact (Below.refl _ _).alloc (Nat.le_refl _) _
          have hoz : ObZ wb obk := by rw [← HOBK.out, ← hwb]; exact ObZ.made _
          have HA11 := Lib.hid (And.intro (HA9.out.1.below hbb) (HA9.out.2.trans (hbb.mono HA9.out.2.size)))
          have HZ := Lib.hid (And.intro hoz hbb)
          clear hoz hbb hwb
          refine hK.out _ _ ⟨HA11.out.1.a0, HA11.out.1.a1, HA11.out.1.a2, HA11.out.1.a3, HA11.out.1.a4, HA11.out.1.b0, HA11.out.1.b1, HA11.out.1.b2, HA11.out.1.b3, HA11.out.1.b4⟩ (fun hH => ?_)
          clear hK K
          try simp only [Act.put, tkA, tkB, tkC]
          have hoz : ObZ wb obk := HZ.out.1
          have HOZ := Lib.hid hoz
          have z0 := hoz.z0
          have z1 := hoz.z1
          have z2 := hoz.z2
          have z3 := hoz.z3
          have z4 := hoz.z4
          have zf0 := hoz.zf 0
          have zf1 := hoz.zf 1
          have zf2 := hoz.zf 2
          have zf3 := hoz.zf 3
          have zf4 := hoz.zf 4
          clear hoz
          refine wpAnyK_last (by kernel_rfl) rfl (fun K hK => ?_) (by kernel_rfl)
          go_simp
          refine hK.out _ _ (wpAnyK_done (by kernel_rfl) ?_ _)
          clear hK K hH
          go_wp2_with fail
          go_meet
          case rel => exact rg_done (s := s) (e := e) (wv := w5) (fv := .slice fa tn fc) (nx := nx) (HW5.out.1.trans ((HO6.out.2.mono (by have := HW5.out.2; omega)).trans ((HO9.out.2.mono (by have := HW5.out.2; have := HO6.out.2.size; omega)).trans (HZ.out.2.mono (by have := HW5.out.2; have := HO6.out.2.size; have := HO9.out.2.size; omega))))) HOZ.out (by have := HOBK.out; have := HW5.out.2; have := HO6.out.2.size; have := HO9.out.2.size; omega) HQ.out.2.1 (by rw [HTT.out.2.2.1, HTT.out.2.2.2]) (row_mono (row_below (row_below HO6.out.1 HO9.out.2) HZ.out.2) (by have := HW5.out.2; omega)) (by rw [HTT.out.2.2.1]; exact (row_mono (row_below HO9.out.1 HZ.out.2) (by have := HW5.out.2; have := HO6.out.2.size; omega))) (fun q hq => by have := (HO6.out.1.lt q hq).2; have := HO9.out.2.size; have := HOBK.out; omega) (fun q hq => by have := (HO9.out.1.lt q hq).2; have := HOBK.out; omega)
        · obtain rfl := List.mem_singleton.1 hi2
          refine wpOp_K rfl (fun K hK => ?_) (by kernel_rfl)
          go_simp
          obtain ⟨obk, hobk⟩ : ∃ k, w6.heap.size = k := ⟨_, rfl⟩
          rw [hobk]
          have HOBK := Lib.hid hobk
          clear hobk
          obtain ⟨wb, hwb⟩ : ∃ wb, w6.alloc (.cells #[.slice none 0 0, .int .i64 0, .int .i64 0, .slice none 0 0, .slice none 0 0] 30) = wb := ⟨_, rfl⟩
          rw [hwb]
          have hbb : Below w6.heap.size w6 wb := by rw [← hwb]; exact (Below.refl _ _).alloc (Nat.le_refl _) _
          have hoz : ObZ wb obk := by rw [← HOBK.out, ← hwb]; exact ObZ.made _
          have HA11 := Lib.hid (And.intro (HA6.out.1.below hbb) (HA6.out.2.trans (hbb.mono HA6.out.2.size)))
          have HZ := Lib.hid (And.intro hoz hbb)
          clear hoz hbb hwb
          refine hK.out _ _ ⟨HA11.out.1.a0, HA11.out.1.a1, HA11.out.1.a2, HA11.out.1.a3, HA11.out.1.a4, HA11.out.1.b0, HA11.out.1.b1, HA11.out.1.b2, HA11.out.1.b3, HA11.out.1.b4⟩ (fun hH => ?_)
          clear hK K
          try simp only [Act.put, tkA, tkB, tkC]
          refine wpAnyK_one (i := 9) (by kernel_rfl) rfl (fun K hK => ?_) (by kernel_rfl)
          go_simp
          go_at_call 41
          refine (HTB.out.2 _ HA11.out.2).mono ?_
          rintro r w9 ⟨da, dc, rfl, ho9, hb9⟩
          simp only []
          rw [HTT.out.2.2.2] at ho9 ⊢
          have HA9 := Lib.hid (And.intro (HA11.out.1.below hb9) (HA11.out.2.trans (hb9.mono HA11.out.2.size)))
          have HO9 := Lib.hid (And.intro ho9 hb9)
          clear ho9 hb9
          refine hK.out _ _ ⟨HA9.out.1.a0, HA9.out.1.a1, HA9.out.1.a2, HA9.out.1.a3, HA9.out.1.a4, HA9.out.1.b0, HA9.out.1.b1, HA9.out.1.b2, HA9.out.1.b3, HA9.out.1.b4⟩ (fun hH => ?_)
          clear hK K
          try simp only [Act.put, tkA, tkB, tkC]
          refine tkK (i := 10) [12] rfl hH ?_
          try simp only [Act.put, tkA, tkB, tkC]
          have hoz : ObZ w9 obk := HZ.out.1.below HO9.out.2
          have HOZ := Lib.hid hoz
          have z0 := hoz.z0
          have z1 := hoz.z1
          have z2 := hoz.z2
          have z3 := hoz.z3
          have z4 := hoz.z4
          have zf0 := hoz.zf 0
          have zf1 := hoz.zf 1
          have zf2 := hoz.zf 2
          have zf3 := hoz.zf 3
          have zf4 := hoz.zf 4
          clear hoz
          refine wpAnyK_last (by kernel_rfl) rfl (fun K hK => ?_) (by kernel_rfl)
          go_simp
          refine hK.out _ _ (wpAnyK_done (by kernel_rfl) ?_ _)
          clear hK K hH
          go_wp2_with fail
          go_meet
          case rel => exact rg_done (s := s) (e := e) (wv := w5) (fv := .slice fa tn fc) (nx := nx) (HW5.out.1.trans ((HO6.out.2.mono (by have := HW5.out.2; omega)).trans ((HZ.out.2.mono (by have := HW5.out.2; have := HO6.out.2.size; omega)).trans (HO9.out.2.mono (by have := HW5.out.2; have := HO6.out.2.size; have := HZ.out.2.size; omega))))) HOZ.out (by have := HOBK.out; have := HW5.out.2; have := HO6.out.2.size; omega) HQ.out.2.1 (by rw [HTT.out.2.2.1, HTT.out.2.2.2]) (row_mono (row_below (row_below HO6.out.1 HZ.out.2) HO9.out.2) (by have := HW5.out.2; omega)) (by rw [HTT.out.2.2.1]; exact (row_mono HO9.out.1 (by have := HW5.out.2; have := HO6.out.2.size; have := HZ.out.2.size; omega))) (fun q hq => by have := (HO6.out.1.lt q hq).2; have := HOBK.out; omega) (fun q hq => by have := (HO9.out.1.lt q hq).1; have := HZ.out.1.lt; omega)
      · obtain rfl := List.mem_singleton.1 hi2
        refine wpOp_K rfl (fun K hK => ?_) (by kernel_rfl)
        go_simp
        obtain ⟨obk, hobk⟩ : ∃ k, wz.heap.size = k := ⟨_, rfl⟩
        rw [hobk]
        have HOBK := Lib.hid hobk
        clear hobk
        obtain ⟨wb, hwb⟩ : ∃ wb, wz.alloc (.cells #[.slice none 0 0, .int .i64 0, .int .i64 0, .slice none 0 0, .slice none 0 0] 30) = wb := ⟨_, rfl⟩
        rw [hwb]
        have hbb : Below wz.heap.size wz wb := by rw [← hwb]; exact (Below.refl _ _).alloc (Nat.le_refl _) _
        have hoz : ObZ wb obk := by rw [← HOBK.out, ← hwb]; exact ObZ.made _
        have HA11 := Lib.hid (And.intro (HD.out.1.below hbb) (HD.out.2.trans (hbb.mono HD.out.2.size)))
        have HZ := Lib.hid (And.intro hoz hbb)
        clear hoz hbb hwb
        refine hK.out _ _ ⟨HA11.out.1.a0, HA11.out.1.a1, HA11.out.1.a2, HA11.out.1.a3, HA11.out.1.a4, HA11.out.1.b0, HA11.out.1.b1, HA11.out.1.b2, HA11.out.1.b3, HA11.out.1.b4⟩ (fun hH => ?_)
        clear hK K
        try simp only [Act.put, tkA, tkB, tkC]
        refine wpAnyK_one (i := 6) (by kernel_rfl) rfl (fun K hK => ?_) (by kernel_rfl)
        go_simp
        go_at_call 40
        refine (HCL.out.1 _ HA11.out.2).mono ?_
        rintro r w6 ⟨ca, cc, rfl, ho6, hb6⟩
        simp only []
        rw [HQ.out.2.1] at ho6 ⊢
        have HA6 := Lib.hid (And.intro (HA11.out.1.below hb6) (HA11.out.2.trans (hb6.mono HA11.out.2.size)))
        have HO6 := Lib.hid (And.intro ho6 hb6)
        clear ho6 hb6
        refine hK.out _ _ ⟨HA6.out.1.a0, HA6.out.1.a1, HA6.out.1.a2, HA6.out.1.a3, HA6.out.1.a4, HA6.out.1.b0, HA6.out.1.b1, HA6.out.1.b2, HA6.out.1.b3, HA6.out.1.b4⟩ (fun hH => ?_)
        clear hK K
        try simp only [Act.put, tkA, tkB, tkC]
        refine wpAnyK_one (i := 9) (by kernel_rfl) rfl (fun K hK => ?_) (by kernel_rfl)
        go_simp
        go_at_call 41
        refine (HTB.out.2 _ HA6.out.2).mono ?_
        rintro r w9 ⟨da, dc, rfl, ho9, hb9⟩
        simp only []
        rw [HTT.out.2.2.2] at ho9 ⊢
        have HA9 := Lib.hid (And.intro (HA6.out.1.below hb9) (HA6.out.2.trans (hb9.mono HA6.out.2.size)))
        have HO9 := Lib.hid (And.intro ho9 hb9)
        clear ho9 hb9
        refine hK.out _ _ ⟨HA9.out.1.a0, HA9.out.1.a1, HA9.out.1.a2, HA9.out.1.a3, HA9.out.1.a4, HA9.out.1.b0, HA9.out.1.b1, HA9.out.1.b2, HA9.out.1.b3, HA9.out.1.b4⟩ (fun hH => ?_)
        clear hK K
        try simp only [Act.put, tkA, tkB, tkC]
        refine tkK (i := 10) [12] rfl hH ?_
        try simp only [Act.put, tkA, tkB, tkC]
        have hoz : ObZ w9 obk := (HZ.out.1.below HO6.out.2).below HO9.out.2
        have HOZ := Lib.hid hoz
        have z0 := hoz.z0
        have z1 := hoz.z1
        have z2 := hoz.z2
        have z3 := hoz.z3
        have z4 := hoz.z4
        have zf0 := hoz.zf 0
        have zf1 := hoz.zf 1
        have zf2 := hoz.zf 2
        have zf3 := hoz.zf 3
        have zf4 := hoz.zf 4
        clear hoz
        refine wpAnyK_last (by kernel_rfl) rfl (fun K hK => ?_) (by kernel_rfl)
        go_simp
        refine hK.out _ _ (wpAnyK_done (by kernel_rfl) ?_ _)
        clear hK K hH
        go_wp2_with fail
        go_meet
        case rel => exact rg_done (s := s) (e := e) (wv := w5) (fv := .slice fa tn fc) (nx := nx) (HW5.out.1.trans ((HZ.out.2.mono (by have := HW5.out.2; omega)).trans ((HO6.out.2.mono (by have := HW5.out.2; have := HZ.out.2.size; omega)).trans (HO9.out.2.mono (by have := HW5.out.2; have := HZ.out.2.size; have := HO6.out.2.size; omega))))) HOZ.out (by have := HOBK.out; have := HW5.out.2; omega) HQ.out.2.1 (by rw [HTT.out.2.2.1, HTT.out.2.2.2]) (row_mono (row_below HO6.out.1 HO9.out.2) (by have := HW5.out.2; have := HZ.out.2.size; omega)) (by rw [HTT.out.2.2.1]; exact (row_mono HO9.out.1 (by have := HW5.out.2; have := HZ.out.2.size; have := HO6.out.2.size; omega))) (fun q hq => by have := (HO6.out.1.lt q hq).1; have := HZ.out.1.lt; omega) (fun q hq => by have := (HO9.out.1.lt q hq).1; have := HZ.out.1.lt; have := HO6.out.2.size; omega)
    case rest =>
      obtain ⟨hbx, ob, ca, da, cc, dc, rfl, ho1, ho2, o0, o1, o2, o3, o4, of0, ox1, ox2, oy1, oy2⟩ := hcut
      rw [HQ.out.2.1] at o3 ox1 oy1
      rw [HTT.out.2.2.1, HTT.out.2.2.2] at o4 ox2 oy2
      have HOY := Lib.hid (And.intro oy1 oy2)
      have HX := Lib.hid (And.intro (H5.out.1.below hbx) (And.intro ox1 (And.intro ox2 (And.intro hbx (And.intro of0 (And.intro ho1 ho2))))))
      have HB3 := Lib.hid (H5.out.2.2.2.trans (hbx.mono H5.out.2.2.2.size))
      have hofa : Own eFi wc w4.heap.size (.slice fa tn fc) FL := row_below H5.out.2.1 hbx
      have HFA := Lib.hid hofa
      clear hbx ox1 ox2 of0 ho1 ho2 hofa oy1 oy2
      by_cases her : er = 0
      · subst her
        go_upto_region 7 with fail
        obtain ⟨bad, hbad⟩ : ∃ b : Bool, (b = true ↔ (e.fl ≠ [] ∧ s.fl ≠ [] ∧ ¬ leZ s.fl e.fl)) := by
          by_cases h9 : (e.fl ≠ [] ∧ s.fl ≠ [] ∧ ¬ leZ s.fl e.fl)
          · exact ⟨true, fun _ => h9, fun _ => rfl⟩
          · exact ⟨false, (fun h => by cases h), fun h => absurd h h9⟩
        have HBAD := Lib.hid hbad
        clear hbad
        have a0 := HX.out.1.a0
        have a1 := HX.out.1.a1
        have a2 := HX.out.1.a2
        have a3 := HX.out.1.a3
        have a4 := HX.out.1.a4
        have b0 := HX.out.1.b0
        have b1 := HX.out.1.b1
        have b2 := HX.out.1.b2
        have b3 := HX.out.1.b3
        have b4 := HX.out.1.b4
        go_cut [37] (fun c wx => c = .bool bad ∧ wx = wc)
        case first =>
          by_cases m0 : mn = 0
          · have hml : e.fl = [] := List.eq_nil_of_length_eq_zero (by rw [HQ.out.2.2.2.2.2.1]; exact m0)
            have zm : ¬ (0 : Int) < (mn : Int) := by omega
            have HML := Lib.hid hml
            clear hml m0
            have hb : bad = false := Bool.eq_false_iff.2 (fun h9 => absurd (HBAD.out.1 h9) (fun h8 => absurd HML.out h8.1))
            subst hb
            go_wp2_with fail
            go_meet
            case rel => exact ⟨rfl, rfl⟩
          · have zm : (0 : Int) < (mn : Int) := by omega
            by_cases l0 : ln = 0
            · have hll : s.fl = [] := List.eq_nil_of_length_eq_zero (by rw [HQ.out.2.1]; exact l0)
              have zl : ¬ (0 : Int) < (ln : Int) := by omega
              have HLL := Lib.hid hll
              clear hll l0
              have hb : bad = false := Bool.eq_false_iff.2 (fun h9 => absurd (HBAD.out.1 h9) (fun h8 => absurd HLL.out h8.2.1))
              subst hb
              go_wp2_with fail
              go_meet
              case rel => exact ⟨rfl, rfl⟩
            · have zl : (0 : Int) < (ln : Int) := by omega
              by_cases hlq : leZ s.fl e.fl
              · have HLZ := Lib.hid hlq
                have hq : Calls Tryz.prog 16 #[.slice la ln lc, .slice ma mn mc] wc fun r w' => r = .returned (.bool true) ∧ w' = wc := (HCL.out.2.2 _ HB3.out).mono (by rintro r w' ⟨b, rfl, h9, rfl⟩; exact ⟨by rw [h9.2 HLZ.out], rfl⟩)
                have HLQ := Lib.hid hq
                clear hlq hq
                have hb : bad = false := Bool.eq_false_iff.2 (fun h9 => absurd (HBAD.out.1 h9) (fun h8 => h8.2.2 HLZ.out))
                subst hb
                go_wp2_with (go_at_call 16; refine HLQ.out.mono ?_; rintro r w2x ⟨rfl, rfl⟩)
                go_meet
                case rel => exact ⟨rfl, rfl⟩
              · have hb : bad = true := HBAD.out.2 (⟨fun h9 => m0 (by rw [← HQ.out.2.2.2.2.2.1, h9]; rfl), fun h9 => l0 (by rw [← HQ.out.2.1, h9]; rfl), hlq⟩)
                subst hb
                have hq : Calls Tryz.prog 16 #[.slice la ln lc, .slice ma mn mc] wc fun r w' => r = .returned (.bool false) ∧ w' = wc := (HCL.out.2.2 _ HB3.out).mono (by rintro r w' ⟨b, rfl, h9, rfl⟩; exact ⟨by rw [Bool.eq_false_iff.2 (fun h8 => hlq (h9.1 h8))], rfl⟩)
                have HLQ := Lib.hid hq
                clear hlq hq
                go_wp2_with (go_at_call 16; refine HLQ.out.mono ?_; rintro r w2x ⟨rfl, rfl⟩)
                go_meet
                case rel => exact ⟨rfl, rfl⟩
        case rest =>
          obtain ⟨rfl, rfl⟩ := hcut
          cases bad with
          | true =>
            have hap : applyF s e = (32, s00) := by
              unfold applyF
              rw [if_neg (by rw [hE]; simp), HTT.out.1, if_neg (by simp)]
              exact if_pos (.inl (HBAD.out.1 rfl))
            have HAP := Lib.hid hap
            clear hap
            have r0 := HX.out.1.r0
            have r1 := HX.out.1.r1
            have r2 := HX.out.1.r2
            have r3 := HX.out.1.r3
            have r4 := HX.out.1.r4
            have y0 := HX.out.1.rf 0
            have y1 := HX.out.1.rf 1
            have y2 := HX.out.1.rf 2
            have y3 := HX.out.1.rf 3
            have y4 := HX.out.1.rf 4
            go_wp2_with fail
            have q0 : (((((wc.setCell ⟨w.heap.size + 2, 0, none⟩ (.slice none 0 0)).setCell ⟨w.heap.size + 2, 1, none⟩ (.int .i64 0)).setCell ⟨w.heap.size + 2, 2, none⟩ (.int .i64 0)).setCell ⟨w.heap.size + 2, 3, none⟩ (.slice none 0 0)).setCell ⟨w.heap.size + 2, 4, none⟩ (.slice none 0 0)).cell? ⟨w.heap.size + 2, 0, none⟩ = some (.slice none 0 0) := (cell_keep (cell_keep (cell_keep (cell_keep (World.cell?_setCell_same _ _ _ HX.out.1.r0) (by decide)) (by decide)) (by decide)) (by decide))
            have q1 : (((((wc.setCell ⟨w.heap.size + 2, 0, none⟩ (.slice none 0 0)).setCell ⟨w.heap.size + 2, 1, none⟩ (.int .i64 0)).setCell ⟨w.heap.size + 2, 2, none⟩ (.int .i64 0)).setCell ⟨w.heap.size + 2, 3, none⟩ (.slice none 0 0)).setCell ⟨w.heap.size + 2, 4, none⟩ (.slice none 0 0)).cell? ⟨w.heap.size + 2, 1, none⟩ = some (.int .i64 0) := (cell_keep (cell_keep (cell_keep (World.cell?_setCell_same _ _ _ (cell_keep HX.out.1.r1 (by decide))) (by decide)) (by decide)) (by decide))
            have q2 : (((((wc.setCell ⟨w.heap.size + 2, 0, none⟩ (.slice none 0 0)).setCell ⟨w.heap.size + 2, 1, none⟩ (.int .i64 0)).setCell ⟨w.heap.size + 2, 2, none⟩ (.int .i64 0)).setCell ⟨w.heap.size + 2, 3, none⟩ (.slice none 0 0)).setCell ⟨w.heap.size + 2, 4, none⟩ (.slice none 0 0)).cell? ⟨w.heap.size + 2, 2, none⟩ = some (.int .i64 0) := (cell_keep (cell_keep (World.cell?_setCell_same _ _ _ (cell_keep (cell_keep HX.out.1.r2 (by decide)) (by decide))) (by decide)) (by decide))
            have q3 : (((((wc.setCell ⟨w.heap.size + 2, 0, none⟩ (.slice none 0 0)).setCell ⟨w.heap.size + 2, 1, none⟩ (.int .i64 0)).setCell ⟨w.heap.size + 2, 2, none⟩ (.int .i64 0)).setCell ⟨w.heap.size + 2, 3, none⟩ (.slice none 0 0)).setCell ⟨w.heap.size + 2, 4, none⟩ (.slice none 0 0)).cell? ⟨w.heap.size + 2, 3, none⟩ = some (.slice none 0 0) := (cell_keep (World.cell?_setCell_same _ _ _ (cell_keep (cell_keep (cell_keep HX.out.1.r3 (by decide)) (by decide)) (by decide))) (by decide))
            have q4 : (((((wc.setCell ⟨w.heap.size + 2, 0, none⟩ (.slice none 0 0)).setCell ⟨w.heap.size + 2, 1, none⟩ (.int .i64 0)).setCell ⟨w.heap.size + 2, 2, none⟩ (.int .i64 0)).setCell ⟨w.heap.size + 2, 3, none⟩ (.slice none 0 0)).setCell ⟨w.heap.size + 2, 4, none⟩ (.slice none 0 0)).cell? ⟨w.heap.size + 2, 4, none⟩ = some (.slice none 0 0) := (World.cell?_setCell_same _ _ _ (cell_keep (cell_keep (cell_keep (cell_keep HX.out.1.r4 (by decide)) (by decide)) (by decide)) (by decide)))
            (try simp only [Exit.inBlock, Exit.then])
            exact bodyPost_ret (results_cell2 rfl rfl (load_st q0 q1 q2 q3 q4)) rfl ⟨(((((HX.out.1.bel.setCell (Nat.le_add_right _ _) _).setCell (Nat.le_add_right _ _) _).setCell (Nat.le_add_right _ _) _).setCell (Nat.le_add_right _ _) _).setCell (Nat.le_add_right _ _) _), _, by rw [HAP.out]; rfl, by rw [HAP.out]; exact ownSt00 _ _⟩
          | false =>
            go_upto_region 8 with fail
            go_cut [37] (fun c wx => c = .bool (decide (0 < e.log) && decide (e.log < s.log)) ∧ wx = wc)
            case first =>
              by_cases k1 : 0 < e.log
              · by_cases k2 : e.log < s.log
                · go_wp2_with fail
                  go_meet
                  case rel => exact ⟨by rw [decide_eq_true k1, decide_eq_true k2]; rfl, rfl⟩
                · go_wp2_with fail
                  go_meet
                  case rel => exact ⟨by rw [decide_eq_true k1, decide_eq_false (Int.not_lt.2 k2)]; rfl, rfl⟩
              · go_wp2_with fail
                go_meet
                case rel => exact ⟨by rw [decide_eq_false (Int.not_lt.2 k1)]; rfl, rfl⟩
            case rest =>
              obtain ⟨rfl, rfl⟩ := hcut
              cases hlb : decide (0 < e.log) && decide (e.log < s.log) with
              | true =>
                have hlg : 0 < e.log ∧ e.log < s.log := by simpa [Bool.and_eq_true] using hlb
                have hap : applyF s e = (32, s00) := by
                  unfold applyF
                  rw [if_neg (by rw [hE]; simp), HTT.out.1, if_neg (by simp)]
                  exact if_pos (.inr hlg)
                have HAP := Lib.hid hap
                clear hap hlg hlb
                have r0 := HX.out.1.r0
                have r1 := HX.out.1.r1
                have r2 := HX.out.1.r2
                have r3 := HX.out.1.r3
                have r4 := HX.out.1.r4
                have y0 := HX.out.1.rf 0
                have y1 := HX.out.1.rf 1
                have y2 := HX.out.1.rf 2
                have y3 := HX.out.1.rf 3
                have y4 := HX.out.1.rf 4
                go_wp2_with fail
                have q0 : (((((wc.setCell ⟨w.heap.size + 2, 0, none⟩ (.slice none 0 0)).setCell ⟨w.heap.size + 2, 1, none⟩ (.int .i64 0)).setCell ⟨w.heap.size + 2, 2, none⟩ (.int .i64 0)).setCell ⟨w.heap.size + 2, 3, none⟩ (.slice none 0 0)).setCell ⟨w.heap.size + 2, 4, none⟩ (.slice none 0 0)).cell? ⟨w.heap.size + 2, 0, none⟩ = some (.slice none 0 0) := (cell_keep (cell_keep (cell_keep (cell_keep (World.cell?_setCell_same _ _ _ HX.out.1.r0) (by decide)) (by decide)) (by decide)) (by decide))
                have q1 : (((((wc.setCell ⟨w.heap.size + 2, 0, none⟩ (.slice none 0 0)).setCell ⟨w.heap.size + 2, 1, none⟩ (.int .i64 0)).setCell ⟨w.heap.size + 2, 2, none⟩ (.int .i64 0)).setCell ⟨w.heap.size + 2, 3, none⟩ (.slice none 0 0)).setCell ⟨w.heap.size + 2, 4, none⟩ (.slice none 0 0)).cell? ⟨w.heap.size + 2, 1, none⟩ = some (.int .i64 0) := (cell_keep (cell_keep (cell_keep (World.cell?_setCell_same _ _ _ (cell_keep HX.out.1.r1 (by decide))) (by decide)) (by decide)) (by decide))
                have q2 : (((((wc.setCell ⟨w.heap.size + 2, 0, none⟩ (.slice none 0 0)).setCell ⟨w.heap.size + 2, 1, none⟩ (.int .i64 0)).setCell ⟨w.heap.size + 2, 2, none⟩ (.int .i64 0)).setCell ⟨w.heap.size + 2, 3, none⟩ (.slice none 0 0)).setCell ⟨w.heap.size + 2, 4, none⟩ (.slice none 0 0)).cell? ⟨w.heap.size + 2, 2, none⟩ = some (.int .i64 0) := (cell_keep (cell_keep (World.cell?_setCell_same _ _ _ (cell_keep (cell_keep HX.out.1.r2 (by decide)) (by decide))) (by decide)) (by decide))
                have q3 : (((((wc.setCell ⟨w.heap.size + 2, 0, none⟩ (.slice none 0 0)).setCell ⟨w.heap.size + 2, 1, none⟩ (.int .i64 0)).setCell ⟨w.heap.size + 2, 2, none⟩ (.int .i64 0)).setCell ⟨w.heap.size + 2, 3, none⟩ (.slice none 0 0)).setCell ⟨w.heap.size + 2, 4, none⟩ (.slice none 0 0)).cell? ⟨w.heap.size + 2, 3, none⟩ = some (.slice none 0 0) := (cell_keep (World.cell?_setCell_same _ _ _ (cell_keep (cell_keep (cell_keep HX.out.1.r3 (by decide)) (by decide)) (by decide))) (by decide))
                have q4 : (((((wc.setCell ⟨w.heap.size + 2, 0, none⟩ (.slice none 0 0)).setCell ⟨w.heap.size + 2, 1, none⟩ (.int .i64 0)).setCell ⟨w.heap.size + 2, 2, none⟩ (.int .i64 0)).setCell ⟨w.heap.size + 2, 3, none⟩ (.slice none 0 0)).setCell ⟨w.heap.size + 2, 4, none⟩ (.slice none 0 0)).cell? ⟨w.heap.size + 2, 4, none⟩ = some (.slice none 0 0) := (World.cell?_setCell_same _ _ _ (cell_keep (cell_keep (cell_keep (cell_keep HX.out.1.r4 (by decide)) (by decide)) (by decide)) (by decide)))
                (try simp only [Exit.inBlock, Exit.then])
                exact bodyPost_ret (results_cell2 rfl rfl (load_st q0 q1 q2 q3 q4)) rfl ⟨(((((HX.out.1.bel.setCell (Nat.le_add_right _ _) _).setCell (Nat.le_add_right _ _) _).setCell (Nat.le_add_right _ _) _).setCell (Nat.le_add_right _ _) _).setCell (Nat.le_add_right _ _) _), _, by rw [HAP.out]; rfl, by rw [HAP.out]; exact ownSt00 _ _⟩
              | false =>
                have hnb : ¬ OrdBad s e := by
                  rintro (h9 | h9)
                  · exact absurd (HBAD.out.2 h9) (by simp)
                  · rw [decide_eq_true h9.1, decide_eq_true h9.2] at hlb
                    exact absurd hlb (by simp)
                have HNB := Lib.hid hnb
                clear hnb hlb
                have hbl : FL.length ≤ 200000 := by
                  have h1 := tabF_len HTT.out.1 HG.out.nums
                  have := HG.out.few
                  have := HN.out.1
                  omega
                have hkl : NL.length ≤ 200000 := by
                  have h1 := notesF_len s.ns e.ns
                  have := HG.out.nfew
                  have := HN.out.2.2.2
                  rw [HTT.out.2.2.1] at h1
                  omega
                have hkt : ∀ p ∈ NL, p.2.size ≤ 20000 := by
                  intro p hp
                  rw [← HTT.out.2.2.1] at hp
                  rcases List.mem_append.1 (baseN_mem (notesF_mem hp).1) with h3 | h3
                  · exact (note_of (HG.out.note p h3).1).2
                  · exact (note_of (HRO.out.2.2.2 p h3)).2
                have HBL := Lib.hid (And.intro hbl (And.intro hkl (textsN_mul hkt)))
                have het := Lib.hid (textsN_mul (fun p hp => (note_of (HRO.out.2.2.2 p hp)).2))
                have hop : OwnP wc (w.heap.size + 3) ob (.slice fa tn fc) (.slice ca ln cc) (.slice da kn dc) FL s.fl NL := by
                  have h1 := HZ3.out
                  have h2 := HB4.out.size
                  have h3 := H5.out.2.2.1.size
                  refine ⟨row_mono HFA.out (by omega), row_mono HX.out.2.1 (by omega), row_mono HX.out.2.2.1 (by omega), fun q hq => ?_, HOY.out.2⟩
                  have := (H5.out.2.1.lt q hq).2
                  have := HX.out.2.2.2.2.2.1
                  omega
                have hob3 : w.heap.size + 3 ≤ ob := by
                  have h1 := HZ3.out
                  have h2 := HB4.out.size
                  have h3 := H5.out.2.2.1.size
                  have := HX.out.2.2.2.2.2.1
                  omega
                have HOP := Lib.hid (And.intro hop hob3)
                have HOB : Hid (ObS wc ob (.slice fa tn fc) (.int .i64 nx) (.int .i64 s.log) (.slice ca ln cc) (.slice da kn dc)) := ⟨o0, o1, o2, o3, o4, HX.out.2.2.2.2.1⟩
                clear hbl hkl hkt hop hob3
                by_cases hAp : ApartF FL
                · have hmt : Calls Tryz.prog 42 #[.slice fa tn fc] wc fun r w' => r = .returned (.bool false) ∧ Below wc.heap.size wc w' := by
                    have h1 := mmeet_any HFA.out.rda (by have := HBL.out.1; omega)
                    exact h1.mono (by rintro r w' ⟨h9 | h9, hb⟩; exact ⟨h9.2, hb⟩; exact absurd hAp h9.1)
                  have HMT := Lib.hid hmt
                  have HAPF := Lib.hid hAp
                  clear hmt hAp
                  go_upto_region 12 with (go_at_call 42; refine HMT.out.mono ?_; rintro r wd ⟨rfl, hbd⟩; have HX2 := Lib.hid (And.intro (HX.out.1.below hbd) (And.intro (HOP.out.1.below hbd) (And.intro (HOB.out.below hbd) hbd))); clear hbd)
                  clear o0 o1 o2 o3 o4 a0 a1 a2 a3 a4 b0 b1 b2 b3 b4
                  have b0 := HX2.out.1.b0
                  have b1 := HX2.out.1.b1
                  have b2 := HX2.out.1.b2
                  have b3 := HX2.out.1.b3
                  have b4 := HX2.out.1.b4
                  have o4 := HX2.out.2.2.1.z4
                  obtain ⟨lb, hlb⟩ : ∃ b : Bool, (b = true ↔ LongBad e FL NL) := by
                    by_cases h9 : LongBad e FL NL
                    · exact ⟨true, fun _ => h9, fun _ => rfl⟩
                    · exact ⟨false, (fun h => by cases h), fun h => absurd h h9⟩
                  have HLB := Lib.hid hlb
                  clear hlb
                  go_cut [71] (fun c wx => c = .bool lb ∧ Below wd.heap.size wd wx)
                  case first =>
                    by_cases q1 : 50 < xn
                    · have z1 : (50 : Int) < (xn : Int) := by omega
                      have hb : lb = true := HLB.out.2 (.inl (by rw [HQ.out.2.2.2.1]; exact q1))
                      subst hb
                      go_wp2_with fail
                      go_meet
                      case rel => exact ⟨rfl, Below.refl _ _⟩
                    · have z1 : ¬ (50 : Int) < (xn : Int) := by omega
                      have hl1 : Calls Tryz.prog 43 #[.slice oa on oc] wd fun r w' => r = .returned (.bool (decide (50000 < textsN e.ns))) ∧ Below wd.heap.size wd w' := long_any (HNT.out.below HX2.out.1.bel) (by have := HN.out.2.2.2; omega) (by have := HN.out.2.2.2; have := het.out; omega)
                      by_cases q2 : 50000 < textsN e.ns
                      · rw [decide_eq_true q2] at hl1
                        have HL1 := Lib.hid hl1
                        have hb : lb = true := HLB.out.2 (.inr (.inl q2))
                        subst hb
                        clear hl1 q2
                        go_wp2_with (go_at_call 43; refine HL1.out.mono ?_; rintro r we ⟨rfl, hbe⟩; have HE1 := Lib.hid hbe; have o4 := (HX2.out.2.2.1.below hbe).z4; clear hbe)
                        go_meet
                        case rel => exact ⟨rfl, HE1.out⟩
                      · rw [decide_eq_false q2] at hl1
                        have HL1 := Lib.hid hl1
                        have Q2 := Lib.hid q2
                        clear hl1 q2
                        by_cases q3 : 500 < tn
                        · have z3 : (500 : Int) < (tn : Int) := by omega
                          have hb : lb = true := HLB.out.2 (.inr (.inr (.inl (by rw [HTT.out.2.1]; exact q3))))
                          subst hb
                          go_wp2_with (go_at_call 43; refine HL1.out.mono ?_; rintro r we ⟨rfl, hbe⟩; have HE1 := Lib.hid hbe; have o4 := (HX2.out.2.2.1.below hbe).z4; clear hbe)
                          go_meet
                          case rel => exact ⟨rfl, HE1.out⟩
                        · have z3 : ¬ (500 : Int) < (tn : Int) := by omega
                          by_cases q4 : 50 < kn
                          · have z4 : (50 : Int) < (kn : Int) := by omega
                            have hb : lb = true := HLB.out.2 (.inr (.inr (.inr (.inl (by rw [HTT.out.2.2.2]; exact q4)))))
                            subst hb
                            go_wp2_with (go_at_call 43; refine HL1.out.mono ?_; rintro r we ⟨rfl, hbe⟩; have HE1 := Lib.hid hbe; have o4 := (HX2.out.2.2.1.below hbe).z4; clear hbe)
                            go_meet
                            case rel => exact ⟨rfl, HE1.out⟩
                          · have z4 : ¬ (50 : Int) < (kn : Int) := by omega
                            have hl2 : ∀ w', Below wd.heap.size wd w' → Calls Tryz.prog 43 #[.slice da kn dc] w' fun r w'' => r = .returned (.bool lb) ∧ Below w'.heap.size w' w'' := by
                              intro w' hb
                              have h1 := long_any (HX2.out.2.1.below hb).2.2.1.rda (by have := HBL.out.2.1; omega) (by have := HBL.out.2.1; have := HBL.out.2.2; omega)
                              by_cases q5 : 50000 < textsN NL
                              · rw [decide_eq_true q5] at h1
                                rwa [show lb = true from HLB.out.2 (.inr (.inr (.inr (.inr q5))))]
                              · rw [decide_eq_false q5] at h1
                                have : lb = false := Bool.eq_false_iff.2 (fun h9 => by
                                  rcases HLB.out.1 h9 with h8 | h8 | h8 | h8 | h8
                                  · rw [HQ.out.2.2.2.1] at h8; exact q1 h8
                                  · exact Q2.out h8
                                  · rw [HTT.out.2.1] at h8; exact q3 h8
                                  · rw [HTT.out.2.2.2] at h8; exact q4 h8
                                  · exact q5 h8)
                                rwa [this]
                            have HL2b := Lib.hid hl2
                            clear hl2
                            go_wp2_with (first
                              | (go_at_call 43; refine (HL2b.out _ HE1.out).mono ?_; rintro r wf ⟨rfl, hbf⟩; have HE2 := Lib.hid hbf; clear hbf)
                              | (go_at_call 43; refine HL1.out.mono ?_; rintro r we ⟨rfl, hbe⟩; have HE1 := Lib.hid hbe; have o4 := (HX2.out.2.2.1.below hbe).z4; clear hbe))
                            go_meet
                            case rel => exact ⟨by rw [decide_eq_false (p := (500 : Int) < (tn : Int)) (by omega), decide_eq_false (p := (50 : Int) < (kn : Int)) (by omega)]; rfl, HE1.out.trans (HE2.out.mono HE1.out.size)⟩
                  case rest =>
                    obtain ⟨rfl, hbe⟩ := hcut
                    have HX3 := Lib.hid (And.intro (HX2.out.1.below hbe) (And.intro (HX2.out.2.1.below hbe) (HX2.out.2.2.1.below hbe)))
                    have HB5 := Lib.hid (HB3.out.trans ((HX2.out.2.2.2.trans (hbe.mono HX2.out.2.2.2.size)).mono HB3.out.size))
                    clear hbe o4 b0 b1 b2 b3 b4
                    cases lb with
                    | true =>
                      have hap : applyF s e = (2, s00) := by
                        unfold applyF
                        rw [if_neg (by rw [hE]; simp), HTT.out.1, if_neg (by simp), if_neg HNB.out, if_neg (fun h9 => h9 HAPF.out), HTT.out.2.2.1]
                        exact if_pos (HLB.out.1 rfl)
                      have HAP := Lib.hid hap
                      clear hap
                      have r0 := HX3.out.1.r0
                      have r1 := HX3.out.1.r1
                      have r2 := HX3.out.1.r2
                      have r3 := HX3.out.1.r3
                      have r4 := HX3.out.1.r4
                      have y0 := HX3.out.1.rf 0
                      have y1 := HX3.out.1.rf 1
                      have y2 := HX3.out.1.rf 2
                      have y3 := HX3.out.1.rf 3
                      have y4 := HX3.out.1.rf 4
                      go_wp2_with fail
                      have q0 : (((((wc.setCell ⟨w.heap.size + 2, 0, none⟩ (.slice none 0 0)).setCell ⟨w.heap.size + 2, 1, none⟩ (.int .i64 0)).setCell ⟨w.heap.size + 2, 2, none⟩ (.int .i64 0)).setCell ⟨w.heap.size + 2, 3, none⟩ (.slice none 0 0)).setCell ⟨w.heap.size + 2, 4, none⟩ (.slice none 0 0)).cell? ⟨w.heap.size + 2, 0, none⟩ = some (.slice none 0 0) := (cell_keep (cell_keep (cell_keep (cell_keep (World.cell?_setCell_same _ _ _ HX3.out.1.r0) (by decide)) (by decide)) (by decide)) (by decide))
                      have q1 : (((((wc.setCell ⟨w.heap.size + 2, 0, none⟩ (.slice none 0 0)).setCell ⟨w.heap.size + 2, 1, none⟩ (.int .i64 0)).setCell ⟨w.heap.size + 2, 2, none⟩ (.int .i64 0)).setCell ⟨w.heap.size + 2, 3, none⟩ (.slice none 0 0)).setCell ⟨w.heap.size + 2, 4, none⟩ (.slice none 0 0)).cell? ⟨w.heap.size + 2, 1, none⟩ = some (.int .i64 0) := (cell_keep (cell_keep (cell_keep (World.cell?_setCell_same _ _ _ (cell_keep HX3.out.1.r1 (by decide))) (by decide)) (by decide)) (by decide))
                      have q2 : (((((wc.setCell ⟨w.heap.size + 2, 0, none⟩ (.slice none 0 0)).setCell ⟨w.heap.size + 2, 1, none⟩ (.int .i64 0)).setCell ⟨w.heap.size + 2, 2, none⟩ (.int .i64 0)).setCell ⟨w.heap.size + 2, 3, none⟩ (.slice none 0 0)).setCell ⟨w.heap.size + 2, 4, none⟩ (.slice none 0 0)).cell? ⟨w.heap.size + 2, 2, none⟩ = some (.int .i64 0) := (cell_keep (cell_keep (World.cell?_setCell_same _ _ _ (cell_keep (cell_keep HX3.out.1.r2 (by decide)) (by decide))) (by decide)) (by decide))
                      have q3 : (((((wc.setCell ⟨w.heap.size + 2, 0, none⟩ (.slice none 0 0)).setCell ⟨w.heap.size + 2, 1, none⟩ (.int .i64 0)).setCell ⟨w.heap.size + 2, 2, none⟩ (.int .i64 0)).setCell ⟨w.heap.size + 2, 3, none⟩ (.slice none 0 0)).setCell ⟨w.heap.size + 2, 4, none⟩ (.slice none 0 0)).cell? ⟨w.heap.size + 2, 3, none⟩ = some (.slice none 0 0) := (cell_keep (World.cell?_setCell_same _ _ _ (cell_keep (cell_keep (cell_keep HX3.out.1.r3 (by decide)) (by decide)) (by decide))) (by decide))
                      have q4 : (((((wc.setCell ⟨w.heap.size + 2, 0, none⟩ (.slice none 0 0)).setCell ⟨w.heap.size + 2, 1, none⟩ (.int .i64 0)).setCell ⟨w.heap.size + 2, 2, none⟩ (.int .i64 0)).setCell ⟨w.heap.size + 2, 3, none⟩ (.slice none 0 0)).setCell ⟨w.heap.size + 2, 4, none⟩ (.slice none 0 0)).cell? ⟨w.heap.size + 2, 4, none⟩ = some (.slice none 0 0) := (World.cell?_setCell_same _ _ _ (cell_keep (cell_keep (cell_keep (cell_keep HX3.out.1.r4 (by decide)) (by decide)) (by decide)) (by decide)))
                      (try simp only [Exit.inBlock, Exit.then])
                      exact bodyPost_ret (results_cell2 rfl rfl (load_st q0 q1 q2 q3 q4)) rfl ⟨(((((HX3.out.1.bel.setCell (Nat.le_add_right _ _) _).setCell (Nat.le_add_right _ _) _).setCell (Nat.le_add_right _ _) _).setCell (Nat.le_add_right _ _) _).setCell (Nat.le_add_right _ _) _), _, by rw [HAP.out]; rfl, by rw [HAP.out]; exact ownSt00 _ _⟩
                    | false =>
                      have hnl : ¬ LongBad e FL NL := fun h9 => absurd (HLB.out.2 h9) (by simp)
                      have hap : applyF s e = (0, ⟨FL, nx, if 0 < e.log then e.log else s.log, if e.fl ≠ [] then e.fl else s.fl, NL⟩) := by
                        unfold applyF
                        rw [if_neg (by rw [hE]; simp), HTT.out.1, if_neg (by simp), if_neg HNB.out, if_neg (fun h9 => h9 HAPF.out), HTT.out.2.2.1, if_neg hnl]
                      have HAP0 := Lib.hid hap
                      clear hap hnl
                      have b3 := HX3.out.1.b3
                      by_cases m0 : mn = 0
                      · have hml : e.fl = [] := List.eq_nil_of_length_eq_zero (by rw [HQ.out.2.2.2.2.2.1]; exact m0)
                        have zm : ¬ (0 : Int) < (mn : Int) := by omega
                        have HML := Lib.hid hml
                        clear hml m0
                        go_upto_region 16 with fail
                        clear b3
                        have HNE := Lib.hid HOY.out.1
                        have b2 := HX3.out.1.b2
                        by_cases k1 : 0 < e.log
                        · have o2 := HX3.out.2.2.z2
                          have of2 := HX3.out.2.2.zf 2
                          go_upto_region 18 with fail
                          obtain ⟨wi, hwi⟩ : ∃ wi, wc.setCell ⟨ob, 2, none⟩ (.int .i64 e.log) = wi := ⟨_, rfl⟩
                          rw [hwi]
                          have hti : Tn (fun q => q = ob) wc wi := by rw [← hwi]; exact tn_setS
                          have HI := Lib.hid (And.intro (HX3.out.1.tn hti HOP.out.2) (And.intro (show OwnP wi (w.heap.size + 3) ob (.slice fa tn fc) (.slice ca ln cc) (.slice da kn dc) FL s.fl NL from ⟨hti.row HX3.out.2.1.1 (fun q hq => HX3.out.2.1.2.2.2.1 q hq), hti.row HX3.out.2.1.2.1 (fun q hq => HNE.out q hq), hti.row HX3.out.2.1.2.2.1 (fun q hq => HX3.out.2.1.2.2.2.2 q hq), HX3.out.2.1.2.2.2⟩) (show ObS wi ob (.slice fa tn fc) (.int .i64 nx) (.int .i64 e.log) (.slice ca ln cc) (.slice da kn dc) from by rw [← hwi]; exact HX3.out.2.2.set2)))
                          have K1 := Lib.hid k1
                          clear hti hwi o2 of2 b2 k1
                          have hap : applyF s e = (0, ⟨FL, nx, e.log, s.fl, NL⟩) := by
                            rw [HAP0.out, if_pos K1.out, if_neg (fun h9 => h9 HML.out)]
                          have HAP := Lib.hid hap
                          clear hap
                          have r0 := HI.out.1.r0
                          have r1 := HI.out.1.r1
                          have r2 := HI.out.1.r2
                          have r3 := HI.out.1.r3
                          have r4 := HI.out.1.r4
                          have y0 := HI.out.1.rf 0
                          have y1 := HI.out.1.rf 1
                          have y2 := HI.out.1.rf 2
                          have y3 := HI.out.1.rf 3
                          have y4 := HI.out.1.rf 4
                          have o0 := HI.out.2.2.z0
                          have o1 := HI.out.2.2.z1
                          have o2 := HI.out.2.2.z2
                          have o3 := HI.out.2.2.z3
                          have o4 := HI.out.2.2.z4
                          have hnob : ¬ ob = w.heap.size + 2 := by have := HOP.out.2; omega
                          go_wp2_with fail
                          have q0 : (((((wi.setCell ⟨w.heap.size + 2, 0, none⟩ (.slice fa tn fc)).setCell ⟨w.heap.size + 2, 1, none⟩ (.int .i64 nx)).setCell ⟨w.heap.size + 2, 2, none⟩ (.int .i64 e.log)).setCell ⟨w.heap.size + 2, 3, none⟩ (.slice ca ln cc)).setCell ⟨w.heap.size + 2, 4, none⟩ (.slice da kn dc)).cell? ⟨w.heap.size + 2, 0, none⟩ = some (.slice fa tn fc) := (cell_keep (cell_keep (cell_keep (cell_keep (World.cell?_setCell_same _ _ _ HI.out.1.r0) (by decide)) (by decide)) (by decide)) (by decide))
                          have q1 : (((((wi.setCell ⟨w.heap.size + 2, 0, none⟩ (.slice fa tn fc)).setCell ⟨w.heap.size + 2, 1, none⟩ (.int .i64 nx)).setCell ⟨w.heap.size + 2, 2, none⟩ (.int .i64 e.log)).setCell ⟨w.heap.size + 2, 3, none⟩ (.slice ca ln cc)).setCell ⟨w.heap.size + 2, 4, none⟩ (.slice da kn dc)).cell? ⟨w.heap.size + 2, 1, none⟩ = some (.int .i64 nx) := (cell_keep (cell_keep (cell_keep (World.cell?_setCell_same _ _ _ (cell_keep HI.out.1.r1 (by decide))) (by decide)) (by decide)) (by decide))
                          have q2 : (((((wi.setCell ⟨w.heap.size + 2, 0, none⟩ (.slice fa tn fc)).setCell ⟨w.heap.size + 2, 1, none⟩ (.int .i64 nx)).setCell ⟨w.heap.size + 2, 2, none⟩ (.int .i64 e.log)).setCell ⟨w.heap.size + 2, 3, none⟩ (.slice ca ln cc)).setCell ⟨w.heap.size + 2, 4, none⟩ (.slice da kn dc)).cell? ⟨w.heap.size + 2, 2, none⟩ = some (.int .i64 e.log) := (cell_keep (cell_keep (World.cell?_setCell_same _ _ _ (cell_keep (cell_keep HI.out.1.r2 (by decide)) (by decide))) (by decide)) (by decide))
                          have q3 : (((((wi.setCell ⟨w.heap.size + 2, 0, none⟩ (.slice fa tn fc)).setCell ⟨w.heap.size + 2, 1, none⟩ (.int .i64 nx)).setCell ⟨w.heap.size + 2, 2, none⟩ (.int .i64 e.log)).setCell ⟨w.heap.size + 2, 3, none⟩ (.slice ca ln cc)).setCell ⟨w.heap.size + 2, 4, none⟩ (.slice da kn dc)).cell? ⟨w.heap.size + 2, 3, none⟩ = some (.slice ca ln cc) := (cell_keep (World.cell?_setCell_same _ _ _ (cell_keep (cell_keep (cell_keep HI.out.1.r3 (by decide)) (by decide)) (by decide))) (by decide))
                          have q4 : (((((wi.setCell ⟨w.heap.size + 2, 0, none⟩ (.slice fa tn fc)).setCell ⟨w.heap.size + 2, 1, none⟩ (.int .i64 nx)).setCell ⟨w.heap.size + 2, 2, none⟩ (.int .i64 e.log)).setCell ⟨w.heap.size + 2, 3, none⟩ (.slice ca ln cc)).setCell ⟨w.heap.size + 2, 4, none⟩ (.slice da kn dc)).cell? ⟨w.heap.size + 2, 4, none⟩ = some (.slice da kn dc) := (World.cell?_setCell_same _ _ _ (cell_keep (cell_keep (cell_keep (cell_keep HI.out.1.r4 (by decide)) (by decide)) (by decide)) (by decide)))
                          have htn : Tn (fun q => q = w.heap.size + 2) wi (((((wi.setCell ⟨w.heap.size + 2, 0, none⟩ (.slice fa tn fc)).setCell ⟨w.heap.size + 2, 1, none⟩ (.int .i64 nx)).setCell ⟨w.heap.size + 2, 2, none⟩ (.int .i64 e.log)).setCell ⟨w.heap.size + 2, 3, none⟩ (.slice ca ln cc)).setCell ⟨w.heap.size + 2, 4, none⟩ (.slice da kn dc)) := (((tn_setS.trans tn_setS).trans tn_setS).trans tn_setS).trans tn_setS
                          have hown := HI.out.2.1.tn htn (by omega)
                          (try simp only [Exit.inBlock, Exit.then])
                          exact bodyPost_ret (results_cell2 rfl rfl (load_st q0 q1 q2 q3 q4)) rfl ⟨(((((HI.out.1.bel.setCell (Nat.le_add_right _ _) _).setCell (Nat.le_add_right _ _) _).setCell (Nat.le_add_right _ _) _).setCell (Nat.le_add_right _ _) _).setCell (Nat.le_add_right _ _) _), _, by rw [HAP.out]; rfl, by rw [HAP.out]; exact ⟨_, _, _, rfl, row_mono hown.1 (by omega), row_mono hown.2.1 (by omega), row_mono hown.2.2.1 (by omega)⟩⟩
                        · have z1 : ¬ 0 < e.log := k1
                          go_upto_region 18 with fail
                          have K1 := Lib.hid z1
                          clear b2 z1
                          have hap : applyF s e = (0, ⟨FL, nx, s.log, s.fl, NL⟩) := by
                            rw [HAP0.out, if_neg K1.out, if_neg (fun h9 => h9 HML.out)]
                          have HAP := Lib.hid hap
                          clear hap
                          have r0 := HX3.out.1.r0
                          have r1 := HX3.out.1.r1
                          have r2 := HX3.out.1.r2
                          have r3 := HX3.out.1.r3
                          have r4 := HX3.out.1.r4
                          have y0 := HX3.out.1.rf 0
                          have y1 := HX3.out.1.rf 1
                          have y2 := HX3.out.1.rf 2
                          have y3 := HX3.out.1.rf 3
                          have y4 := HX3.out.1.rf 4
                          have o0 := HX3.out.2.2.z0
                          have o1 := HX3.out.2.2.z1
                          have o2 := HX3.out.2.2.z2
                          have o3 := HX3.out.2.2.z3
                          have o4 := HX3.out.2.2.z4
                          have hnob : ¬ ob = w.heap.size + 2 := by have := HOP.out.2; omega
                          go_wp2_with fail
                          have q0 : (((((wc.setCell ⟨w.heap.size + 2, 0, none⟩ (.slice fa tn fc)).setCell ⟨w.heap.size + 2, 1, none⟩ (.int .i64 nx)).setCell ⟨w.heap.size + 2, 2, none⟩ (.int .i64 s.log)).setCell ⟨w.heap.size + 2, 3, none⟩ (.slice ca ln cc)).setCell ⟨w.heap.size + 2, 4, none⟩ (.slice da kn dc)).cell? ⟨w.heap.size + 2, 0, none⟩ = some (.slice fa tn fc) := (cell_keep (cell_keep (cell_keep (cell_keep (World.cell?_setCell_same _ _ _ HX3.out.1.r0) (by decide)) (by decide)) (by decide)) (by decide))
                          have q1 : (((((wc.setCell ⟨w.heap.size + 2, 0, none⟩ (.slice fa tn fc)).setCell ⟨w.heap.size + 2, 1, none⟩ (.int .i64 nx)).setCell ⟨w.heap.size + 2, 2, none⟩ (.int .i64 s.log)).setCell ⟨w.heap.size + 2, 3, none⟩ (.slice ca ln cc)).setCell ⟨w.heap.size + 2, 4, none⟩ (.slice da kn dc)).cell? ⟨w.heap.size + 2, 1, none⟩ = some (.int .i64 nx) := (cell_keep (cell_keep (cell_keep (World.cell?_setCell_same _ _ _ (cell_keep HX3.out.1.r1 (by decide))) (by decide)) (by decide)) (by decide))
                          have q2 : (((((wc.setCell ⟨w.heap.size + 2, 0, none⟩ (.slice fa tn fc)).setCell ⟨w.heap.size + 2, 1, none⟩ (.int .i64 nx)).setCell ⟨w.heap.size + 2, 2, none⟩ (.int .i64 s.log)).setCell ⟨w.heap.size + 2, 3, none⟩ (.slice ca ln cc)).setCell ⟨w.heap.size + 2, 4, none⟩ (.slice da kn dc)).cell? ⟨w.heap.size + 2, 2, none⟩ = some (.int .i64 s.log) := (cell_keep (cell_keep (World.cell?_setCell_same _ _ _ (cell_keep (cell_keep HX3.out.1.r2 (by decide)) (by decide))) (by decide)) (by decide))
                          have q3 : (((((wc.setCell ⟨w.heap.size + 2, 0, none⟩ (.slice fa tn fc)).setCell ⟨w.heap.size + 2, 1, none⟩ (.int .i64 nx)).setCell ⟨w.heap.size + 2, 2, none⟩ (.int .i64 s.log)).setCell ⟨w.heap.size + 2, 3, none⟩ (.slice ca ln cc)).setCell ⟨w.heap.size + 2, 4, none⟩ (.slice da kn dc)).cell? ⟨w.heap.size + 2, 3, none⟩ = some (.slice ca ln cc) := (cell_keep (World.cell?_setCell_same _ _ _ (cell_keep (cell_keep (cell_keep HX3.out.1.r3 (by decide)) (by decide)) (by decide))) (by decide))
                          have q4 : (((((wc.setCell ⟨w.heap.size + 2, 0, none⟩ (.slice fa tn fc)).setCell ⟨w.heap.size + 2, 1, none⟩ (.int .i64 nx)).setCell ⟨w.heap.size + 2, 2, none⟩ (.int .i64 s.log)).setCell ⟨w.heap.size + 2, 3, none⟩ (.slice ca ln cc)).setCell ⟨w.heap.size + 2, 4, none⟩ (.slice da kn dc)).cell? ⟨w.heap.size + 2, 4, none⟩ = some (.slice da kn dc) := (World.cell?_setCell_same _ _ _ (cell_keep (cell_keep (cell_keep (cell_keep HX3.out.1.r4 (by decide)) (by decide)) (by decide)) (by decide)))
                          have htn : Tn (fun q => q = w.heap.size + 2) wc (((((wc.setCell ⟨w.heap.size + 2, 0, none⟩ (.slice fa tn fc)).setCell ⟨w.heap.size + 2, 1, none⟩ (.int .i64 nx)).setCell ⟨w.heap.size + 2, 2, none⟩ (.int .i64 s.log)).setCell ⟨w.heap.size + 2, 3, none⟩ (.slice ca ln cc)).setCell ⟨w.heap.size + 2, 4, none⟩ (.slice da kn dc)) := (((tn_setS.trans tn_setS).trans tn_setS).trans tn_setS).trans tn_setS
                          have hown := HX3.out.2.1.tn htn (by omega)
                          (try simp only [Exit.inBlock, Exit.then])
                          exact bodyPost_ret (results_cell2 rfl rfl (load_st q0 q1 q2 q3 q4)) rfl ⟨(((((HX3.out.1.bel.setCell (Nat.le_add_right _ _) _).setCell (Nat.le_add_right _ _) _).setCell (Nat.le_add_right _ _) _).setCell (Nat.le_add_right _ _) _).setCell (Nat.le_add_right _ _) _), _, by rw [HAP.out]; rfl, by rw [HAP.out]; exact ⟨_, _, _, rfl, row_mono hown.1 (by omega), row_mono hown.2.1 (by omega), row_mono hown.2.2.1 (by omega)⟩⟩
                      · have hml : e.fl ≠ [] := fun h9 => m0 (by rw [← HQ.out.2.2.2.2.2.1, h9]; rfl)
                        have zm : (0 : Int) < (mn : Int) := by omega
                        have HML := Lib.hid hml
                        clear hml m0
                        go_upto_region 16 with (go_at_call 40; refine (HCL.out.2.1 _ HB5.out).mono ?_; rintro r wg ⟨ga, gc, rfl, hog, hbg⟩; rw [HQ.out.2.2.2.2.2.1] at hog ⊢; have HG4 := Lib.hid (And.intro (HX3.out.1.below hbg) (And.intro (HX3.out.2.1.below hbg) (And.intro (HX3.out.2.2.below hbg) (And.intro hog hbg)))); have o3 := HG4.out.2.2.1.z3; have of3 := HG4.out.2.2.1.zf 3; clear hog hbg)
                        obtain ⟨wh, hwh⟩ : ∃ wh, wg.setCell ⟨ob, 3, none⟩ (.slice ga mn gc) = wh := ⟨_, rfl⟩
                        rw [hwh]
                        have hth : Tn (fun q => q = ob) wg wh := by rw [← hwh]; exact tn_setS
                        have hne : ∀ q, (Value.slice ga mn gc).ownBlock = some q → q ≠ ob := fun q hq e9 => by have := (HG4.out.2.2.2.1.lt q hq).1; have := HX3.out.2.2.lt; omega
                        have HNE := Lib.hid hne
                        have HGH := Lib.hid (And.intro (HG4.out.1.tn hth HOP.out.2) (And.intro (show OwnP wh (w.heap.size + 3) ob (.slice fa tn fc) (.slice ga mn gc) (.slice da kn dc) FL e.fl NL from ⟨hth.row HG4.out.2.1.1 (fun q hq => HG4.out.2.1.2.2.2.1 q hq), hth.row (row_mono HG4.out.2.2.2.1 (by have := HX3.out.1.sz; omega)) (fun q hq => HNE.out q hq), hth.row HG4.out.2.1.2.2.1 (fun q hq => HG4.out.2.1.2.2.2.2 q hq), HG4.out.2.1.2.2.2⟩) (show ObS wh ob (.slice fa tn fc) (.int .i64 nx) (.int .i64 s.log) (.slice ga mn gc) (.slice da kn dc) from by rw [← hwh]; exact HG4.out.2.2.1.set3)))
                        clear b3 hth hne hwh o3 of3
                        have b2 := HGH.out.1.b2
                        by_cases k1 : 0 < e.log
                        · have o2 := HGH.out.2.2.z2
                          have of2 := HGH.out.2.2.zf 2
                          go_upto_region 18 with fail
                          obtain ⟨wi, hwi⟩ : ∃ wi, wh.setCell ⟨ob, 2, none⟩ (.int .i64 e.log) = wi := ⟨_, rfl⟩
                          rw [hwi]
                          have hti : Tn (fun q => q = ob) wh wi := by rw [← hwi]; exact tn_setS
                          have HI := Lib.hid (And.intro (HGH.out.1.tn hti HOP.out.2) (And.intro (show OwnP wi (w.heap.size + 3) ob (.slice fa tn fc) (.slice ga mn gc) (.slice da kn dc) FL e.fl NL from ⟨hti.row HGH.out.2.1.1 (fun q hq => HGH.out.2.1.2.2.2.1 q hq), hti.row HGH.out.2.1.2.1 (fun q hq => HNE.out q hq), hti.row HGH.out.2.1.2.2.1 (fun q hq => HGH.out.2.1.2.2.2.2 q hq), HGH.out.2.1.2.2.2⟩) (show ObS wi ob (.slice fa tn fc) (.int .i64 nx) (.int .i64 e.log) (.slice ga mn gc) (.slice da kn dc) from by rw [← hwi]; exact HGH.out.2.2.set2)))
                          have K1 := Lib.hid k1
                          clear hti hwi o2 of2 b2 k1
                          have hap : applyF s e = (0, ⟨FL, nx, e.log, e.fl, NL⟩) := by
                            rw [HAP0.out, if_pos K1.out, if_pos HML.out]
                          have HAP := Lib.hid hap
                          clear hap
                          have r0 := HI.out.1.r0
                          have r1 := HI.out.1.r1
                          have r2 := HI.out.1.r2
                          have r3 := HI.out.1.r3
                          have r4 := HI.out.1.r4
                          have y0 := HI.out.1.rf 0
                          have y1 := HI.out.1.rf 1
                          have y2 := HI.out.1.rf 2
                          have y3 := HI.out.1.rf 3
                          have y4 := HI.out.1.rf 4
                          have o0 := HI.out.2.2.z0
                          have o1 := HI.out.2.2.z1
                          have o2 := HI.out.2.2.z2
                          have o3 := HI.out.2.2.z3
                          have o4 := HI.out.2.2.z4
                          have hnob : ¬ ob = w.heap.size + 2 := by have := HOP.out.2; omega
                          go_wp2_with fail
                          have q0 : (((((wi.setCell ⟨w.heap.size + 2, 0, none⟩ (.slice fa tn fc)).setCell ⟨w.heap.size + 2, 1, none⟩ (.int .i64 nx)).setCell ⟨w.heap.size + 2, 2, none⟩ (.int .i64 e.log)).setCell ⟨w.heap.size + 2, 3, none⟩ (.slice ga mn gc)).setCell ⟨w.heap.size + 2, 4, none⟩ (.slice da kn dc)).cell? ⟨w.heap.size + 2, 0, none⟩ = some (.slice fa tn fc) := (cell_keep (cell_keep (cell_keep (cell_keep (World.cell?_setCell_same _ _ _ HI.out.1.r0) (by decide)) (by decide)) (by decide)) (by decide))
                          have q1 : (((((wi.setCell ⟨w.heap.size + 2, 0, none⟩ (.slice fa tn fc)).setCell ⟨w.heap.size + 2, 1, none⟩ (.int .i64 nx)).setCell ⟨w.heap.size + 2, 2, none⟩ (.int .i64 e.log)).setCell ⟨w.heap.size + 2, 3, none⟩ (.slice ga mn gc)).setCell ⟨w.heap.size + 2, 4, none⟩ (.slice da kn dc)).cell? ⟨w.heap.size + 2, 1, none⟩ = some (.int .i64 nx) := (cell_keep (cell_keep (cell_keep (World.cell?_setCell_same _ _ _ (cell_keep HI.out.1.r1 (by decide))) (by decide)) (by decide)) (by decide))
                          have q2 : (((((wi.setCell ⟨w.heap.size + 2, 0, none⟩ (.slice fa tn fc)).setCell ⟨w.heap.size + 2, 1, none⟩ (.int .i64 nx)).setCell ⟨w.heap.size + 2, 2, none⟩ (.int .i64 e.log)).setCell ⟨w.heap.size + 2, 3, none⟩ (.slice ga mn gc)).setCell ⟨w.heap.size + 2, 4, none⟩ (.slice da kn dc)).cell? ⟨w.heap.size + 2, 2, none⟩ = some (.int .i64 e.log) := (cell_keep (cell_keep (World.cell?_setCell_same _ _ _ (cell_keep (cell_keep HI.out.1.r2 (by decide)) (by decide))) (by decide)) (by decide))
                          have q3 : (((((wi.setCell ⟨w.heap.size + 2, 0, none⟩ (.slice fa tn fc)).setCell ⟨w.heap.size + 2, 1, none⟩ (.int .i64 nx)).setCell ⟨w.heap.size + 2, 2, none⟩ (.int .i64 e.log)).setCell ⟨w.heap.size + 2, 3, none⟩ (.slice ga mn gc)).setCell ⟨w.heap.size + 2, 4, none⟩ (.slice da kn dc)).cell? ⟨w.heap.size + 2, 3, none⟩ = some (.slice ga mn gc) := (cell_keep (World.cell?_setCell_same _ _ _ (cell_keep (cell_keep (cell_keep HI.out.1.r3 (by decide)) (by decide)) (by decide))) (by decide))
                          have q4 : (((((wi.setCell ⟨w.heap.size + 2, 0, none⟩ (.slice fa tn fc)).setCell ⟨w.heap.size + 2, 1, none⟩ (.int .i64 nx)).setCell ⟨w.heap.size + 2, 2, none⟩ (.int .i64 e.log)).setCell ⟨w.heap.size + 2, 3, none⟩ (.slice ga mn gc)).setCell ⟨w.heap.size + 2, 4, none⟩ (.slice da kn dc)).cell? ⟨w.heap.size + 2, 4, none⟩ = some (.slice da kn dc) := (World.cell?_setCell_same _ _ _ (cell_keep (cell_keep (cell_keep (cell_keep HI.out.1.r4 (by decide)) (by decide)) (by decide)) (by decide)))
                          have htn : Tn (fun q => q = w.heap.size + 2) wi (((((wi.setCell ⟨w.heap.size + 2, 0, none⟩ (.slice fa tn fc)).setCell ⟨w.heap.size + 2, 1, none⟩ (.int .i64 nx)).setCell ⟨w.heap.size + 2, 2, none⟩ (.int .i64 e.log)).setCell ⟨w.heap.size + 2, 3, none⟩ (.slice ga mn gc)).setCell ⟨w.heap.size + 2, 4, none⟩ (.slice da kn dc)) := (((tn_setS.trans tn_setS).trans tn_setS).trans tn_setS).trans tn_setS
                          have hown := HI.out.2.1.tn htn (by omega)
                          (try simp only [Exit.inBlock, Exit.then])
                          exact bodyPost_ret (results_cell2 rfl rfl (load_st q0 q1 q2 q3 q4)) rfl ⟨(((((HI.out.1.bel.setCell (Nat.le_add_right _ _) _).setCell (Nat.le_add_right _ _) _).setCell (Nat.le_add_right _ _) _).setCell (Nat.le_add_right _ _) _).setCell (Nat.le_add_right _ _) _), _, by rw [HAP.out]; rfl, by rw [HAP.out]; exact ⟨_, _, _, rfl, row_mono hown.1 (by omega), row_mono hown.2.1 (by omega), row_mono hown.2.2.1 (by omega)⟩⟩
                        · have z1 : ¬ 0 < e.log := k1
                          go_upto_region 18 with fail
                          have K1 := Lib.hid z1
                          clear b2 z1
                          have hap : applyF s e = (0, ⟨FL, nx, s.log, e.fl, NL⟩) := by
                            rw [HAP0.out, if_neg K1.out, if_pos HML.out]
                          have HAP := Lib.hid hap
                          clear hap
                          have r0 := HGH.out.1.r0
                          have r1 := HGH.out.1.r1
                          have r2 := HGH.out.1.r2
                          have r3 := HGH.out.1.r3
                          have r4 := HGH.out.1.r4
                          have y0 := HGH.out.1.rf 0
                          have y1 := HGH.out.1.rf 1
                          have y2 := HGH.out.1.rf 2
                          have y3 := HGH.out.1.rf 3
                          have y4 := HGH.out.1.rf 4
                          have o0 := HGH.out.2.2.z0
                          have o1 := HGH.out.2.2.z1
                          have o2 := HGH.out.2.2.z2
                          have o3 := HGH.out.2.2.z3
                          have o4 := HGH.out.2.2.z4
                          have hnob : ¬ ob = w.heap.size + 2 := by have := HOP.out.2; omega
                          go_wp2_with fail
                          have q0 : (((((wh.setCell ⟨w.heap.size + 2, 0, none⟩ (.slice fa tn fc)).setCell ⟨w.heap.size + 2, 1, none⟩ (.int .i64 nx)).setCell ⟨w.heap.size + 2, 2, none⟩ (.int .i64 s.log)).setCell ⟨w.heap.size + 2, 3, none⟩ (.slice ga mn gc)).setCell ⟨w.heap.size + 2, 4, none⟩ (.slice da kn dc)).cell? ⟨w.heap.size + 2, 0, none⟩ = some (.slice fa tn fc) := (cell_keep (cell_keep (cell_keep (cell_keep (World.cell?_setCell_same _ _ _ HGH.out.1.r0) (by decide)) (by decide)) (by decide)) (by decide))
                          have q1 : (((((wh.setCell ⟨w.heap.size + 2, 0, none⟩ (.slice fa tn fc)).setCell ⟨w.heap.size + 2, 1, none⟩ (.int .i64 nx)).setCell ⟨w.heap.size + 2, 2, none⟩ (.int .i64 s.log)).setCell ⟨w.heap.size + 2, 3, none⟩ (.slice ga mn gc)).setCell ⟨w.heap.size + 2, 4, none⟩ (.slice da kn dc)).cell? ⟨w.heap.size + 2, 1, none⟩ = some (.int .i64 nx) := (cell_keep (cell_keep (cell_keep (World.cell?_setCell_same _ _ _ (cell_keep HGH.out.1.r1 (by decide))) (by decide)) (by decide)) (by decide))
                          have q2 : (((((wh.setCell ⟨w.heap.size + 2, 0, none⟩ (.slice fa tn fc)).setCell ⟨w.heap.size + 2, 1, none⟩ (.int .i64 nx)).setCell ⟨w.heap.size + 2, 2, none⟩ (.int .i64 s.log)).setCell ⟨w.heap.size + 2, 3, none⟩ (.slice ga mn gc)).setCell ⟨w.heap.size + 2, 4, none⟩ (.slice da kn dc)).cell? ⟨w.heap.size + 2, 2, none⟩ = some (.int .i64 s.log) := (cell_keep (cell_keep (World.cell?_setCell_same _ _ _ (cell_keep (cell_keep HGH.out.1.r2 (by decide)) (by decide))) (by decide)) (by decide))
                          have q3 : (((((wh.setCell ⟨w.heap.size + 2, 0, none⟩ (.slice fa tn fc)).setCell ⟨w.heap.size + 2, 1, none⟩ (.int .i64 nx)).setCell ⟨w.heap.size + 2, 2, none⟩ (.int .i64 s.log)).setCell ⟨w.heap.size + 2, 3, none⟩ (.slice ga mn gc)).setCell ⟨w.heap.size + 2, 4, none⟩ (.slice da kn dc)).cell? ⟨w.heap.size + 2, 3, none⟩ = some (.slice ga mn gc) := (cell_keep (World.cell?_setCell_same _ _ _ (cell_keep (cell_keep (cell_keep HGH.out.1.r3 (by decide)) (by decide)) (by decide))) (by decide))
                          have q4 : (((((wh.setCell ⟨w.heap.size + 2, 0, none⟩ (.slice fa tn fc)).setCell ⟨w.heap.size + 2, 1, none⟩ (.int .i64 nx)).setCell ⟨w.heap.size + 2, 2, none⟩ (.int .i64 s.log)).setCell ⟨w.heap.size + 2, 3, none⟩ (.slice ga mn gc)).setCell ⟨w.heap.size + 2, 4, none⟩ (.slice da kn dc)).cell? ⟨w.heap.size + 2, 4, none⟩ = some (.slice da kn dc) := (World.cell?_setCell_same _ _ _ (cell_keep (cell_keep (cell_keep (cell_keep HGH.out.1.r4 (by decide)) (by decide)) (by decide)) (by decide)))
                          have htn : Tn (fun q => q = w.heap.size + 2) wh (((((wh.setCell ⟨w.heap.size + 2, 0, none⟩ (.slice fa tn fc)).setCell ⟨w.heap.size + 2, 1, none⟩ (.int .i64 nx)).setCell ⟨w.heap.size + 2, 2, none⟩ (.int .i64 s.log)).setCell ⟨w.heap.size + 2, 3, none⟩ (.slice ga mn gc)).setCell ⟨w.heap.size + 2, 4, none⟩ (.slice da kn dc)) := (((tn_setS.trans tn_setS).trans tn_setS).trans tn_setS).trans tn_setS
                          have hown := HGH.out.2.1.tn htn (by omega)
                          (try simp only [Exit.inBlock, Exit.then])
                          exact bodyPost_ret (results_cell2 rfl rfl (load_st q0 q1 q2 q3 q4)) rfl ⟨(((((HGH.out.1.bel.setCell (Nat.le_add_right _ _) _).setCell (Nat.le_add_right _ _) _).setCell (Nat.le_add_right _ _) _).setCell (Nat.le_add_right _ _) _).setCell (Nat.le_add_right _ _) _), _, by rw [HAP.out]; rfl, by rw [HAP.out]; exact ⟨_, _, _, rfl, row_mono hown.1 (by omega), row_mono hown.2.1 (by omega), row_mono hown.2.2.1 (by omega)⟩⟩
                · have hmt : Calls Tryz.prog 42 #[.slice fa tn fc] wc fun r w' => r = .returned (.bool true) ∧ Below wc.heap.size wc w' := by
                    have h1 := mmeet_any HFA.out.rda (by have := HBL.out.1; omega)
                    exact h1.mono (by rintro r w' ⟨h9 | h9, hb⟩; exact absurd h9.1 hAp; exact ⟨h9.2, hb⟩)
                  have HMT := Lib.hid hmt
                  have hap : applyF s e = (32, s00) := by
                    unfold applyF
                    rw [if_neg (by rw [hE]; simp), HTT.out.1, if_neg (by simp), if_neg HNB.out]
                    exact if_pos hAp
                  have HAP := Lib.hid hap
                  clear hmt hap hAp
                  go_wp2_with (go_at_call 42; refine HMT.out.mono ?_; rintro r wd ⟨rfl, hbd⟩; have HX2 := Lib.hid (HX.out.1.below hbd); have r0 := HX2.out.r0; have r1 := HX2.out.r1; have r2 := HX2.out.r2; have r3 := HX2.out.r3; have r4 := HX2.out.r4; have y0 := HX2.out.rf 0; have y1 := HX2.out.rf 1; have y2 := HX2.out.rf 2; have y3 := HX2.out.rf 3; have y4 := HX2.out.rf 4; clear hbd)
                  have q0 : (((((wd.setCell ⟨w.heap.size + 2, 0, none⟩ (.slice none 0 0)).setCell ⟨w.heap.size + 2, 1, none⟩ (.int .i64 0)).setCell ⟨w.heap.size + 2, 2, none⟩ (.int .i64 0)).setCell ⟨w.heap.size + 2, 3, none⟩ (.slice none 0 0)).setCell ⟨w.heap.size + 2, 4, none⟩ (.slice none 0 0)).cell? ⟨w.heap.size + 2, 0, none⟩ = some (.slice none 0 0) := (cell_keep (cell_keep (cell_keep (cell_keep (World.cell?_setCell_same _ _ _ HX2.out.r0) (by decide)) (by decide)) (by decide)) (by decide))
                  have q1 : (((((wd.setCell ⟨w.heap.size + 2, 0, none⟩ (.slice none 0 0)).setCell ⟨w.heap.size + 2, 1, none⟩ (.int .i64 0)).setCell ⟨w.heap.size + 2, 2, none⟩ (.int .i64 0)).setCell ⟨w.heap.size + 2, 3, none⟩ (.slice none 0 0)).setCell ⟨w.heap.size + 2, 4, none⟩ (.slice none 0 0)).cell? ⟨w.heap.size + 2, 1, none⟩ = some (.int .i64 0) := (cell_keep (cell_keep (cell_keep (World.cell?_setCell_same _ _ _ (cell_keep HX2.out.r1 (by decide))) (by decide)) (by decide)) (by decide))
                  have q2 : (((((wd.setCell ⟨w.heap.size + 2, 0, none⟩ (.slice none 0 0)).setCell ⟨w.heap.size + 2, 1, none⟩ (.int .i64 0)).setCell ⟨w.heap.size + 2, 2, none⟩ (.int .i64 0)).setCell ⟨w.heap.size + 2, 3, none⟩ (.slice none 0 0)).setCell ⟨w.heap.size + 2, 4, none⟩ (.slice none 0 0)).cell? ⟨w.heap.size + 2, 2, none⟩ = some (.int .i64 0) := (cell_keep (cell_keep (World.cell?_setCell_same _ _ _ (cell_keep (cell_keep HX2.out.r2 (by decide)) (by decide))) (by decide)) (by decide))
                  have q3 : (((((wd.setCell ⟨w.heap.size + 2, 0, none⟩ (.slice none 0 0)).setCell ⟨w.heap.size + 2, 1, none⟩ (.int .i64 0)).setCell ⟨w.heap.size + 2, 2, none⟩ (.int .i64 0)).setCell ⟨w.heap.size + 2, 3, none⟩ (.slice none 0 0)).setCell ⟨w.heap.size + 2, 4, none⟩ (.slice none 0 0)).cell? ⟨w.heap.size + 2, 3, none⟩ = some (.slice none 0 0) := (cell_keep (World.cell?_setCell_same _ _ _ (cell_keep (cell_keep (cell_keep HX2.out.r3 (by decide)) (by decide)) (by decide))) (by decide))
                  have q4 : (((((wd.setCell ⟨w.heap.size + 2, 0, none⟩ (.slice none 0 0)).setCell ⟨w.heap.size + 2, 1, none⟩ (.int .i64 0)).setCell ⟨w.heap.size + 2, 2, none⟩ (.int .i64 0)).setCell ⟨w.heap.size + 2, 3, none⟩ (.slice none 0 0)).setCell ⟨w.heap.size + 2, 4, none⟩ (.slice none 0 0)).cell? ⟨w.heap.size + 2, 4, none⟩ = some (.slice none 0 0) := (World.cell?_setCell_same _ _ _ (cell_keep (cell_keep (cell_keep (cell_keep HX2.out.r4 (by decide)) (by decide)) (by decide)) (by decide)))
                  (try simp only [Exit.inBlock, Exit.then])
                  exact bodyPost_ret (results_cell2 rfl rfl (load_st q0 q1 q2 q3 q4)) rfl ⟨(((((HX2.out.bel.setCell (Nat.le_add_right _ _) _).setCell (Nat.le_add_right _ _) _).setCell (Nat.le_add_right _ _) _).setCell (Nat.le_add_right _ _) _).setCell (Nat.le_add_right _ _) _), _, by rw [HAP.out]; rfl, by rw [HAP.out]; exact ownSt00 _ _⟩
      · have hap : applyF s e = (er, s00) := by
          unfold applyF
          rw [if_neg (by rw [hE]; simp), HTT.out.1]
          exact if_pos her
        have HAP := Lib.hid hap
        have zer : (er != 0) = true := bne_iff_ne.2 her
        clear hap
        have r0 := HX.out.1.r0
        have r1 := HX.out.1.r1
        have r2 := HX.out.1.r2
        have r3 := HX.out.1.r3
        have r4 := HX.out.1.r4
        have y0 := HX.out.1.rf 0
        have y1 := HX.out.1.rf 1
        have y2 := HX.out.1.rf 2
        have y3 := HX.out.1.rf 3
        have y4 := HX.out.1.rf 4
        go_wp2_with fail
        have q0 : (((((wc.setCell ⟨w.heap.size + 2, 0, none⟩ (.slice none 0 0)).setCell ⟨w.heap.size + 2, 1, none⟩ (.int .i64 0)).setCell ⟨w.heap.size + 2, 2, none⟩ (.int .i64 0)).setCell ⟨w.heap.size + 2, 3, none⟩ (.slice none 0 0)).setCell ⟨w.heap.size + 2, 4, none⟩ (.slice none 0 0)).cell? ⟨w.heap.size + 2, 0, none⟩ = some (.slice none 0 0) := (cell_keep (cell_keep (cell_keep (cell_keep (World.cell?_setCell_same _ _ _ HX.out.1.r0) (by decide)) (by decide)) (by decide)) (by decide))
        have q1 : (((((wc.setCell ⟨w.heap.size + 2, 0, none⟩ (.slice none 0 0)).setCell ⟨w.heap.size + 2, 1, none⟩ (.int .i64 0)).setCell ⟨w.heap.size + 2, 2, none⟩ (.int .i64 0)).setCell ⟨w.heap.size + 2, 3, none⟩ (.slice none 0 0)).setCell ⟨w.heap.size + 2, 4, none⟩ (.slice none 0 0)).cell? ⟨w.heap.size + 2, 1, none⟩ = some (.int .i64 0) := (cell_keep (cell_keep (cell_keep (World.cell?_setCell_same _ _ _ (cell_keep HX.out.1.r1 (by decide))) (by decide)) (by decide)) (by decide))
        have q2 : (((((wc.setCell ⟨w.heap.size + 2, 0, none⟩ (.slice none 0 0)).setCell ⟨w.heap.size + 2, 1, none⟩ (.int .i64 0)).setCell ⟨w.heap.size + 2, 2, none⟩ (.int .i64 0)).setCell ⟨w.heap.size + 2, 3, none⟩ (.slice none 0 0)).setCell ⟨w.heap.size + 2, 4, none⟩ (.slice none 0 0)).cell? ⟨w.heap.size + 2, 2, none⟩ = some (.int .i64 0) := (cell_keep (cell_keep (World.cell?_setCell_same _ _ _ (cell_keep (cell_keep HX.out.1.r2 (by decide)) (by decide))) (by decide)) (by decide))
        have q3 : (((((wc.setCell ⟨w.heap.size + 2, 0, none⟩ (.slice none 0 0)).setCell ⟨w.heap.size + 2, 1, none⟩ (.int .i64 0)).setCell ⟨w.heap.size + 2, 2, none⟩ (.int .i64 0)).setCell ⟨w.heap.size + 2, 3, none⟩ (.slice none 0 0)).setCell ⟨w.heap.size + 2, 4, none⟩ (.slice none 0 0)).cell? ⟨w.heap.size + 2, 3, none⟩ = some (.slice none 0 0) := (cell_keep (World.cell?_setCell_same _ _ _ (cell_keep (cell_keep (cell_keep HX.out.1.r3 (by decide)) (by decide)) (by decide))) (by decide))
        have q4 : (((((wc.setCell ⟨w.heap.size + 2, 0, none⟩ (.slice none 0 0)).setCell ⟨w.heap.size + 2, 1, none⟩ (.int .i64 0)).setCell ⟨w.heap.size + 2, 2, none⟩ (.int .i64 0)).setCell ⟨w.heap.size + 2, 3, none⟩ (.slice none 0 0)).setCell ⟨w.heap.size + 2, 4, none⟩ (.slice none 0 0)).cell? ⟨w.heap.size + 2, 4, none⟩ = some (.slice none 0 0) := (World.cell?_setCell_same _ _ _ (cell_keep (cell_keep (cell_keep (cell_keep HX.out.1.r4 (by decide)) (by decide)) (by decide)) (by decide)))
        (try simp only [Exit.inBlock, Exit.then])
        exact bodyPost_ret (results_cell2 rfl rfl (load_st q0 q1 q2 q3 q4)) rfl ⟨(((((HX.out.1.bel.setCell (Nat.le_add_right _ _) _).setCell (Nat.le_add_right _ _) _).setCell (Nat.le_add_right _ _) _).setCell (Nat.le_add_right _ _) _).setCell (Nat.le_add_right _ _) _), _, by rw [HAP.out]; rfl, by rw [HAP.out]; exact ownSt00 _ _⟩
end Go.Proofs.YtjebpppjhkkebaaGreatDoor
