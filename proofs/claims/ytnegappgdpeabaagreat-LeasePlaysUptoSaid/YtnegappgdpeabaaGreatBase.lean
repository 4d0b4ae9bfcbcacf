/-
  Slices of bytes that a call owns: a word for them, one byte appended, the text of them. Small facts for walks.
-/
import Derived.Test.YtnegappgdpeabaaGreatRows
import Derived.WalkKit
import Derived.WalkSpells
import Derived.WalkLawsBesides
import Derived.Laws.IdiomStrings
import Derived.Laws.BytesArg
import Derived.Lib.Hide
import Derived.Deep.QuietTactic
import Derived.BigQuiet
import Derived.Deep.RegionLaw
set_option linter.unusedSimpArgs false
set_option linter.unusedVariables false
namespace Go.Proofs.YtnegappgdpeabaaGreat
open Go.RowKit

theorem add_none (g off j : Nat) : (⟨g, off, none⟩ : Addr).add j = ⟨g, off + j, none⟩ := by
  unfold Addr.add
  split
  · rename_i h
    have h0 : j = 0 := by simpa using h
    subst h0
    rfl
  · rfl

def bCells (l : List UInt8) : List Value := l.map fun c => .int .u8 (c.toNat : Int)
theorem bCells_len (l : List UInt8) : (bCells l).length = l.length := by simp [bCells]

/-- The slice value v owns the bytes l, in blocks from B on. -/
def OwnB (w : World) (B : Nat) (v : Value) (l : List UInt8) : Prop := w.ownsRow B 5 1 v l.length (bCells l)

theorem OwnB.nil (w : World) (B : Nat) : OwnB w B (.slice none 0 0) [] := World.ownsRow_nil _ _ _ _

theorem OwnB.alloc {w : World} {B : Nat} {v : Value} {l : List UInt8} (h : OwnB w B v l) (o : Obj) : OwnB (w.alloc o) B v l := World.ownsRow.alloc h o

theorem OwnB.drew {w : World} {B : Nat} {v : Value} {l : List UInt8} (h : OwnB w B v l) : OwnB w.drew B v l := World.ownsRow.drew h

theorem info_u8 : (Tryz.prog.info? 5).map (fun i => (i.zero, i.size, i.bytes)) = some (some (.int .u8 0), 1, 1) := by kernel_rfl

theorem OwnB.str {w : World} {B : Nat} {v : Value} {l : List UInt8} (h : OwnB w B v l) :
    (convert 133 9 v).run Tryz.prog w = .ok (.string ⟨l.toArray⟩) w := by
  obtain ⟨_, h2⟩ := h
  rcases h2 with ⟨rfl, h0⟩ | ⟨g, cap, cur, rfl, hg, hh, hn, hcap, hsz, htake⟩
  · have : l = [] := by simpa using h0
    subst this
    exact run_convert_bytes_nil w 133 5 Tryz.underlying133 Tryz.underlying5 0 0 9 Tryz.underlying9
  · refine run_convert_bytes_back w 133 9 5 ⟨g, 0, none⟩ cap l Tryz.underlying133 Tryz.underlying5 Tryz.underlying9 fun j hj => ?_
    have e : (bCells l)[j]? = some (.int .u8 (l[j].toNat : Int)) := by simp [bCells, hj]
    have hjn : j < l.length * 1 := by omega
    rw [← htake, List.getElem?_take, if_pos hjn] at e
    rw [add_none]
    simp only [World.cell?, hh, Nat.zero_add]
    simpa using e

/-- One law for append(v, ..): the bytes news stand behind the bytes l. -/
theorem wpList_append_b {w : World} {ops : Array Oper} {rest : List Oper} {o : Oper} {a : Act} {Q : Exit → Act → World → Prop} (hgd : o.guard = none)
    (s x : Operand) (ho : o.op = .call { callee := .builtin .append, args := #[s, x], argTypes := #[133, 133] }) (B : Nat) (v : Value) (l : List UInt8)
    (hs : a.eval s = v) (hown : OwnB w B v l) (ad : Addr) (m c : Nat) (news : List UInt8) (hx : a.eval x = .slice (some ad) m c) (hm : news.length = m)
    (hnews : ∀ j u, (bCells news)[j]? = some u → w.cell? (ad.add j) = some u) (hlen : l.length + m ≤ 140737488355328) (hbase : B ≤ w.heap.size)
    (h : ∀ v' w', OwnB w' B v' (l ++ news) → w.grownBy w' v.ownBlock → wpList Tryz.prog ops Q rest (a.put o.dst v') w') :
    wpList Tryz.prog ops Q (o :: rest) a w := by
  obtain ⟨i, hi, hz, hsz, hby⟩ := info_parts info_u8
  refine wpList_append_own w hgd s x 133 ho B 5 i (.int .u8 0) 1 1 Tryz.underlying133 hi hz hsz hby rfl (by decide) v l.length (bCells l) hs hown ad m c (bCells news) hx
    (by rw [bCells_len]; omega) hnews ?_ (by unfold maxLen; omega) (by omega) hbase ?_
  · intro u hu
    simp only [bCells, List.mem_map] at hu
    obtain ⟨c, _, rfl⟩ := hu
    rfl
  · intro v' w' h1 h2 _
    refine h v' w' ?_ h2
    unfold OwnB
    rw [List.length_append, hm, bCells, List.map_append]
    exact h1

/-- The same as one step of a region that draws its order. -/
theorem step_append_b {w : World} {ops : Array Oper} {o : Oper} {a : Act} {K : Act → World → Prop} {Q : Exit → Act → World → Prop} {E : Prop} (hgd : o.guard = none)
    (s x : Operand) (ho : o.op = .call { callee := .builtin .append, args := #[s, x], argTypes := #[133, 133] }) (B : Nat) (v : Value) (l : List UInt8)
    (hs : a.eval s = v) (hown : OwnB w B v l) (ad : Addr) (m c : Nat) (news : List UInt8) (hx : a.eval x = .slice (some ad) m c) (hm : news.length = m)
    (hnews : ∀ j u, (bCells news)[j]? = some u → w.cell? (ad.add j) = some u) (hlen : l.length + m ≤ 140737488355328) (hbase : B ≤ w.heap.size)
    (h : ∀ v' w', OwnB w' B v' (l ++ news) → w.grownBy w' v.ownBlock → K (a.put o.dst v') w') :
    if Region.wanted o (yielded ops a.tmps) = true then Oper.wp Tryz.prog o a w K Q else E := by
  obtain ⟨i, hi, hz, hsz, hby⟩ := info_parts info_u8
  have hw : Region.wanted o (yielded ops a.tmps) = true := by simp [Region.wanted, hgd]
  rw [if_pos hw]
  refine wp_append_own w s x 133 ho B 5 i (.int .u8 0) 1 1 Tryz.underlying133 hi hz hsz hby rfl (by decide) v l.length (bCells l) hs hown ad m c (bCells news) hx
    (by rw [bCells_len]; omega) hnews ?_ (by unfold maxLen; omega) (by omega) hbase ?_
  · intro u hu
    simp only [bCells, List.mem_map] at hu
    obtain ⟨c, _, rfl⟩ := hu
    rfl
  · intro v' w' h1 h2 _
    refine h v' w' ?_ h2
    unfold OwnB
    rw [List.length_append, hm, bCells, List.map_append]
    exact h1

theorem below_app {B B' : Nat} {w wr w1 : World} {v : Value} {l : List UInt8} {o : Obj} (hb : Below B w wr) (hown : OwnB wr B' v l) (hB : B ≤ B') (hsz : B ≤ wr.heap.size)
    (hg : (wr.alloc o).grownBy w1 v.ownBlock) : Below B w w1 :=
  (hb.alloc hsz o).grown hg (by simp; omega) fun k hk => by have := hown.lt k hk; omega

/-- The cells of a new block of bytes. -/
theorem new_b (w : World) (news : List UInt8) (arr : Array Value) (t : TypeId) (h : arr = (bCells news).toArray) : ∀ j u, (bCells news)[j]? = some u → (w.alloc (.cells arr t)).cell? ((⟨w.heap.size, 0, none⟩ : Addr).add j) = some u := by
  intro j u hj
  subst h
  rw [add_none, Nat.zero_add, World.cell?_alloc_mark]
  simpa using hj

-- BUF
/-- Block B is a new row of N bytes; from place i on it holds l. -/
def Buf (w : World) (B N i : Nat) (l : List UInt8) : Prop :=
  ∃ arr T, w.heap[B]? = some (.cells arr T) ∧ arr.size = N ∧ i + l.length = N ∧ arr.toList.drop i = bCells l

theorem Buf.some_cell {w : World} {B N i : Nat} {l : List UInt8} (h : Buf w B N i l) (j : Nat) (hj : j < N) : ∃ v, w.cell? ⟨B, j, none⟩ = some v := by
  obtain ⟨arr, T, hh, hs, _, _⟩ := h
  exact ⟨arr[j]'(by omega), by simp [World.cell?, hh, hs, hj]⟩

theorem Buf.free {w : World} {B N i : Nat} {l : List UInt8} (h : Buf w B N i l) (j : Nat) : w.frozen? ⟨B, j, none⟩ = false := by
  obtain ⟨arr, T, hh, hs, _, _⟩ := h
  simp [World.frozen?, hh]

theorem Buf.cell {w : World} {B N i : Nat} {l : List UInt8} (h : Buf w B N i l) (j : Nat) (hj : j < l.length) : w.cell? ⟨B, i + j, none⟩ = some (.int .u8 (l[j].toNat : Int)) := by
  obtain ⟨arr, T, hh, hs, hi, hd⟩ := h
  have e : (bCells l)[j]? = some (.int .u8 (l[j].toNat : Int)) := by simp [bCells, hj]
  rw [← hd, List.getElem?_drop] at e
  simp only [World.cell?, hh]
  simpa using e

theorem Buf.step {w : World} {B N k i : Nat} {l : List UInt8} (h : Buf w B N k l) (c : UInt8) (hk : k = i + 1) : Buf (w.setCell ⟨B, i, none⟩ (.int .u8 (c.toNat : Int))) B N i (c :: l) := by
  subst hk
  obtain ⟨arr, T, hh, hs, hi, hd⟩ := h
  refine ⟨arr.setIfInBounds i (.int .u8 (c.toNat : Int)), T, ?_, by simp [hs], by simp; omega, ?_⟩
  · show (w.heap.modify B _)[B]? = _
    rw [Array.getElem?_modify, if_pos rfl, hh]
    rfl
  · have hi' : i < (arr.toList.set i (.int .u8 (c.toNat : Int))).length := by simp; omega
    rw [Array.toList_setIfInBounds, List.drop_eq_getElem_cons hi', List.getElem_set_self, List.drop_set_of_lt (by omega), hd]
    rfl

theorem Buf.str {w : World} {B N i : Nat} {l : List UInt8} (h : Buf w B N i l) (n : Nat) (hn : n = l.length) :
    (convert 133 9 (.slice (some ⟨B, i, none⟩) n n)).run Tryz.prog w = .ok (.string ⟨l.toArray⟩) w := by
  subst hn
  refine run_convert_bytes_back w 133 9 5 ⟨B, i, none⟩ l.length l Tryz.underlying133 Tryz.underlying5 Tryz.underlying9 fun j hj => ?_
  rw [add_none]
  exact h.cell j hj

theorem ret_s {a b : ByteArray} (h : a = b) : Ending.returned (.string a) = .returned (.string b) := by rw [h]
theorem ret_i {k : IntKind} {a b : Int} (h : a = b) : Ending.returned (.int k a) = .returned (.int k b) := by rw [h]
theorem val_i {k : IntKind} {a b : Int} (h : a = b) : Value.int k a = .int k b := by rw [h]

/-! ### The row of bytes that a text's conversion makes. -/

/-- From block B's head on there stand the bytes l, and none of them is frozen. -/
def HasB (w : World) (B : Nat) (l : List UInt8) : Prop := ∀ (j : Nat) (hj : j < l.length), w.cell? ⟨B, j, none⟩ = some (.int .u8 (l[j].toNat : Int)) ∧ w.frozen? ⟨B, j, none⟩ = false

theorem HasB.lt {w : World} {B : Nat} {l : List UInt8} (h : HasB w B l) (hl : 0 < l.length) : B < w.heap.size := by
  rcases Nat.lt_or_ge B w.heap.size with h1 | h1
  · exact h1
  · have := (h 0 hl).1
    simp [World.cell?, Array.getElem?_eq_none h1] at this

theorem HasB.str {w : World} {B : Nat} {l : List UInt8} (h : HasB w B l) (n cap : Nat) (hn : n = l.length) :
    (convert 133 9 (.slice (some ⟨B, 0, none⟩) n cap)).run Tryz.prog w = .ok (.string ⟨l.toArray⟩) w := by
  subst hn
  refine run_convert_bytes_back w 133 9 5 ⟨B, 0, none⟩ cap l Tryz.underlying133 Tryz.underlying5 Tryz.underlying9 fun j hj => ?_
  rw [add_none, Nat.zero_add]
  exact (h j hj).1

theorem HasB.set {w : World} {B : Nat} {l : List UInt8} (h : HasB w B l) (k : Nat) (c : UInt8) : HasB (w.setCell ⟨B, k, none⟩ (.int .u8 (c.toNat : Int))) B (l.set k c) := by
  intro j hj
  have hj' : j < l.length := by simpa using hj
  refine ⟨?_, by rw [World.frozen?_setCell]; exact (h j hj').2⟩
  by_cases hjk : j = k
  · subst hjk
    rw [World.cell?_setCell_same _ _ _ (h j hj').1]
    simp
  · rw [World.cell?_setCell_other _ _ _ _ (by intro e; injection e with _ e2; exact hjk e2.symm)]
    rw [List.getElem_set_ne (by omega)]
    exact (h j hj').1

theorem conv_b (s : ByteArray) (w : World) : ∃ cap W, Below w.heap.size w W ∧ W.heap.size = w.heap.size + 1 ∧ HasB W w.heap.size s.data.toList ∧
    (convert 9 133 (.string s)).run Tryz.prog w = .ok (.slice (some ⟨w.heap.size, 0, none⟩) s.size cap) W := by
  have h := run_bytes_of_string (P := Tryz.prog) w 9 133 5 s Tryz.underlying9 Tryz.underlying133 Tryz.underlying5
  refine ⟨_, _, ?_, ?_, ?_, h⟩
  · exact (Below.refl _ _).drew.alloc (Nat.le_refl _) _
  · simp
  · intro j hj
    have hj2 : j < s.data.size := by simpa using hj
    constructor
    · rw [show w.heap.size = w.drew.heap.size from rfl, World.cell?_alloc_mark, bytesRow_at s _ j hj2]
      simp
    · rw [show w.heap.size = w.drew.heap.size from rfl, World.frozen?_alloc_mark]
      have : s.data.size ≤ (bytesRow s (grownCap w s.size 0 5)).size := by simp [bytesRow]
      simp
      omega

/-! ### A region that draws its order, whose operations read what was there when it began, and whose callees make memory of their own. -/

/-- A world behind the world w: what was there is as it was. -/
structure HW (w : World) where
  val : World
  ok : Below w.heap.size w val
instance (w : World) : Nonempty (HW w) := ⟨⟨w, Below.refl _ _⟩⟩

theorem wp_region_held_lit {P : Program} {id : Nat} {Q : Exit → Act → World → Prop} {a : Act} {w : World} {l : List Oper} (hm : P.follows .mixedOrders = true) (hB : Region.lexB .any l.toArray = true)
    (h : wpQuiet P l.toArray (fun w' => ∃ x : HW w, w' = x.val) (fun a' => ∀ w', (∃ x : HW w, w' = x.val) → Q .normal a' w') l a) : (Code.region id l.toArray true).wp P Q a w :=
  wp_region_quiet (C := fun w' => ∃ x : HW w, w' = x.val) hm hB ⟨⟨w.drew, (Below.refl _ _).drew⟩, rfl⟩ (by simpa using h)

theorem calls_held {P : Program} {f : FuncId} {args : Array Value} {w : World} {x : HW w} {v : Value} (h : Calls P f args x.val fun e w' => e = .returned v ∧ Below x.val.heap.size x.val w') :
    Calls P f args x.val fun e w'' => e = .returned v ∧ ∃ y : HW w, w'' = y.val :=
  h.mono fun _ w'' ⟨he, hb⟩ => ⟨he, ⟨w'', x.ok.trans (hb.mono x.ok.size)⟩, rfl⟩
theorem calls_held_same {P : Program} {f : FuncId} {args : Array Value} {w : World} {x : HW w} {v : Value} (h : Calls P f args x.val fun e w' => e = .returned v ∧ x.val = w') :
    Calls P f args x.val fun e w'' => e = .returned v ∧ ∃ y : HW w, w'' = y.val :=
  h.mono fun _ _ ⟨he, hb⟩ => ⟨he, x, hb.symm⟩

theorem HasB.held {w : World} {B : Nat} {l : List UInt8} (h : HasB w B l) (x : HW w) : HasB x.val B l := by
  intro j hj
  have hB := h.lt (by omega)
  exact ⟨by rw [x.ok.cell hB]; exact (h j hj).1, by rw [x.ok.frozen hB]; exact (h j hj).2⟩

theorem OwnB.held {w : World} {B : Nat} {v : Value} {l : List UInt8} (h : OwnB w B v l) (x : HW w) : OwnB x.val B v l := by
  obtain ⟨h1, h2⟩ := h
  refine ⟨h1, ?_⟩
  rcases h2 with h2 | ⟨g, cap, cur, hv, hg, hh, r⟩
  · exact Or.inl h2
  · have hlt : g < w.heap.size := by
      rcases Nat.lt_or_ge g w.heap.size with h | h
      · exact h
      · rw [Array.getElem?_eq_none h] at hh; cases hh
    exact Or.inr ⟨g, cap, cur, hv, hg, by rw [x.ok.block g hlt]; exact hh, r⟩
end Go.Proofs.YtnegappgdpeabaaGreat
