/-
  Files: words, and the walks of raw.Compare, Bytes, of.
-/
import Derived.Test.YtnfpnmfgppamgaaGreatApp
import Derived.Test.YtnfpnmfgppamgaaGreatShelf
namespace Go.Proofs.YtnfpnmfgppamgaaGreat
open Go.RowKit

/-- A file. -/
structure Fi where
  lv : Int
  nu : Int
  ct : Int
  sz : Int
  f : ByteArray
  l : ByteArray

def Fi.cells (x : Fi) : List Value := [.int .i64 x.lv, .int .i64 x.nu, .int .i64 x.ct, .int .i64 x.sz, .string x.f, .string x.l]
def Fi.val (x : Fi) : Value := .agg #[.int .i64 x.lv, .int .i64 x.nu, .int .i64 x.ct, .int .i64 x.sz, .string x.f, .string x.l]
def fCells (L : List Fi) : List Value := L.flatMap Fi.cells
theorem fCells_len (l : List Fi) : (fCells l).length = l.length * 6 := by
  induction l with
  | nil => rfl
  | cons m l ih => rw [fCells, List.flatMap_cons, List.length_append, ← fCells, ih, List.length_cons]; simp [Fi.cells]; omega
theorem fCells_append (a b : List Fi) : fCells (a ++ b) = fCells a ++ fCells b := by simp [fCells]
theorem fCells_cons (m : Fi) (b : List Fi) : fCells (m :: b) = m.cells ++ fCells b := rfl
theorem cells_one (m : Fi) : ∀ u ∈ m.cells, u.oneCell' = true := by
  intro u hm
  simp only [Fi.cells, List.mem_cons, List.not_mem_nil, or_false] at hm
  rcases hm with rfl | rfl | rfl | rfl | rfl | rfl <;> rfl
theorem fCells_get (l : List Fi) (i j : Nat) (hi : i < l.length) (hj : j < 6) : (fCells l)[i * 6 + j]? = l[i].cells[j]? := by
  induction l generalizing i with
  | nil => simp at hi
  | cons m l ih =>
    rw [fCells_cons]
    cases i with
    | zero =>
      rw [Nat.zero_mul, Nat.zero_add, List.getElem?_append_left (by simp [Fi.cells]; omega)]
      rfl
    | succ i =>
      have h := ih i (by simpa using hi)
      rw [List.getElem?_append_right (by simp [Fi.cells]; omega), show (i + 1) * 6 + j - m.cells.length = i * 6 + j by simp [Fi.cells]; omega, h]
      rfl

/-- The cells of one file. -/
structure Fi.here (w : World) (b off : Nat) (x : Fi) : Prop where
  c0 : w.cell? ⟨b, off, none⟩ = some (.int .i64 x.lv)
  c1 : w.cell? ⟨b, off + 1, none⟩ = some (.int .i64 x.nu)
  c2 : w.cell? ⟨b, off + 2, none⟩ = some (.int .i64 x.ct)
  c3 : w.cell? ⟨b, off + 3, none⟩ = some (.int .i64 x.sz)
  c4 : w.cell? ⟨b, off + 4, none⟩ = some (.string x.f)
  c5 : w.cell? ⟨b, off + 5, none⟩ = some (.string x.l)
theorem Fi.here.below {w w' : World} {b off n : Nat} {x : Fi} (h : x.here w b off) (hb : Below n w w') (hlt : b < n) : x.here w' b off :=
  ⟨(hb.cell (p := ⟨b, _, none⟩) hlt).trans h.c0, (hb.cell (p := ⟨b, _, none⟩) hlt).trans h.c1, (hb.cell (p := ⟨b, _, none⟩) hlt).trans h.c2, (hb.cell (p := ⟨b, _, none⟩) hlt).trans h.c3, (hb.cell (p := ⟨b, _, none⟩) hlt).trans h.c4, (hb.cell (p := ⟨b, _, none⟩) hlt).trans h.c5⟩

/-- At a stand the files L, one behind the other, in a block that was there. -/
def FilesAt (w : World) (a : Option Addr) (L : List Fi) : Prop :=
  L = [] ∨ ∃ b off, a = some ⟨b, off, none⟩ ∧ b < w.heap.size ∧ ∀ i (hi : i < L.length), L[i].here w b (off + i * 6)
theorem FilesAt.below {w w' : World} {a : Option Addr} {L : List Fi} (h : FilesAt w a L) (hb : Below w.heap.size w w') : FilesAt w' a L := by
  rcases h with h | ⟨b, off, rfl, hlt, hc⟩
  · exact .inl h
  · exact .inr ⟨b, off, rfl, Nat.lt_of_lt_of_le hlt hb.size, fun i hi => (hc i hi).below hb hlt⟩
theorem FilesAt.below' {w w' : World} {n : Nat} {a : Option Addr} {L : List Fi} (h : FilesAt w a L) (hn : w.heap.size = n) (hb : Below n w w') : FilesAt w' a L := by subst hn; exact h.below hb

/-- A slice of the call's own that holds the files L. -/
abbrev OwnF (w : World) (B : Nat) (v : Value) (L : List Fi) : Prop := w.ownsRow B 57 6 v L.length (fCells L)
/-- A slice of the call's own that holds the numbers l. -/
def iCells (l : List Int) : List Value := l.map (Value.int .i64)
abbrev OwnI (w : World) (B : Nat) (v : Value) (l : List Int) : Prop := w.ownsRow B 3 1 v l.length (iCells l)

theorem OwnF.at_ {w : World} {B n cap : Nat} {a : Option Addr} {L : List Fi} (h : OwnF w B (.slice a n cap) L) : n = L.length ∧ FilesAt w a L := by
  have h0 := h
  obtain ⟨h1, h2⟩ := h
  rcases h2 with ⟨h2, h3⟩ | ⟨g, cap', cur, h2, hg, hh, hn, hc, hcl, htk⟩
  · cases h2
    exact ⟨h3.symm, .inl (List.eq_nil_of_length_eq_zero h3)⟩
  · cases h2
    refine ⟨rfl, .inr ⟨g, 0, rfl, (Array.getElem?_eq_some_iff.1 hh).1, fun i hi => ?_⟩⟩
    have get : ∀ j, j < 6 → w.cell? ⟨g, 0 + i * 6 + j, none⟩ = L[i].cells[j]? := by
      intro j hj
      rw [Nat.zero_add, h0.cellAt (i * 6 + j) (by omega)]
      exact fCells_get L i j hi hj
    exact ⟨get 0 (by omega), get 1 (by omega), get 2 (by omega), get 3 (by omega), get 4 (by omega), get 5 (by omega)⟩

theorem info_int : (Tryz.prog.info? 3).map (fun i => (i.zero, i.size, i.bytes)) = some (some (.int .i64 0), 1, 8) := by kernel_rfl
theorem info_file : (Tryz.prog.info? 57).map (fun i => (i.zero, i.size, i.bytes)) = some (some (.agg #[.int .i64 0, .int .i64 0, .int .i64 0, .int .i64 0, .string ⟨#[]⟩, .string ⟨#[]⟩]), 6, 64) := by kernel_rfl
theorem zero_file (w : World) : (zeroValue 57).run Tryz.prog w = .ok (.agg #[.int .i64 0, .int .i64 0, .int .i64 0, .int .i64 0, .string ⟨#[]⟩, .string ⟨#[]⟩]) w := by kernel_rfl

section
variable {w : World} {ops : Array Oper} {rest : List Oper} {o : Oper} {a : Act} {Q : Exit → Act → World → Prop}
/-- append of one number. -/
theorem wpl_app_i (hgd : o.guard = none) (s x : Operand) (ho : o.op = .call { callee := .builtin .append, args := #[s, x], argTypes := #[45, 45] })
    (B : Nat) (v : Value) (l : List Int) (hs : a.eval s = v) (hown : OwnI w B v l) (g : Nat) (k : Int) (hx : a.eval x = .slice (some ⟨g, 0, none⟩) 1 1) (hnew : w.cell? ⟨g, 0, none⟩ = some (.int .i64 k)) (hlen : l.length ≤ 1000000) (hB : B ≤ w.heap.size)
    (h : ∀ a' cap w', OwnI w' B (.slice a' (l.length + 1) cap) (l ++ [k]) → Below B w w' → wpList Tryz.prog ops Q rest (a.put o.dst (.slice a' (l.length + 1) cap)) w') :
    wpList Tryz.prog ops Q (o :: rest) a w := by
  obtain ⟨i0, hi0, hz0, hs0, hy0⟩ := info_parts info_int
  refine wpList_append_own_at _ hgd s x 45 ho B 3 i0 (.int .i64 0) 1 8 Tryz.underlying45 hi0 hz0 hs0 hy0 rfl (by decide) v l.length (iCells l) hs hown ⟨g, 0, none⟩ 1 1 [.int .i64 k] hx rfl ?_ (by intro u hu; rw [List.mem_singleton] at hu; subst hu; rfl) (by unfold maxLen; omega) (by omega) hB ?_
  · intro j u hj
    match j, hj with
    | 0, hj => simp at hj; subst hj; exact hnew
  · intro v' w' h2 hg _ _
    have h2' : OwnI w' B v' (l ++ [k]) := by
      show w'.ownsRow B _ 1 v' _ _
      rw [List.length_append]
      simpa [iCells] using h2
    obtain ⟨a', cap, hv, _, _⟩ := row_form h2'
    rw [List.length_append] at hv
    subst hv
    exact h a' cap w' h2' (below_grown hown hg hB)
/-- append of one file. -/
theorem wpl_app_f (hgd : o.guard = none) (s x : Operand) (ho : o.op = .call { callee := .builtin .append, args := #[s, x], argTypes := #[22, 22] })
    (B : Nat) (v : Value) (l : List Fi) (hs : a.eval s = v) (hown : OwnF w B v l) (g : Nat) (k : Fi) (hx : a.eval x = .slice (some ⟨g, 0, none⟩) 1 1) (hnew : k.here w g 0) (hlen : l.length ≤ 1000000) (hB : B ≤ w.heap.size)
    (h : ∀ a' cap w', OwnF w' B (.slice a' (l.length + 1) cap) (l ++ [k]) → Below B w w' → wpList Tryz.prog ops Q rest (a.put o.dst (.slice a' (l.length + 1) cap)) w') :
    wpList Tryz.prog ops Q (o :: rest) a w := by
  obtain ⟨i0, hi0, hz0, hs0, hy0⟩ := info_parts info_file
  refine wpList_append_own_at _ hgd s x 22 ho B 57 i0 _ 6 64 Tryz.underlying22 hi0 hz0 hs0 hy0 rfl (by decide) v l.length (fCells l) hs hown ⟨g, 0, none⟩ 1 1 k.cells hx rfl ?_ (cells_one k) (by unfold maxLen; omega) (by omega) hB ?_
  · intro j u hj
    have e : (⟨g, 0, none⟩ : Addr).add j = ⟨g, 0 + j, none⟩ := by unfold Addr.add; split <;> simp_all
    rw [e]
    match j, hj with
    | 0, hj => simp [Fi.cells] at hj; subst hj; exact hnew.c0
    | 1, hj => simp [Fi.cells] at hj; subst hj; exact hnew.c1
    | 2, hj => simp [Fi.cells] at hj; subst hj; exact hnew.c2
    | 3, hj => simp [Fi.cells] at hj; subst hj; exact hnew.c3
    | 4, hj => simp [Fi.cells] at hj; subst hj; exact hnew.c4
    | 5, hj => simp [Fi.cells] at hj; subst hj; exact hnew.c5
    | j + 6, hj => simp [Fi.cells] at hj
  · intro v' w' h2 hg _ _
    have h2' : OwnF w' B v' (l ++ [k]) := by
      show w'.ownsRow B _ 6 v' _ _
      rw [List.length_append, fCells_append]
      simpa [fCells] using h2
    obtain ⟨a', cap, hv, _, _⟩ := row_form h2'
    rw [List.length_append] at hv
    subst hv
    exact h a' cap w' h2' (below_grown hown hg hB)
end

def kcmp (a b : ByteArray) : Int := Lib.compareBytes a.data.toList b.data.toList
theorem compare_any (a b : ByteArray) (w : World) :
    Calls Tryz.prog 22 #[.string a, .string b] w fun e w' => e = .returned (.int .i64 (kcmp a b)) ∧ w = w' := by
  unfold kcmp
  go_enter Tryz.func22, Tryz.ntmps22
  go_wp2_with (go_at_call 93; refine (Tryz.strings_Compare _ _ _).mono ?_; rintro e w' ⟨rfl, rfl⟩)
  go_ret
  exact ⟨rfl, rfl⟩

/-- What Bytes adds. -/
def addB (lv n : Int) (x : Fi) : Int := if x.lv = lv then min (n + min (max x.sz 0) 2147483647) 2147483647 else n
def bytesOf (L : List Fi) (lv : Int) : Int := L.foldl (addB lv) 0
theorem addB_bd {lv n : Int} (x : Fi) (h0 : 0 ≤ n) (h1 : n ≤ 2147483647) : 0 ≤ addB lv n x ∧ addB lv n x ≤ 2147483647 := by
  unfold addB; split <;> omega
theorem bytesOf_bd (L : List Fi) (lv : Int) : 0 ≤ bytesOf L lv ∧ bytesOf L lv ≤ 2147483647 := by
  have : ∀ (L : List Fi) (n : Int), 0 ≤ n → n ≤ 2147483647 → 0 ≤ L.foldl (addB lv) n ∧ L.foldl (addB lv) n ≤ 2147483647 := by
    intro L
    induction L with
    | nil => intro n h0 h1; exact ⟨h0, h1⟩
    | cons x L ih => intro n h0 h1; have := addB_bd (lv := lv) x h0 h1; exact ih _ this.1 this.2
  exact this L 0 (by omega) (by omega)
theorem bytesOf_snoc (L : List Fi) (i : Nat) (hi : i < L.length) (lv : Int) : bytesOf (L.take (i + 1)) lv = addB lv (bytesOf (L.take i) lv) L[i] := by
  unfold bytesOf
  rw [List.take_succ_eq_append_getElem hi, List.foldl_append]
  rfl
theorem ret_i {a b : Int} (h : a = b) : Ending.returned (.int .i64 a) = .returned (.int .i64 b) := by rw [h]
theorem ret_b {a b : Bool} (h : a = b) : Ending.returned (.bool a) = .returned (.bool b) := by rw [h]

set_option maxHeartbeats 400000 in
theorem bytes_any {w : World} {a : Option Addr} {L : List Fi} (hL : FilesAt w a L) (cap : Nat) (hlen : L.length ≤ 1000000) (lv : Int) :
    Calls Tryz.prog 14 #[.slice a L.length cap, .int .i64 lv] w fun e w' => e = .returned (.int .i64 (bytesOf L lv)) ∧ Below w.heap.size w w' := by
  obtain ⟨len, hl⟩ : ∃ len, len = L.length := ⟨_, rfl⟩
  rw [← hl] at hlen ⊢
  have HL := Lib.hid hL
  have HN := Lib.hid hl
  clear hL hl
  go_enter Tryz.func14, Tryz.ntmps14
  go_wp2
  go_loopw [5, 10] (fun n y wr => ∃ i : Nat, i ≤ len ∧ y = .int .i64 (i : Int) ∧ n = .int .i64 (bytesOf (L.take i) lv) ∧ Below w.heap.size w wr) (fun _ y _ => len - (intOf y).toNat)
  case atStart => exact ⟨0, by omega, rfl, rfl, Below.refl _ _⟩
  case round =>
    obtain ⟨i, hi, rfl, rfl, hbel⟩ := hrel
    obtain ⟨n, hn⟩ : ∃ n, n = bytesOf (L.take i) lv := ⟨_, rfl⟩
    have hbd := bytesOf_bd (L.take i) lv
    rw [← hn] at hbd ⊢
    obtain ⟨hb0, hb1⟩ := hbd
    have HB := Lib.hid hbel
    by_cases hlt : i < len
    · have hil : i < L.length := by have := HN.out; omega
      obtain ⟨b, off, rfl, hb, hc⟩ : ∃ b off, a = some ⟨b, off, none⟩ ∧ b < w.heap.size ∧ ∀ i (hi : i < L.length), L[i].here w b (off + i * 6) := by
        rcases HL.out with h | h
        · rw [h] at hil; simp at hil
        · exact h
      have hx := (hc i hil).below hbel hb
      have hst := bytesOf_snoc L i hil lv
      obtain ⟨x, hxx⟩ : ∃ x, L[i] = x := ⟨_, rfl⟩
      rw [hxx] at hx hst
      rw [← hn] at hst
      have HST := Lib.hid hst
      obtain ⟨c0, c1, c2, c3, c4, c5⟩ := hx
      clear hc hbel hxx hst hn
      by_cases he : x.lv = lv
      · subst he
        have HA : Hid (addB x.lv n x = min (n + min (max x.sz 0) 2147483647) 2147483647) := by unfold Hid addB; rw [if_pos rfl]
        go_wp2
        go_roundw
        case rel => exact ⟨i + 1, by omega, by go_num, by rw [HST.out, HA.out], (HB.out.alloc HB.out.size _)⟩
        case measure => simp [intOf]; omega
      · have HA : Hid (addB lv n x = n) := by unfold Hid addB; rw [if_neg he]
        have t1 : (x.lv == lv) = false := by simpa using he
        clear he
        go_wp2
        go_roundw
        case rel => exact ⟨i + 1, by omega, by go_num, by rw [HST.out, HA.out], (HB.out.alloc HB.out.size _)⟩
        case measure => simp [intOf]; omega
    · obtain rfl : i = len := by omega
      have hend : n = bytesOf L lv := by rw [hn, List.take_of_length_le (by have := HN.out; omega)]
      have HE := Lib.hid hend
      clear hend hn
      go_wp2
      go_ret
      exact ⟨ret_i HE.out, HB.out⟩
end Go.Proofs.YtnfpnmfgppamgaaGreat
