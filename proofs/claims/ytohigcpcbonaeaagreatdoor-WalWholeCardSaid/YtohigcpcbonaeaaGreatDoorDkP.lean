/-
  A disk, plain: what each act makes of it. Of no program.
-/
import Derived.Test.YtohigcpcbonaeaaGreatDoorMp
import Derived.Test.YtohigcpcbonaeaaGreatDoorCmp
namespace Go.Proofs.YtohigcpcbonaeaaGreatDoor
open Go.RowKit Go.Lib

/-- A file: its bytes, how many of them are synced. -/
structure Fl where
  data : ByteArray
  syn : Nat
abbrev Fm := List (ByteArray × Fl)
def ckN (s : ByteArray) : Value := .string s
def cvF (f : Fl) : Value := .agg #[.string f.data, .int .i64 (f.syn : Int)]

/-- A fuse: how many acts it lets by, the cuts, the spoiling. -/
structure Fz where
  n : Nat
  cuts : List Int
  flip : Int
structure Dk where
  m : Fm
  on : Bool
  quota : Int
  fuse : Option Fz
  acts : Nat

def okc (c : UInt8) : Bool := (97 ≤ c && c ≤ 122) || (48 ≤ c && c ≤ 57) || c = 46 || c = 45 || c = 95 || c = 47
def nmB (s : ByteArray) : Bool := s.size ≠ 0 && s.size ≤ 64 && s.data.toList.all okc

/-- What is asked of power and names. -/
def Dk.asked (D : Dk) (l : List ByteArray) : Int := if !D.on then 20 else if l.all nmB then 0 else 21

def leqB (a b : ByteArray) : Bool := compareBytes a.data.toList b.data.toList ≤ 0
def insB (a : ByteArray) : List ByteArray → List ByteArray
  | [] => [a]
  | b :: l => if leqB a b then a :: b :: l else b :: insB a l
def sortB (l : List ByteArray) : List ByteArray := l.foldr insB []
def Dk.names (D : Dk) : List ByteArray := sortB (D.m.map (·.1))

def cutAt (cuts : List Int) (i : Nat) : Int := if cuts.length = 0 then 0 else cuts.getD (i % cuts.length) 0
/-- What a crash leaves of a file. -/
def keep (f : Fl) (cut : Int) : Nat := min cut.toNat (f.data.size - f.syn)
def spoil (l : List UInt8) (flip : Int) : List UInt8 := l.set (l.length - 1) (l.getD (l.length - 1) 0 ^^^ UInt8.ofNat flip.toNat)
def kept (f : Fl) (cut flip : Int) : List UInt8 :=
  let l := f.data.data.toList.take (f.syn + keep f cut)
  if 0 < keep f cut ∧ 1 ≤ flip ∧ flip ≤ 255 then spoil l flip else l
def cutF (f : Fl) (cut flip : Int) : Fl := ⟨⟨(kept f cut flip).toArray⟩, (kept f cut flip).length⟩
def crashL (cuts : List Int) (flip : Int) : List ByteArray → Nat → Fm → Fm
  | [], _, m => m
  | a :: l, i, m => crashL cuts flip l (i + 1) (match getL m a with | some f => setL m a (cutF f (cutAt cuts i) flip) | none => m)
def Dk.crash (D : Dk) (cuts : List Int) (flip : Int) : Dk := if D.on then { D with m := crashL cuts flip D.names 0 D.m, on := false } else D

/-- The fuse is asked, and it is counted. -/
def Dk.act (D : Dk) (f : Fm → Fm) : Int × Dk :=
  match D.fuse with
  | none => (0, { D with m := f D.m, acts := D.acts + 1 })
  | some ⟨0, cuts, flip⟩ => (20, Dk.crash { D with fuse := none } cuts flip)
  | some ⟨n + 1, cuts, flip⟩ => (0, { D with m := f D.m, fuse := some ⟨n, cuts, flip⟩, acts := D.acts + 1 })

def Dk.create (D : Dk) (s : ByteArray) : Int × Dk :=
  if D.asked [s] ≠ 0 then (D.asked [s], D) else if (getL D.m s).isSome then (23, D) else if 20000 ≤ D.m.length then (24, D) else D.act (fun m => setL m s ⟨ByteArray.empty, 0⟩)
def used (m : Fm) : Nat := (m.map (fun p => p.2.data.size)).sum
def Dk.app (D : Dk) (s data : ByteArray) : Int × Dk :=
  if D.asked [s] ≠ 0 then (D.asked [s], D) else match getL D.m s with
  | none => (22, D)
  | some f => if 1048576 < f.data.size + data.size then (2, D) else if 0 ≤ D.quota ∧ data.size ≠ 0 ∧ D.quota < (used D.m : Int) + data.size then (24, D) else D.act (fun m => setL m s ⟨f.data ++ data, f.syn⟩)
def Dk.sync (D : Dk) (s : ByteArray) : Int × Dk :=
  if D.asked [s] ≠ 0 then (D.asked [s], D) else match getL D.m s with
  | none => (22, D)
  | some f => D.act (fun m => setL m s ⟨f.data, f.data.size⟩)
def Dk.rename (D : Dk) (s t : ByteArray) : Int × Dk :=
  if D.asked [s, t] ≠ 0 then (D.asked [s, t], D) else match getL D.m s with
  | none => (22, D)
  | some f => D.act (fun m => setL (delL m s) t f)
def Dk.remove (D : Dk) (s : ByteArray) : Int × Dk :=
  if D.asked [s] ≠ 0 then (D.asked [s], D) else match getL D.m s with
  | none => (22, D)
  | some _ => D.act (fun m => delL m s)
def Dk.read (D : Dk) (s : ByteArray) : ByteArray × Int :=
  if D.asked [s] ≠ 0 then (ByteArray.empty, D.asked [s]) else match getL D.m s with
  | none => (ByteArray.empty, 22)
  | some f => (f.data, 0)
def Dk.list (D : Dk) (p : ByteArray) : List ByteArray := if D.on then D.names.filter (fun s => p.data.toList.isPrefixOf s.data.toList) else []
def Dk.restore (D : Dk) : Dk := { D with on := true }
def Dk.setQuota (D : Dk) (n : Int) : Dk := { D with quota := max n (-1) }
def Dk.setFuse (D : Dk) (n : Int) (cuts : List Int) (flip : Int) : Dk := { D with fuse := if 0 ≤ n then some ⟨n.toNat, cuts, flip⟩ else none }

/-- What a disk can be. -/
structure Dk.Ok (D : Dk) : Prop where
  nam : ∀ p ∈ D.m, p.1.size ≤ 64
  syn : ∀ p ∈ D.m, p.2.syn ≤ p.2.data.size ∧ p.2.data.size ≤ 1048576
  few : D.m.length ≤ 20000
  acts : D.acts ≤ 1000000
  quota : -1 ≤ D.quota ∧ D.quota ≤ 9223372036854775807
  fuse : ∀ z, D.fuse = some z → z.n ≤ 9223372036854775807 ∧ z.cuts.length ≤ 1000000

theorem getL_mem {K V : Type} [DecidableEq K] {m : List (K × V)} {a : K} {v : V} (h : getL m a = some v) : (a, v) ∈ m := by
  unfold getL at h
  obtain ⟨p, hp, rfl⟩ := Option.map_eq_some_iff.1 h
  have h1 := List.find?_some hp
  have h2 := List.mem_of_find?_eq_some hp
  obtain rfl : p.1 = a := by simpa using h1
  exact h2
theorem setL_mem {K V : Type} [DecidableEq K] {m : List (K × V)} {a : K} {v : V} {p : K × V} (h : p ∈ setL m a v) : p = (a, v) ∨ p ∈ m := by
  unfold setL at h
  split at h
  · obtain ⟨q, hq, rfl⟩ := List.mem_map.1 h
    split
    · exact .inl rfl
    · exact .inr hq
  · rcases List.mem_append.1 h with h | h
    · exact .inr h
    · exact .inl (List.mem_singleton.1 h)
theorem delL_mem {K V : Type} [DecidableEq K] {m : List (K × V)} {a : K} {p : K × V} (h : p ∈ delL m a) : p ∈ m := (List.mem_filter.1 h).1
theorem setL_length {K V : Type} [DecidableEq K] {m : List (K × V)} {a : K} {v : V} : (setL m a v).length ≤ m.length + 1 ∧ ((getL m a).isSome = true → (setL m a v).length = m.length) := by
  unfold setL
  split
  · simp
  · rename_i h
    refine ⟨by simp, fun h2 => ?_⟩
    obtain ⟨u, hu⟩ := Option.isSome_iff_exists.1 h2
    exact absurd (List.any_eq_true.2 ⟨_, getL_mem hu, by simp⟩) h
theorem get_set {K V : Type} [DecidableEq K] (m : List (K × V)) (a b : K) (v : V) : getL (setL m a v) b = if a = b then some v else getL m b := by
  unfold setL
  split
  · rename_i h
    induction m with
    | nil => simp at h
    | cons p m ih =>
      rw [List.map_cons]
      by_cases hp : p.1 = a
      · rw [if_pos hp]
        by_cases hab : a = b
        · simp [getL, hab]
        · rw [if_neg hab]
          have hpb : p.1 ≠ b := fun e => hab (hp.symm.trans e)
          simp only [getL, List.find?_cons, hab, hpb, decide_false]
          by_cases h2 : m.any (fun p => decide (p.1 = a)) = true
          · have := ih h2
            rw [if_neg hab] at this
            exact this
          · have : m.map (fun p => if p.1 = a then (a, v) else p) = m := by
              conv => rhs; rw [← List.map_id m]
              refine List.map_congr_left (fun q hq => ?_)
              have : q.1 ≠ a := fun e => h2 (List.any_eq_true.2 ⟨q, hq, by simpa using e⟩)
              simp [this]
            rw [this]
      · rw [if_neg hp]
        have h2 : m.any (fun p => decide (p.1 = a)) = true := by simpa [hp] using h
        by_cases hpb : p.1 = b
        · have hab : a ≠ b := fun e => hp (hpb.trans e.symm)
          simp [getL, hpb, hab]
        · have := ih h2
          simp only [getL, List.find?_cons, hpb, decide_false] at this ⊢
          exact this
  · rename_i h
    by_cases hab : a = b
    · subst hab
      have : m.find? (fun p => decide (p.1 = a)) = none := List.find?_eq_none.2 (fun q hq e => h (List.any_eq_true.2 ⟨q, hq, e⟩))
      simp [getL, List.find?_append, this]
    · rw [if_neg hab]
      unfold getL
      rw [List.find?_append]
      cases m.find? (fun p => decide (p.1 = b)) <;> simp [hab]
theorem get_del {K V : Type} [DecidableEq K] (m : List (K × V)) (a b : K) : getL (delL m a) b = if a = b then none else getL m b := by
  unfold getL delL
  rw [List.find?_filter]
  by_cases hab : a = b
  · subst hab
    rw [if_pos rfl, Option.map_eq_none_iff, List.find?_eq_none]
    intro p _
    by_cases h : p.1 = a <;> simp [h]
  · rw [if_neg hab]
    congr 2
    funext p
    by_cases h : p.1 = b
    · have : p.1 ≠ a := fun e => hab (e.symm.trans h)
      simp [h, Ne.symm hab]
    · simp [h]

theorem keep_le (f : Fl) (cut : Int) (h : f.syn ≤ f.data.size) : f.syn + keep f cut ≤ f.data.size := by unfold keep; omega
theorem spoil_len (l : List UInt8) (flip : Int) : (spoil l flip).length = l.length := by simp [spoil]
theorem kept_len (f : Fl) (cut flip : Int) (h : f.syn ≤ f.data.size) : (kept f cut flip).length = f.syn + keep f cut := by
  have h1 := keep_le f cut h
  have h2 : f.data.data.toList.length = f.data.size := by simp
  unfold kept
  split
  · rw [spoil_len, List.length_take]; omega
  · rw [List.length_take]; omega

theorem crashL_ok {cuts : List Int} {flip : Int} : ∀ (l : List ByteArray) (i : Nat) (m : Fm), (∀ p ∈ m, p.2.syn ≤ p.2.data.size ∧ p.2.data.size ≤ 1048576) →
    (∀ p ∈ crashL cuts flip l i m, p.2.syn ≤ p.2.data.size ∧ p.2.data.size ≤ 1048576) ∧ (crashL cuts flip l i m).length = m.length
  | [], _, _, h => ⟨h, rfl⟩
  | a :: l, i, m, h => by
    unfold crashL
    cases hg : getL m a with
    | none => exact crashL_ok l (i + 1) m h
    | some f =>
      have hf : f.syn ≤ f.data.size ∧ f.data.size ≤ 1048576 := h _ (getL_mem hg)
      have h1 := crashL_ok (cuts := cuts) (flip := flip) l (i + 1) (setL m a (cutF f (cutAt cuts i) flip)) (fun p hp => by
        rcases setL_mem hp with rfl | hp
        · have := kept_len f (cutAt cuts i) flip hf.1
          have := keep_le f (cutAt cuts i) hf.1
          have e : (cutF f (cutAt cuts i) flip).data.size = (kept f (cutAt cuts i) flip).length := rfl
          show (kept f (cutAt cuts i) flip).length ≤ (cutF f (cutAt cuts i) flip).data.size ∧ (cutF f (cutAt cuts i) flip).data.size ≤ 1048576
          omega
        · exact h p hp)
      exact ⟨h1.1, h1.2.trans (setL_length.2 (by simp [hg]))⟩
theorem crashL_nam {cuts : List Int} {flip : Int} : ∀ (l : List ByteArray) (i : Nat) (m : Fm), (∀ p ∈ m, p.1.size ≤ 64) → ∀ p ∈ crashL cuts flip l i m, p.1.size ≤ 64
  | [], _, _, h => h
  | a :: l, i, m, h => by
    unfold crashL
    cases hg : getL m a with
    | none => exact crashL_nam l (i + 1) m h
    | some f => exact crashL_nam l (i + 1) _ (fun p hp => by
        rcases setL_mem hp with rfl | hp
        · exact h (a, f) (getL_mem hg)
        · exact h p hp)
theorem Dk.Ok.crash {D : Dk} (h : D.Ok) (cuts : List Int) (flip : Int) : (D.crash cuts flip).Ok := by
  unfold Dk.crash
  split
  · have := crashL_ok (cuts := cuts) (flip := flip) D.names 0 D.m h.syn
    exact ⟨crashL_nam _ _ _ h.nam, this.1, by rw [this.2]; exact h.few, h.acts, h.quota, h.fuse⟩
  · exact h

theorem insB_perm (a : ByteArray) : ∀ l, (insB a l).Perm (a :: l)
  | [] => .refl _
  | b :: l => by
    unfold insB
    split
    · exact .refl _
    · exact ((insB_perm a l).cons b).trans (.swap a b l)
theorem sortB_perm : ∀ l, (sortB l).Perm l
  | [] => .refl _
  | a :: l => (insB_perm a (sortB l)).trans ((sortB_perm l).cons a)
theorem leqB_total (a b : ByteArray) : leqB a b = true ∨ leqB b a = true := by
  have := cmp_neg a.data.toList b.data.toList
  simp only [leqB, decide_eq_true_eq]
  omega
theorem leqB_trans {a b c : ByteArray} (h1 : leqB a b = true) (h2 : leqB b c = true) : leqB a c = true := by
  simp only [leqB, decide_eq_true_eq] at h1 h2 ⊢
  exact (cmp_trans _ _ _ h1 h2).1
theorem leqB_anti {a b : ByteArray} (h1 : leqB a b = true) (h2 : leqB b a = true) : a = b := by
  simp only [leqB, decide_eq_true_eq] at h1 h2
  have h := cmp_neg a.data.toList b.data.toList
  have h3 := cmp_zero a.data.toList b.data.toList (by omega)
  cases a with | mk a => cases b with | mk b =>
  have : a = b := Array.toList_inj.1 h3
  rw [this]
theorem insB_sorted (a : ByteArray) : ∀ l : List ByteArray, l.Pairwise (fun x y => leqB x y = true) → (insB a l).Pairwise (fun x y => leqB x y = true)
  | [], _ => by simp [insB]
  | b :: l, h => by
    obtain ⟨h1, h2⟩ := List.pairwise_cons.1 h
    unfold insB
    split
    · rename_i hab
      refine List.pairwise_cons.2 ⟨fun x hx => ?_, h⟩
      rcases List.mem_cons.1 hx with rfl | hx
      · exact hab
      · exact leqB_trans hab (h1 x hx)
    · rename_i hab
      refine List.pairwise_cons.2 ⟨fun x hx => ?_, insB_sorted a l h2⟩
      rcases List.mem_cons.1 ((insB_perm a l).mem_iff.1 hx) with rfl | hx
      · exact (leqB_total x b).resolve_left hab
      · exact h1 x hx
theorem sortB_sorted : ∀ l, (sortB l).Pairwise (fun x y => leqB x y = true)
  | [] => List.Pairwise.nil
  | a :: l => insB_sorted a _ (sortB_sorted l)
theorem sorted_unique : ∀ {l₁ l₂ : List ByteArray}, l₁.Perm l₂ → l₁.Pairwise (fun x y => leqB x y = true) → l₂.Pairwise (fun x y => leqB x y = true) → l₁ = l₂
  | [], l₂, hp, _, _ => (List.nil_perm.1 hp).symm ▸ rfl
  | a :: l, [], hp, _, _ => by have := hp.length_eq; simp at this
  | a :: l, b :: r, hp, h1, h2 => by
    obtain ⟨a1, a2⟩ := List.pairwise_cons.1 h1
    obtain ⟨b1, b2⟩ := List.pairwise_cons.1 h2
    have hab : a = b := by
      rcases List.mem_cons.1 (hp.mem_iff.1 (List.mem_cons_self)) with h | h
      · exact h
      · rcases List.mem_cons.1 (hp.mem_iff.2 (List.mem_cons_self (a := b) (l := r))) with h' | h'
        · exact h'.symm
        · exact leqB_anti (a1 b h') (b1 a h)
    subst hab
    rw [sorted_unique ((List.perm_cons a).1 hp) a2 b2]
theorem sortB_eq {l l' : List ByteArray} (hp : l'.Perm l) (hs : l'.Pairwise (fun x y => leqB x y = true)) : l' = sortB l := sorted_unique (hp.trans (sortB_perm l).symm) hs (sortB_sorted l)
end Go.Proofs.YtohigcpcbonaeaaGreatDoor
