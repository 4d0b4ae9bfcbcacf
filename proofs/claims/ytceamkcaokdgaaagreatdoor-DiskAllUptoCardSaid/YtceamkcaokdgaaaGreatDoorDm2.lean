import Derived.Test.YtceamkcaokdgaaaGreatDoorMp
import Derived.Test.YtceamkcaokdgaaaGreatDoorCmp
set_option linter.unusedSimpArgs false
set_option linter.unusedVariables false
/-
  A disk, plain: what each act makes of it. Of no program.
-/
namespace Go.Proofs.YtceamkcaokdgaaaGreatDoor
open Go.RowKit Go.Lib

/-- A file: its bytes, how many of them are synced. -/
structure Fl where
  data : ByteArray
  syn : Nat
abbrev Fm := List (ByteArray × Fl)
def ckN (s : ByteArray) : Value := .string s
def cvF (f : Fl) : Value := .agg #[.string f.data, .int .i64 (f.syn : Int)]

/-- A fuse: how many acts it lets by, the cuts, the spoiling. -/
structure Fz where
  n : Nat
  cuts : List Int
  flip : Int
structure Dk where
  m : Fm
  on : Bool
  quota : Int
  fuse : Option Fz
  acts : Nat

def okc (c : UInt8) : Bool := (97 ≤ c && c ≤ 122) || (48 ≤ c && c ≤ 57) || c = 46 || c = 45 || c = 95 || c = 47
def nmB (s : ByteArray) : Bool := s.size ≠ 0 && s.size ≤ 64 && s.data.toList.all okc

/-- What is asked of power and names. -/
def Dk.asked (D : Dk) (l : List ByteArray) : Int := if !D.on then 20 else if l.all nmB then 0 else 21

def leqB (a b : ByteArray) : Bool := compareBytes a.data.toList b.data.toList ≤ 0
def insB (a : ByteArray) : List ByteArray → List ByteArray
  | [] => [a]
  | b :: l => if leqB a b then a :: b :: l else b :: insB a l
def sortB (l : List ByteArray) : List ByteArray := l.foldr insB []
def Dk.names (D : Dk) : List ByteArray := sortB (D.m.map (·.1))

def cutAt (cuts : List Int) (i : Nat) : Int := if cuts.length = 0 then 0 else cuts.getD (i % cuts.length) 0
/-- What a crash leaves of a file. -/
def keep (f : Fl) (cut : Int) : Nat := min cut.toNat (f.data.size - f.syn)
def spoil (l : List UInt8) (flip : Int) : List UInt8 := l.set (l.length - 1) (l.getD (l.length - 1) 0 ^^^ UInt8.ofNat flip.toNat)
def kept (f : Fl) (cut flip : Int) : List UInt8 :=
  let l := f.data.data.toList.take (f.syn + keep f cut)
  if 0 < keep f cut ∧ 1 ≤ flip ∧ flip ≤ 255 then spoil l flip else l
def cutF (f : Fl) (cut flip : Int) : Fl := ⟨⟨(kept f cut flip).toArray⟩, (kept f cut flip).length⟩
def crashL (cuts : List Int) (flip : Int) : List ByteArray → Nat → Fm → Fm
  | [], _, m => m
  | a :: l, i, m => crashL cuts flip l (i + 1) (match getL m a with | some f => setL m a (cutF f (cutAt cuts i) flip) | none => m)
def Dk.crash (D : Dk) (cuts : List Int) (flip : Int) : Dk := if D.on then { D with m := crashL cuts flip D.names 0 D.m, on := false } else D

/-- The fuse is asked, and it is counted. -/
def Dk.act (D : Dk) (f : Fm → Fm) : Int × Dk :=
  match D.fuse with
  | none => (0, { D with m := f D.m, acts := D.acts + 1 })
  | some ⟨0, cuts, flip⟩ => (20, Dk.crash { D with fuse := none } cuts flip)
  | some ⟨n + 1, cuts, flip⟩ => (0, { D with m := f D.m, fuse := some ⟨n, cuts, flip⟩, acts := D.acts + 1 })

def Dk.create (D : Dk) (s : ByteArray) : Int × Dk :=
  if D.asked [s] ≠ 0 then (D.asked [s], D) else if (getL D.m s).isSome then (23, D) else if 20000 ≤ D.m.length then (24, D) else D.act (fun m => setL m s ⟨ByteArray.empty, 0⟩)
def used (m : Fm) : Nat := (m.map (fun p => p.2.data.size)).sum
def Dk.app (D : Dk) (s data : ByteArray) : Int × Dk :=
  if D.asked [s] ≠ 0 then (D.asked [s], D) else match getL D.m s with
  | none => (22, D)
  | some f => if 1048576 < f.data.size + data.size then (2, D) else if 0 ≤ D.quota ∧ data.size ≠ 0 ∧ D.quota < (used D.m : Int) + data.size then (24, D) else D.act (fun m => setL m s ⟨f.data ++ data, f.syn⟩)
def Dk.sync (D : Dk) (s : ByteArray) : Int × Dk :=
  if D.asked [s] ≠ 0 then (D.asked [s], D) else match getL D.m s with
  | none => (22, D)
  | some f => D.act (fun m => setL m s ⟨f.data, f.data.size⟩)
def Dk.rename (D : Dk) (s t : ByteArray) : Int × Dk :=
  if D.asked [s, t] ≠ 0 then (D.asked [s, t], D) else match getL D.m s with
  | none => (22, D)
  | some f => D.act (fun m => setL (delL m s) t f)
def Dk.remove (D : Dk) (s : ByteArray) : Int × Dk :=
  if D.asked [s] ≠ 0 then (D.asked [s], D) else match getL D.m s with
  | none => (22, D)
  | some _ => D.act (fun m => delL m s)
def Dk.read (D : Dk) (s : ByteArray) : ByteArray × Int :=
  if D.asked [s] ≠ 0 then (ByteArray.empty, D.asked [s]) else match getL D.m s with
  | none => (ByteArray.empty, 22)
  | some f => (f.data, 0)
def Dk.list (D : Dk) (p : ByteArray) : List ByteArray := if D.on then D.names.filter (fun s => p.data.toList.isPrefixOf s.data.toList) else []
def Dk.restore (D : Dk) : Dk := { D with on := true }
def Dk.setQuota (D : Dk) (n : Int) : Dk := { D with quota := max n (-1) }
def Dk.setFuse (D : Dk) (n : Int) (cuts : List Int) (flip : Int) : Dk := { D with fuse := if 0 ≤ n then some ⟨n.toNat, cuts, flip⟩ else none }

/-- What a disk can be. -/
structure Dk.Ok (D : Dk) : Prop where
  nam : ∀ p ∈ D.m, p.1.size ≤ 64
  syn : ∀ p ∈ D.m, p.2.syn ≤ p.2.data.size ∧ p.2.data.size ≤ 1048576
  few : D.m.length ≤ 20000
  acts : D.acts ≤ 1000000
  quota : -1 ≤ D.quota ∧ D.quota ≤ 9223372036854775807
  fuse : ∀ z, D.fuse = some z → z.n ≤ 9223372036854775807 ∧ z.cuts.length ≤ 1000000

theorem getL_mem {K V : Type} [DecidableEq K] {m : List (K × V)} {a : K} {v : V} (h : getL m a = some v) : (a, v) ∈ m := by
  unfold getL at h
  obtain ⟨p, hp, rfl⟩ := Option.map_eq_some_iff.1 h
  have h1 := List.find?_some hp
  have h2 := List.mem_of_find?_eq_some hp
  obtain rfl : p.1 = a := by simpa using h1
  exact h2
theorem setL_mem {K V : Type} [DecidableEq K] {m : List (K × V)} {a : K} {v : V} {p : K × V} (h : p ∈ setL m a v) : p = (a, v) ∨ p ∈ m := by
  unfold setL at h
  split at h
  · obtain ⟨q, hq, rfl⟩ := List.mem_map.1 h
    split
    · exact .inl rfl
    · exact .inr hq
  · rcases List.mem_append.1 h with h | h
    · exact .inr h
    · exact .inl (List.mem_singleton.1 h)
theorem delL_mem {K V : Type} [DecidableEq K] {m : List (K × V)} {a : K} {p : K × V} (h : p ∈ delL m a) : p ∈ m := (List.mem_filter.1 h).1
theorem setL_length {K V : Type} [DecidableEq K] {m : List (K × V)} {a : K} {v : V} : (setL m a v).length ≤ m.length + 1 ∧ ((getL m a).isSome = true → (setL m a v).length = m.length) := by
  unfold setL
  split
  · simp
  · rename_i h
    refine ⟨by simp, fun h2 => ?_⟩
    obtain ⟨u, hu⟩ := Option.isSome_iff_exists.1 h2
    exact absurd (List.any_eq_true.2 ⟨_, getL_mem hu, by simp⟩) h
theorem get_set {K V : Type} [DecidableEq K] (m : List (K × V)) (a b : K) (v : V) : getL (setL m a v) b = if a = b then some v else getL m b := by
  unfold setL
  split
  · rename_i h
    induction m with
    | nil => simp at h
    | cons p m ih =>
      rw [List.map_cons]
      by_cases hp : p.1 = a
      · rw [if_pos hp]
        by_cases hab : a = b
        · simp [getL, hab]
        · rw [if_neg hab]
          have hpb : p.1 ≠ b := fun e => hab (hp.symm.trans e)
          simp only [getL, List.find?_cons, hab, hpb, decide_false]
          by_cases h2 : m.any (fun p => decide (p.1 = a)) = true
          · have := ih h2
            rw [if_neg hab] at this
            exact this
          · have : m.map (fun p => if p.1 = a then (a, v) else p) = m := by
              conv => rhs; rw [← List.map_id m]
              refine List.map_congr_left (fun q hq => ?_)
              have : q.1 ≠ a := fun e => h2 (List.any_eq_true.2 ⟨q, hq, by simpa using e⟩)
              simp [this]
            rw [this]
      · rw [if_neg hp]
        have h2 : m.any (fun p => decide (p.1 = a)) = true := by simpa [hp] using h
        by_cases hpb : p.1 = b
        · have hab : a ≠ b := fun e => hp (hpb.trans e.symm)
          simp [getL, hpb, hab]
        · have := ih h2
          simp only [getL, List.find?_cons, hpb, decide_false] at this ⊢
          exact this
  · rename_i h
    by_cases hab : a = b
    · subst hab
      have : m.find? (fun p => decide (p.1 = a)) = none := List.find?_eq_none.2 (fun q hq e => h (List.any_eq_true.2 ⟨q, hq, e⟩))
      simp [getL, List.find?_append, this]
    · rw [if_neg hab]
      unfold getL
      rw [List.find?_append]
      cases m.find? (fun p => decide (p.1 = b)) <;> simp [hab]
theorem get_del {K V : Type} [DecidableEq K] (m : List (K × V)) (a b : K) : getL (delL m a) b = if a = b then none else getL m b := by
  unfold getL delL
  rw [List.find?_filter]
  by_cases hab : a = b
  · subst hab
    rw [if_pos rfl, Option.map_eq_none_iff, List.find?_eq_none]
    intro p _
    by_cases h : p.1 = a <;> simp [h]
  · rw [if_neg hab]
    congr 2
    funext p
    by_cases h : p.1 = b
    · have : p.1 ≠ a := fun e => hab (e.symm.trans h)
      simp [h, Ne.symm hab]
    · simp [h]

theorem keep_le (f : Fl) (cut : Int) (h : f.syn ≤ f.data.size) : f.syn + keep f cut ≤ f.data.size := by unfold keep; omega
theorem spoil_len (l : List UInt8) (flip : Int) : (spoil l flip).length = l.length := by simp [spoil]
theorem kept_len (f : Fl) (cut flip : Int) (h : f.syn ≤ f.data.size) : (kept f cut flip).length = f.syn + keep f cut := by
  have h1 := keep_le f cut h
  have h2 : f.data.data.toList.length = f.data.size := by simp
  unfold kept
  split
  · rw [spoil_len, List.length_take]; omega
  · rw [List.length_take]; omega

theorem crashL_ok {cuts : List Int} {flip : Int} : ∀ (l : List ByteArray) (i : Nat) (m : Fm), (∀ p ∈ m, p.2.syn ≤ p.2.data.size ∧ p.2.data.size ≤ 1048576) →
    (∀ p ∈ crashL cuts flip l i m, p.2.syn ≤ p.2.data.size ∧ p.2.data.size ≤ 1048576) ∧ (crashL cuts flip l i m).length = m.length
  | [], _, _, h => ⟨h, rfl⟩
  | a :: l, i, m, h => by
    unfold crashL
    cases hg : getL m a with
    | none => exact crashL_ok l (i + 1) m h
    | some f =>
      have hf : f.syn ≤ f.data.size ∧ f.data.size ≤ 1048576 := h _ (getL_mem hg)
      have h1 := crashL_ok (cuts := cuts) (flip := flip) l (i + 1) (setL m a (cutF f (cutAt cuts i) flip)) (fun p hp => by
        rcases setL_mem hp with rfl | hp
        · have := kept_len f (cutAt cuts i) flip hf.1
          have := keep_le f (cutAt cuts i) hf.1
          have e : (cutF f (cutAt cuts i) flip).data.size = (kept f (cutAt cuts i) flip).length := rfl
          show (kept f (cutAt cuts i) flip).length ≤ (cutF f (cutAt cuts i) flip).data.size ∧ (cutF f (cutAt cuts i) flip).data.size ≤ 1048576
          omega
        · exact h p hp)
      exact ⟨h1.1, h1.2.trans (setL_length.2 (by simp [hg]))⟩
theorem crashL_nam {cuts : List Int} {flip : Int} : ∀ (l : List ByteArray) (i : Nat) (m : Fm), (∀ p ∈ m, p.1.size ≤ 64) → ∀ p ∈ crashL cuts flip l i m, p.1.size ≤ 64
  | [], _, _, h => h
  | a :: l, i, m, h => by
    unfold crashL
    cases hg : getL m a with
    | none => exact crashL_nam l (i + 1) m h
    | some f => exact crashL_nam l (i + 1) _ (fun p hp => by
        rcases setL_mem hp with rfl | hp
        · exact h (a, f) (getL_mem hg)
        · exact h p hp)
theorem Dk.Ok.crash {D : Dk} (h : D.Ok) (cuts : List Int) (flip : Int) : (D.crash cuts flip).Ok := by
  unfold Dk.crash
  split
  · have := crashL_ok (cuts := cuts) (flip := flip) D.names 0 D.m h.syn
    exact ⟨crashL_nam _ _ _ h.nam, this.1, by rw [this.2]; exact h.few, h.acts, h.quota, h.fuse⟩
  · exact h

theorem insB_perm (a : ByteArray) : ∀ l, (insB a l).Perm (a :: l)
  | [] => .refl _
  | b :: l => by
    unfold insB
    split
    · exact .refl _
    · exact ((insB_perm a l).cons b).trans (.swap a b l)
theorem sortB_perm : ∀ l, (sortB l).Perm l
  | [] => .refl _
  | a :: l => (insB_perm a (sortB l)).trans ((sortB_perm l).cons a)
theorem leqB_total (a b : ByteArray) : leqB a b = true ∨ leqB b a = true := by
  have := cmp_neg a.data.toList b.data.toList
  simp only [leqB, decide_eq_true_eq]
  omega
theorem leqB_trans {a b c : ByteArray} (h1 : leqB a b = true) (h2 : leqB b c = true) : leqB a c = true := by
  simp only [leqB, decide_eq_true_eq] at h1 h2 ⊢
  exact (cmp_trans _ _ _ h1 h2).1
theorem leqB_anti {a b : ByteArray} (h1 : leqB a b = true) (h2 : leqB b a = true) : a = b := by
  simp only [leqB, decide_eq_true_eq] at h1 h2
  have h := cmp_neg a.data.toList b.data.toList
  have h3 := cmp_zero a.data.toList b.data.toList (by omega)
  cases a with | mk a => cases b with | mk b =>
  have : a = b := Array.toList_inj.1 h3
  rw [this]
theorem insB_sorted (a : ByteArray) : ∀ l : List ByteArray, l.Pairwise (fun x y => leqB x y = true) → (insB a l).Pairwise (fun x y => leqB x y = true)
  | [], _ => by simp [insB]
  | b :: l, h => by
    obtain ⟨h1, h2⟩ := List.pairwise_cons.1 h
    unfold insB
    split
    · rename_i hab
      refine List.pairwise_cons.2 ⟨fun x hx => ?_, h⟩
      rcases List.mem_cons.1 hx with rfl | hx
      · exact hab
      · exact leqB_trans hab (h1 x hx)
    · rename_i hab
      refine List.pairwise_cons.2 ⟨fun x hx => ?_, insB_sorted a l h2⟩
      rcases List.mem_cons.1 ((insB_perm a l).mem_iff.1 hx) with rfl | hx
      · exact (leqB_total x b).resolve_left hab
      · exact h1 x hx
theorem sortB_sorted : ∀ l, (sortB l).Pairwise (fun x y => leqB x y = true)
  | [] => List.Pairwise.nil
  | a :: l => insB_sorted a _ (sortB_sorted l)
theorem sorted_unique : ∀ {l₁ l₂ : List ByteArray}, l₁.Perm l₂ → l₁.Pairwise (fun x y => leqB x y = true) → l₂.Pairwise (fun x y => leqB x y = true) → l₁ = l₂
  | [], l₂, hp, _, _ => (List.nil_perm.1 hp).symm ▸ rfl
  | a :: l, [], hp, _, _ => by have := hp.length_eq; simp at this
  | a :: l, b :: r, hp, h1, h2 => by
    obtain ⟨a1, a2⟩ := List.pairwise_cons.1 h1
    obtain ⟨b1, b2⟩ := List.pairwise_cons.1 h2
    have hab : a = b := by
      rcases List.mem_cons.1 (hp.mem_iff.1 (List.mem_cons_self)) with h | h
      · exact h
      · rcases List.mem_cons.1 (hp.mem_iff.2 (List.mem_cons_self (a := b) (l := r))) with h' | h'
        · exact h'.symm
        · exact leqB_anti (a1 b h') (b1 a h)
    subst hab
    rw [sorted_unique ((List.perm_cons a).1 hp) a2 b2]
theorem sortB_eq {l l' : List ByteArray} (hp : l'.Perm l) (hs : l'.Pairwise (fun x y => leqB x y = true)) : l' = sortB l := sorted_unique (hp.trans (sortB_perm l).symm) hs (sortB_sorted l)
end Go.Proofs.YtceamkcaokdgaaaGreatDoor
/-
  Two lists of files that say the same: the program's and the document's. Plain.
-/
namespace Go.Proofs.YtceamkcaokdgaaaGreatDoor
open Go.RowKit Go.Lib

abbrev keysN (m : Fm) : Prop := (m.map (·.1)).Nodup
/-- Two lists that say the same of each name. -/
structure Eqm (m r : Fm) : Prop where
  nm : keysN m
  nr : keysN r
  get : ∀ a, getL m a = getL r a

theorem getL_none {m : Fm} {a : ByteArray} (h : getL m a = none) : ∀ p ∈ m, p.1 ≠ a := by
  unfold getL at h
  rw [Option.map_eq_none_iff, List.find?_eq_none] at h
  intro p hp e
  exact h p hp (by simpa using e)
theorem getL_of_mem {m : Fm} (hn : keysN m) {a : ByteArray} {f : Fl} (h : (a, f) ∈ m) : getL m a = some f := by
  induction m with
  | nil => simp at h
  | cons p m ih =>
    obtain ⟨h1, h2⟩ := List.nodup_cons.1 hn
    by_cases hp : p.1 = a
    · have hpf : p = (a, f) := by
        rcases List.mem_cons.1 h with e | e
        · exact e.symm
        · exact absurd (List.mem_map.2 ⟨(a, f), e, hp.symm⟩) h1
      unfold getL
      rw [List.find?_cons_of_pos (by simpa using hp), hpf]
      rfl
    · have hm : (a, f) ∈ m := by
        rcases List.mem_cons.1 h with e | e
        · exact absurd (by rw [← e]) hp
        · exact e
      have := ih h2 hm
      unfold getL at this ⊢
      rw [List.find?_cons_of_neg (by simpa using hp)]
      exact this
theorem keysN_del {m : Fm} (hn : keysN m) (a : ByteArray) : keysN (delL m a) := by
  unfold keysN delL
  exact List.Nodup.sublist (List.Sublist.map _ List.filter_sublist) hn
theorem keysN_set {m : Fm} (hn : keysN m) (a : ByteArray) (v : Fl) : keysN (setL m a v) := by
  unfold keysN setL
  split
  · rename_i h
    rw [List.map_map]
    have e : m.map ((fun p : ByteArray × Fl => p.1) ∘ fun p => if p.1 = a then (a, v) else p) = m.map (·.1) := by
      refine List.map_congr_left (fun p _ => ?_)
      simp only [Function.comp]
      split
      · rename_i hp; exact hp.symm
      · rfl
    rw [e]
    exact hn
  · rename_i h
    rw [List.map_append, List.map_cons, List.map_nil]
    refine List.nodup_append.2 ⟨hn, by simp, ?_⟩
    intro x hx y hy e
    rw [List.mem_singleton] at hy
    subst hy
    subst e
    obtain ⟨p, hp, hpx⟩ := List.mem_map.1 hx
    exact h (List.any_eq_true.2 ⟨p, hp, by simpa using hpx⟩)
theorem perm_del {m : Fm} (hn : keysN m) {a : ByteArray} {f : Fl} (h : (a, f) ∈ m) : m.Perm ((a, f) :: delL m a) := by
  induction m with
  | nil => simp at h
  | cons p m ih =>
    obtain ⟨h1, h2⟩ := List.nodup_cons.1 hn
    by_cases hp : p.1 = a
    · have hpf : p = (a, f) := by
        rcases List.mem_cons.1 h with e | e
        · exact e.symm
        · exact absurd (List.mem_map.2 ⟨(a, f), e, hp.symm⟩) h1
      have hd : delL (p :: m) a = m := by
        unfold delL
        rw [List.filter_cons_of_neg (by simpa using hp)]
        refine List.filter_eq_self.2 (fun q hq => ?_)
        have : q.1 ≠ a := fun e => h1 (List.mem_map.2 ⟨q, hq, e.trans hp.symm⟩)
        simpa using this
      rw [hd, hpf]
    · have hm : (a, f) ∈ m := by
        rcases List.mem_cons.1 h with e | e
        · exact absurd (by rw [← e]) hp
        · exact e
      have hd : delL (p :: m) a = p :: delL m a := by
        unfold delL
        rw [List.filter_cons_of_pos (by simpa using hp)]
      rw [hd]
      exact ((ih h2 hm).cons p).trans (.swap _ _ _)
theorem Eqm.perm : ∀ {m r : Fm}, Eqm m r → m.Perm r
  | [], r, h => by
    cases r with
    | nil => exact .refl _
    | cons p r =>
      have := h.get p.1
      rw [getL_of_mem h.nr (a := p.1) (f := p.2) (List.mem_cons_self)] at this
      simp [getL] at this
  | (a, f) :: m, r, h => by
    obtain ⟨h1, h2⟩ := List.nodup_cons.1 h.nm
    have hg : getL r a = some f := by rw [← h.get a]; exact getL_of_mem h.nm (List.mem_cons_self)
    have hp := perm_del h.nr (getL_mem hg)
    refine List.Perm.trans ?_ hp.symm
    refine (Eqm.perm ⟨h2, keysN_del h.nr a, fun b => ?_⟩).cons _
    rw [get_del]
    by_cases hab : a = b
    · subst hab
      rw [if_pos rfl]
      cases hm : getL m a with
      | none => rfl
      | some g => exact absurd (List.mem_map.2 ⟨_, getL_mem hm, rfl⟩) h1
    · rw [if_neg hab, ← h.get b]
      unfold getL
      rw [List.find?_cons_of_neg (by simpa using hab)]
theorem Eqm.len {m r : Fm} (h : Eqm m r) : m.length = r.length := h.perm.length_eq
theorem used_perm {m r : Fm} (h : m.Perm r) : used m = used r := by
  unfold used
  induction h with
  | nil => rfl
  | cons x _ ih => simp only [List.map_cons, List.sum_cons, ih]
  | swap x y l => simp only [List.map_cons, List.sum_cons]; omega
  | trans _ _ ih1 ih2 => exact ih1.trans ih2
theorem Eqm.used {m r : Fm} (h : Eqm m r) : Go.Proofs.YtceamkcaokdgaaaGreatDoor.used m = Go.Proofs.YtceamkcaokdgaaaGreatDoor.used r := used_perm h.perm
theorem Eqm.names {m r : Fm} (h : Eqm m r) : sortB (m.map (·.1)) = sortB (r.map (·.1)) :=
  sorted_unique ((sortB_perm _).trans ((h.perm.map _).trans (sortB_perm _).symm)) (sortB_sorted _) (sortB_sorted _)
theorem Eqm.set {m r : Fm} (h : Eqm m r) (a : ByteArray) (v : Fl) : Eqm (setL m a v) (setL r a v) :=
  ⟨keysN_set h.nm a v, keysN_set h.nr a v, fun b => by rw [get_set, get_set, h.get b]⟩
theorem Eqm.del {m r : Fm} (h : Eqm m r) (a : ByteArray) : Eqm (delL m a) (delL r a) :=
  ⟨keysN_del h.nm a, keysN_del h.nr a, fun b => by rw [get_del, get_del, h.get b]⟩
theorem Eqm.crash {cuts : List Int} {flip : Int} : ∀ (l : List ByteArray) (i : Nat) {m r : Fm}, Eqm m r → Eqm (crashL cuts flip l i m) (crashL cuts flip l i r)
  | [], _, _, _, h => h
  | a :: l, i, m, r, h => by
    unfold crashL
    rw [h.get a]
    cases getL r a with
    | none => exact Eqm.crash l (i + 1) h
    | some f => exact Eqm.crash l (i + 1) (h.set a _)

/-- The name s is t from now on (the document's way: at its place). -/
def nameL (r : Fm) (s t : ByteArray) : Fm := r.map (fun p => if p.1 = s then (t, p.2) else p)
theorem get_name {r : Fm} {s t : ByteArray} (ht : s = t ∨ getL r t = none) (b : ByteArray) : getL (nameL r s t) b = if b = t then getL r s else if b = s then none else getL r b := by
  induction r with
  | nil => simp [nameL, getL]
  | cons p r ih =>
    have ht2 : s = t ∨ getL r t = none := by
      rcases ht with h | h
      · exact .inl h
      · refine .inr ?_
        have := getL_none h
        unfold getL
        rw [Option.map_eq_none_iff, List.find?_eq_none]
        intro q hq e
        exact this q (List.mem_cons_of_mem _ hq) (by simpa using e)
    have hpt : s = t ∨ p.1 ≠ t := ht.imp id (fun h => getL_none h p (List.mem_cons_self))
    have ih := ih ht2
    have e : nameL (p :: r) s t = (if p.1 = s then (t, p.2) else p) :: nameL r s t := rfl
    rw [e]
    have cons : ∀ (q : ByteArray × Fl) (l : Fm) (x : ByteArray), getL (q :: l) x = if q.1 = x then some q.2 else getL l x := by
      intro q l x
      unfold getL
      by_cases h : q.1 = x
      · rw [List.find?_cons_of_pos (by simpa using h), if_pos h]; rfl
      · rw [List.find?_cons_of_neg (by simpa using h), if_neg h]
    rw [cons, cons, cons, ih]
    by_cases hs : p.1 = s
    · rw [if_pos hs]
      by_cases hb : b = t
      · subst hb; simp [hs]
      · have hb' : ¬ t = b := fun e => hb e.symm
        simp only [hb', hb, if_false]
        by_cases hbs : b = s
        · simp [hbs]
        · have : ¬ p.1 = b := fun e => hbs (e.symm.trans hs)
          simp [hbs, this]
    · rw [if_neg hs]
      by_cases hb : b = t
      · subst hb
        have hpb : ¬ p.1 = b := by
          rcases hpt with h | h
          · rw [← h]; exact hs
          · exact h
        simp [hpb, hs]
      · simp only [hb, if_false]
        by_cases hbs : b = s
        · subst hbs; simp [hs]
        · simp [hbs]
theorem keysN_name {r : Fm} {s t : ByteArray} (hn : keysN r) (ht : s = t ∨ getL r t = none) : keysN (nameL r s t) := by
  induction r with
  | nil => exact List.Pairwise.nil
  | cons p r ih =>
    obtain ⟨h1, h2⟩ := List.nodup_cons.1 hn
    have ht2 : s = t ∨ getL r t = none := by
      rcases ht with h | h
      · exact .inl h
      · refine .inr ?_
        have := getL_none h
        unfold getL
        rw [Option.map_eq_none_iff, List.find?_eq_none]
        intro q hq e
        exact this q (List.mem_cons_of_mem _ hq) (by simpa using e)
    have ih := ih h2 ht2
    show (((if p.1 = s then (t, p.2) else p) :: nameL r s t).map (·.1)).Nodup
    rw [List.map_cons]
    refine List.nodup_cons.2 ⟨fun hx => ?_, ih⟩
    obtain ⟨q, hq, hqe⟩ := List.mem_map.1 hx
    obtain ⟨q0, hq0, rfl⟩ := List.mem_map.1 hq
    have hpt : s = t ∨ p.1 ≠ t := ht.imp id (fun h => getL_none h p (List.mem_cons_self))
    have hqt : s = t ∨ q0.1 ≠ t := ht.imp id (fun h => getL_none h q0 (List.mem_cons_of_mem _ hq0))
    have hne : q0.1 ≠ p.1 := fun e => h1 (List.mem_map.2 ⟨q0, hq0, e⟩)
    by_cases hps : p.1 = s
    · by_cases hqs : q0.1 = s
      · exact hne (hqs.trans hps.symm)
      · simp only [hps, hqs, if_true, if_false] at hqe
        rcases hqt with h | h
        · exact hqs (hqe.trans h.symm)
        · exact h hqe
    · by_cases hqs : q0.1 = s
      · simp only [hps, hqs, if_true, if_false] at hqe
        rcases hpt with h | h
        · exact hps (hqe.symm.trans h.symm)
        · exact h hqe.symm
      · simp only [hps, hqs, if_false] at hqe
        exact hne hqe
/-- The document's rename. -/
def renameR (r : Fm) (s t : ByteArray) : Fm := nameL (if s = t then r else delL r t) s t
theorem Eqm.rename {m r : Fm} (h : Eqm m r) {s t : ByteArray} {f : Fl} (hs : getL m s = some f) : Eqm (setL (delL m s) t f) (renameR r s t) := by
  have hs' : getL r s = some f := by rw [← h.get s]; exact hs
  by_cases hst : s = t
  · subst hst
    unfold renameR
    rw [if_pos rfl]
    refine ⟨keysN_set (keysN_del h.nm s) _ _, keysN_name h.nr (.inl rfl), fun b => ?_⟩
    rw [get_set, get_del, get_name (.inl rfl)]
    by_cases hb : s = b
    · subst hb; simp [hs']
    · have hb' : ¬ b = s := fun e => hb e.symm
      simp [hb, hb', h.get b]
  · unfold renameR
    rw [if_neg hst]
    have hn : getL (delL r t) t = none := by rw [get_del, if_pos rfl]
    refine ⟨keysN_set (keysN_del h.nm s) _ _, keysN_name (keysN_del h.nr t) (.inr hn), fun b => ?_⟩
    rw [get_set, get_del, get_name (.inr hn), get_del, get_del]
    by_cases hbt : t = b
    · subst hbt
      have : ¬ t = s := fun e => hst e.symm
      simp [this, hs']
    · have hbt' : ¬ b = t := fun e => hbt e.symm
      by_cases hbs : s = b
      · subst hbs; simp [hbt, hbt']
      · have hbs' : ¬ b = s := fun e => hbs e.symm
        simp [hbt, hbt', hbs, hbs', h.get b]
end Go.Proofs.YtceamkcaokdgaaaGreatDoor
/-
  The program's disk and the document's: they say the same, and each act leaves them so. Plain.
-/
namespace Go.Proofs.YtceamkcaokdgaaaGreatDoor
open Go.RowKit Go.Lib

/-- Two disks that say the same. -/
structure Sim (D R : Dk) : Prop where
  e : Eqm D.m R.m
  on : D.on = R.on
  quota : D.quota = R.quota
  fuse : D.fuse = R.fuse
  acts : D.acts = R.acts
def Dk.renameD (D : Dk) (s t : ByteArray) : Int × Dk :=
  if D.asked [s, t] ≠ 0 then (D.asked [s, t], D) else match getL D.m s with
  | none => (22, D)
  | some _ => D.act (fun m => renameR m s t)
variable {D R : Dk} {s t data : ByteArray}
theorem Sim.asked (h : Sim D R) (l : List ByteArray) : D.asked l = R.asked l := by unfold Dk.asked; rw [h.on]
theorem Sim.names (h : Sim D R) : D.names = R.names := h.e.names
theorem Sim.used (h : Sim D R) : Go.Proofs.YtceamkcaokdgaaaGreatDoor.used D.m = Go.Proofs.YtceamkcaokdgaaaGreatDoor.used R.m := h.e.used
theorem Sim.len (h : Sim D R) : D.m.length = R.m.length := h.e.len
theorem Sim.list (h : Sim D R) (p : ByteArray) : D.list p = R.list p := by unfold Dk.list; rw [h.on, h.names]
theorem Sim.crash (h : Sim D R) (cuts : List Int) (flip : Int) : Sim (D.crash cuts flip) (R.crash cuts flip) := by
  unfold Dk.crash
  rw [h.on]
  split
  · refine ⟨?_, rfl, h.quota, h.fuse, h.acts⟩
    show Eqm (crashL cuts flip D.names 0 D.m) (crashL cuts flip R.names 0 R.m)
    rw [h.names]
    exact Eqm.crash _ _ h.e
  · exact h
theorem Sim.act (h : Sim D R) (f g : Fm → Fm) (hfg : Eqm (f D.m) (g R.m)) : (D.act f).1 = (R.act g).1 ∧ Sim (D.act f).2 (R.act g).2 := by
  have hz := h.fuse
  unfold Dk.act
  rw [hz]
  cases R.fuse with
  | none => exact ⟨rfl, hfg, h.on, h.quota, rfl, by show D.acts + 1 = R.acts + 1; rw [h.acts]⟩
  | some z =>
    obtain ⟨n, cuts, flip⟩ := z
    cases n with
    | zero => exact ⟨rfl, Sim.crash (D := { D with fuse := none }) (R := { R with fuse := none }) ⟨h.e, h.on, h.quota, rfl, h.acts⟩ cuts flip⟩
    | succ n => exact ⟨rfl, hfg, h.on, h.quota, rfl, by show D.acts + 1 = R.acts + 1; rw [h.acts]⟩
theorem Sim.create (h : Sim D R) (s : ByteArray) : (D.create s).1 = (R.create s).1 ∧ Sim (D.create s).2 (R.create s).2 := by
  unfold Dk.create
  rw [h.asked, h.e.get, h.len]
  split
  · exact ⟨rfl, h⟩
  · split
    · exact ⟨rfl, h⟩
    · split
      · exact ⟨rfl, h⟩
      · exact h.act _ _ (h.e.set _ _)
theorem Sim.app (h : Sim D R) (s data : ByteArray) : (D.app s data).1 = (R.app s data).1 ∧ Sim (D.app s data).2 (R.app s data).2 := by
  unfold Dk.app
  rw [h.asked, h.e.get, h.quota, h.used]
  split
  · exact ⟨rfl, h⟩
  · cases getL R.m s with
    | none => exact ⟨rfl, h⟩
    | some f =>
      simp only
      split
      · exact ⟨rfl, h⟩
      · split
        · exact ⟨rfl, h⟩
        · exact h.act _ _ (h.e.set _ _)
theorem Sim.sync (h : Sim D R) (s : ByteArray) : (D.sync s).1 = (R.sync s).1 ∧ Sim (D.sync s).2 (R.sync s).2 := by
  unfold Dk.sync
  rw [h.asked, h.e.get]
  split
  · exact ⟨rfl, h⟩
  · cases getL R.m s with
    | none => exact ⟨rfl, h⟩
    | some f => exact h.act _ _ (h.e.set _ _)
theorem Sim.remove (h : Sim D R) (s : ByteArray) : (D.remove s).1 = (R.remove s).1 ∧ Sim (D.remove s).2 (R.remove s).2 := by
  unfold Dk.remove
  rw [h.asked, h.e.get]
  split
  · exact ⟨rfl, h⟩
  · cases getL R.m s with
    | none => exact ⟨rfl, h⟩
    | some f => exact h.act _ _ (h.e.del _)
theorem Sim.rename (h : Sim D R) (s t : ByteArray) : (D.rename s t).1 = (R.renameD s t).1 ∧ Sim (D.rename s t).2 (R.renameD s t).2 := by
  unfold Dk.rename Dk.renameD
  rw [h.asked]
  split
  · exact ⟨rfl, h⟩
  · cases hg : getL D.m s with
    | none => rw [h.e.get] at hg; rw [hg]; exact ⟨rfl, h⟩
    | some f =>
      have hg2 := hg
      rw [h.e.get] at hg2
      rw [hg2]
      exact h.act _ _ (h.e.rename hg)
theorem Sim.read (h : Sim D R) (s : ByteArray) : D.read s = R.read s := by
  unfold Dk.read
  rw [h.asked, h.e.get]
theorem Sim.restore (h : Sim D R) : Sim D.restore R.restore := ⟨h.e, rfl, h.quota, h.fuse, h.acts⟩
theorem Sim.setQuota (h : Sim D R) (n : Int) : Sim (D.setQuota n) (R.setQuota n) := ⟨h.e, h.on, rfl, h.fuse, h.acts⟩
theorem Sim.setFuse (h : Sim D R) (n : Int) (cuts : List Int) (flip : Int) : Sim (D.setFuse n cuts flip) (R.setFuse n cuts flip) := ⟨h.e, h.on, h.quota, rfl, h.acts⟩
theorem Sim.ok (h : Sim D R) (hd : D.Ok) : R.Ok := by
  have hp := h.e.perm
  refine ⟨fun p hm => hd.nam p (hp.mem_iff.2 hm), fun p hm => hd.syn p (hp.mem_iff.2 hm), by rw [← h.len]; exact hd.few, by rw [← h.acts]; exact hd.acts, by rw [← h.quota]; exact hd.quota, fun z hz => hd.fuse z (by rw [h.fuse]; exact hz)⟩
/-- Each act counts by one at most, and lays one file more at most. -/
theorem act_acts (D : Dk) (f : Fm → Fm) : (D.act f).2.acts ≤ D.acts + 1 := by
  unfold Dk.act
  cases D.fuse with
  | none => exact Nat.le_refl _
  | some z =>
    obtain ⟨n, cuts, flip⟩ := z
    cases n with
    | zero => unfold Dk.crash; simp only; split <;> exact Nat.le_succ _
    | succ n => exact Nat.le_refl _
theorem Dk.Ok.nodup (_ : D.Ok) : True := trivial
end Go.Proofs.YtceamkcaokdgaaaGreatDoor
/-
  A list of files by numbers, and by names; two sorted lists laid together. Plain.
-/
namespace Go.Proofs.YtceamkcaokdgaaaGreatDoor
open Go.RowKit Go.Lib

/-- The number of the file of a name. -/
def atN (m : Fm) (s : ByteArray) : Nat := m.findIdx (fun p => decide (p.1 = s))
def atI (m : Fm) (s : ByteArray) : Int := if atN m s < m.length then (atN m s : Int) else -1
variable {m : Fm} {s t a : ByteArray} {f v : Fl} {i : Nat}
theorem atN_le (m : Fm) (s : ByteArray) : atN m s ≤ m.length := List.findIdx_le_length
theorem atN_at (h : atN m s < m.length) : m[atN m s].1 = s := by
  have := List.findIdx_getElem (xs := m) (p := fun p : ByteArray × Fl => decide (p.1 = s)) (w := h)
  exact of_decide_eq_true this
theorem atN_lt (hi : i < atN m s) (hl : i < m.length) : m[i].1 ≠ s := by
  have := List.not_of_lt_findIdx (xs := m) (p := fun p : ByteArray × Fl => decide (p.1 = s)) hi
  simpa using this
theorem atN_of (hi : i < m.length) (hs : m[i].1 = s) (hb : ∀ j (hj : j < m.length), j < i → m[j].1 ≠ s) : atN m s = i := by
  rcases Nat.lt_trichotomy (atN m s) i with h | h | h
  · exact absurd (atN_at (by omega)) (hb _ (by omega) h)
  · exact h
  · exact absurd hs (atN_lt h hi)
theorem atN_none (hb : ∀ j (hj : j < m.length), m[j].1 ≠ s) : atN m s = m.length := by
  rcases Nat.lt_or_ge (atN m s) m.length with h | h
  · exact absurd (atN_at h) (hb _ h)
  · have := atN_le m s; omega
theorem getL_at (h : atN m s < m.length) : getL m s = some m[atN m s].2 := by
  unfold getL
  have e : m.find? (fun p => decide (p.1 = s)) = some m[atN m s] := by
    rw [List.find?_eq_some_iff_getElem]
    refine ⟨by simpa using atN_at h, atN m s, h, rfl, fun j hj => ?_⟩
    have := atN_lt hj (by omega)
    simpa using this
  rw [e]
  rfl
theorem getL_no (h : ¬ atN m s < m.length) : getL m s = none := by
  have h2 : atN m s = m.length := by have := atN_le m s; omega
  unfold getL
  rw [Option.map_eq_none_iff, List.find?_eq_none]
  intro p hp e
  obtain ⟨j, hj, rfl⟩ := List.mem_iff_getElem.1 hp
  exact atN_lt (s := s) (by omega) hj (by simpa using e)
theorem nodup_at (hn : keysN m) {i j : Nat} (hi : i < m.length) (hj : j < m.length) (h : m[i].1 = m[j].1) : i = j := by
  have h2 : (m.map (·.1))[i]'(by simpa using hi) = (m.map (·.1))[j]'(by simpa using hj) := by simpa using h
  exact (List.getElem_inj hn).1 h2
theorem setL_at (hn : keysN m) (h : atN m s < m.length) (v : Fl) : setL m s v = m.set (atN m s) (s, v) := by
  have ha := atN_at h
  unfold setL
  rw [if_pos (List.any_eq_true.2 ⟨m[atN m s], List.getElem_mem h, by simpa using ha⟩)]
  apply List.ext_getElem
  · simp
  · intro j h1 h2
    rw [List.getElem_map, List.getElem_set]
    have hj : j < m.length := by simpa using h1
    by_cases e : atN m s = j
    · subst e
      rw [if_pos rfl, if_pos ha]
    · rw [if_neg e, if_neg (fun h3 => e (nodup_at hn h hj (ha.trans h3.symm)))]
theorem setL_no (h : ¬ atN m s < m.length) (v : Fl) : setL m s v = m ++ [(s, v)] := by
  unfold setL
  rw [if_neg]
  intro e
  obtain ⟨p, hp, h2⟩ := List.any_eq_true.1 e
  exact getL_none (getL_no h) p hp (by simpa using h2)
theorem delL_at (hn : keysN m) (h : atN m s < m.length) : delL m s = m.take (atN m s) ++ m.drop (atN m s + 1) := by
  have ha := atN_at h
  unfold delL
  conv => lhs; rw [← List.take_append_drop (atN m s) m]
  rw [List.filter_append, List.drop_eq_getElem_cons h, List.filter_cons_of_neg (by simpa using ha)]
  congr 1
  · refine List.filter_eq_self.2 (fun p hp => ?_)
    obtain ⟨j, hj, rfl⟩ := List.mem_iff_getElem.1 hp
    rw [List.length_take] at hj
    rw [List.getElem_take]
    have := atN_lt (m := m) (s := s) (i := j) (by omega) (by omega)
    simpa using this
  · refine List.filter_eq_self.2 (fun p hp => ?_)
    obtain ⟨j, hj, rfl⟩ := List.mem_iff_getElem.1 hp
    rw [List.length_drop] at hj
    rw [List.getElem_drop]
    have : m[atN m s + 1 + j].1 ≠ s := fun e => by
      have := nodup_at hn h (by omega) (ha.trans e.symm)
      omega
    simpa using this
theorem nameL_at (hn : keysN m) (h : atN m s < m.length) (t : ByteArray) : nameL m s t = m.set (atN m s) (t, m[atN m s].2) := by
  have ha := atN_at h
  unfold nameL
  apply List.ext_getElem
  · simp
  · intro j h1 h2
    rw [List.getElem_map, List.getElem_set]
    have hj : j < m.length := by simpa using h1
    by_cases e : atN m s = j
    · subst e
      rw [if_pos rfl, if_pos ha]
    · rw [if_neg e, if_neg (fun h3 => e (nodup_at hn h hj (ha.trans h3.symm)))]
theorem atN_del (hs : s ≠ t) (h : atN m s < m.length) : atN (delL m t) s < (delL m t).length := by
  have hg : getL (delL m t) s = some m[atN m s].2 := by rw [get_del, if_neg (fun e => hs e.symm), getL_at h]
  rcases Nat.lt_or_ge (atN (delL m t) s) (delL m t).length with h2 | h2
  · exact h2
  · rw [getL_no (by omega)] at hg; cases hg
theorem used_take_succ (m : Fm) (i : Nat) (hi : i < m.length) : used (m.take (i + 1)) = used (m.take i) + m[i].2.data.size := by
  unfold used
  rw [List.take_succ_eq_append_getElem hi, List.map_append, List.sum_append]
  simp
theorem rused_le (m : Fm) (h : ∀ p ∈ m, p.2.syn ≤ p.2.data.size ∧ p.2.data.size ≤ 1048576) : ∀ i, used (m.take i) ≤ 1048576 * i
  | 0 => by simp [used]
  | i + 1 => by
    have ih := rused_le m h i
    by_cases hi : i < m.length
    · rw [used_take_succ m i hi]
      have := (h m[i] (List.getElem_mem hi)).2
      omega
    · rw [List.take_of_length_le (by omega)]
      rw [List.take_of_length_le (by omega)] at ih
      omega

/-- Two sorted lists laid together. -/
abbrev mrg (x y : List ByteArray) : List ByteArray := List.merge x y leqB
theorem mrg_sort (a b : List ByteArray) : mrg (sortB a) (sortB b) = sortB (a ++ b) := by
  refine sortB_eq ?_ ?_
  · exact (List.merge_perm_append _).trans ((sortB_perm a).append (sortB_perm b))
  · exact List.pairwise_merge (le := leqB) (fun a b c h1 h2 => leqB_trans h1 h2) (fun a b => by rw [Bool.or_eq_true]; exact leqB_total a b) _ _ (sortB_sorted a) (sortB_sorted b)
theorem mrg_left {x y : List ByteArray} {i k : Nat} (hi : i < x.length) (h : k < y.length → leqB x[i] (y[k]?.getD ByteArray.empty) = true) : mrg (x.drop i) (y.drop k) = x[i] :: mrg (x.drop (i + 1)) (y.drop k) := by
  rw [List.drop_eq_getElem_cons hi]
  rcases Nat.lt_or_ge k y.length with hk | hk
  · have h2 := h hk
    rw [List.getElem?_eq_getElem hk, Option.getD_some] at h2
    rw [List.drop_eq_getElem_cons hk]
    unfold mrg
    rw [List.cons_merge_cons, if_pos h2]
  · rw [List.drop_eq_nil_of_le hk]
    unfold mrg
    rw [List.merge_right, List.merge_right]
theorem mrg_right {x y : List ByteArray} {i k : Nat} (hk : k < y.length) (h : i < x.length → leqB (x[i]?.getD ByteArray.empty) y[k] = false) : mrg (x.drop i) (y.drop k) = y[k] :: mrg (x.drop i) (y.drop (k + 1)) := by
  rw [List.drop_eq_getElem_cons hk]
  rcases Nat.lt_or_ge i x.length with hi | hi
  · have h2 := h hi
    rw [List.getElem?_eq_getElem hi, Option.getD_some] at h2
    rw [List.drop_eq_getElem_cons hi]
    unfold mrg
    rw [List.cons_merge_cons, if_neg (by rw [h2]; decide)]
  · rw [List.drop_eq_nil_of_le hi]
    unfold mrg
    rw [List.nil_merge, List.nil_merge]
end Go.Proofs.YtceamkcaokdgaaaGreatDoor
