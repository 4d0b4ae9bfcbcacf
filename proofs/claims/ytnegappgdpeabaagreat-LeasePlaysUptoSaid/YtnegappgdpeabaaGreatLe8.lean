import Derived.Test.YtnegappgdpeabaaGreatLe7
set_option linter.unusedSimpArgs false
set_option linter.unusedVariables false
/-
  LeasePlays: what the document's leases are and become, plain.
-/
namespace Go.Proofs.YtnegappgdpeabaaGreat
open Go.RowKit
variable {m : Lm} {last now : Int}

abbrev Cr := Int × List Int × Int
theorem rise_eq : ∀ {L M : List Cr}, L.Pairwise (fun a b => a.1 < b.1) → M.Pairwise (fun a b => a.1 < b.1) → (∀ c, c ∈ L ↔ c ∈ M) → L = M
  | [], [], _, _, _ => rfl
  | [], b :: M, _, _, h => absurd ((h b).2 List.mem_cons_self) (by simp)
  | a :: L, [], _, _, h => absurd ((h a).1 List.mem_cons_self) (by simp)
  | a :: L, b :: M, h1, h2, h => by
    rw [List.pairwise_cons] at h1 h2
    have hab : a = b := by
      rcases List.mem_cons.1 ((h a).1 List.mem_cons_self) with e | e
      · exact e
      · rcases List.mem_cons.1 ((h b).2 List.mem_cons_self) with e2 | e2
        · exact e2.symm
        · have := h1.1 b e2
          have := h2.1 a e
          omega
    subst hab
    have : L = M := rise_eq h1.2 h2.2 (fun c => ⟨fun hc => by
      rcases List.mem_cons.1 ((h c).1 (List.mem_cons_of_mem _ hc)) with e | e
      · subst e
        have := h1.1 c hc
        omega
      · exact e, fun hc => by
      rcases List.mem_cons.1 ((h c).2 (List.mem_cons_of_mem _ hc)) with e | e
      · subst e
        have := h2.1 c hc
        omega
      · exact e⟩)
    rw [this]
theorem sortZ_rise {l : List Int} (h : l.Nodup) : (sortZ l).Pairwise (· < ·) := by
  have h1 : (sortZ l).Pairwise (fun a b => decide (a ≤ b) = true) := List.pairwise_mergeSort (fun a b c h1 h2 => by simp at h1 h2 ⊢; omega) (fun a b => by simp; omega) l
  have h2 : (sortZ l).Pairwise (fun a b => a ≠ b) := (List.mergeSort_perm l _).nodup_iff.2 h
  exact (h1.and h2).imp (fun h => by have := of_decide_eq_true h.1; have := h.2; omega)
theorem sortM_ids (h : LOk m last) : (sortM m).map (·.id) = sortZ (m.map (·.1)) := by
  unfold sortM
  have key : ∀ l : List Int, (∀ k ∈ l, k ∈ m.map (·.1)) → (l.filterMap (getL m)).map (·.id) = l := by
    intro l
    induction l with
    | nil => intro _; rfl
    | cons k l ih =>
      intro hl
      obtain ⟨x, hx, hm⟩ := getL_some (hl k List.mem_cons_self)
      rw [List.filterMap_cons_some hx, List.map_cons, ih (fun j hj => hl j (List.mem_cons_of_mem _ hj)), h.id _ hm]
  exact key _ (fun k hk => sortZ_mem.1 hk)

/-- The program's leases, and the document's. -/
structure Sm (m : Lm) (L : List Cr) : Prop where
  rise : L.Pairwise (fun a b => a.1 < b.1)
  mem : ∀ c, c ∈ L ↔ ∃ p ∈ m, core p.2 = c
theorem Sm.sort {L : List Cr} (h : Sm m L) (hk : LOk m last) (hn : (m.map (·.1)).Nodup) : (sortM m).map core = L := by
  refine rise_eq ?_ h.rise (fun c => ?_)
  · have h1 := sortZ_rise hn
    rw [← sortM_ids hk, List.pairwise_map] at h1
    rw [List.pairwise_map]
    exact h1
  · rw [h.mem, List.mem_map]
    constructor
    · rintro ⟨x, hx, rfl⟩
      obtain ⟨p, hp, rfl⟩ := (sortM_mem hn).1 hx
      exact ⟨p, hp, rfl⟩
    · rintro ⟨p, hp, rfl⟩
      exact ⟨p.2, (sortM_mem hn).2 ⟨p, hp, rfl⟩, rfl⟩
theorem sm_sort (hk : LOk m last) (hn : (m.map (·.1)).Nodup) : Sm m ((sortM m).map core) := by
  refine ⟨?_, fun c => ?_⟩
  · have h1 := sortZ_rise hn
    rw [← sortM_ids hk, List.pairwise_map] at h1
    rw [List.pairwise_map]
    exact h1
  · rw [List.mem_map]
    constructor
    · rintro ⟨x, hx, rfl⟩
      obtain ⟨p, hp, rfl⟩ := (sortM_mem hn).1 hx
      exact ⟨p, hp, rfl⟩
    · rintro ⟨p, hp, rfl⟩
      exact ⟨p.2, (sortM_mem hn).2 ⟨p, hp, rfl⟩, rfl⟩
theorem sm_nil : Sm [] [] := ⟨List.Pairwise.nil, fun c => by simp⟩
theorem Sm.no {L : List Cr} (h : Sm m L) (hk : LOk m last) {id : Int} (hg : getL m id = none) : ∀ c ∈ L, c.1 ≠ id := by
  intro c hc e
  obtain ⟨p, hp, rfl⟩ := (h.mem c).1 hc
  have e2 : p.1 = id := (hk.id p hp).symm.trans e
  obtain ⟨x, hx, _⟩ := getL_some (List.mem_map.2 ⟨p, hp, e2⟩)
  rw [hg] at hx
  cases hx
theorem Sm.yes {L : List Cr} (h : Sm m L) (hk : LOk m last) {id : Int} {x : Lv} (hg : getL m id = some x) : core x ∈ L ∧ (core x).1 = id :=
  ⟨(h.mem _).2 ⟨_, getL_in hg, rfl⟩, hk.id _ (getL_in hg)⟩
def liveC (now : Int) (L : List Cr) : List Cr := L.filter (fun c => decide (now < c.2.2))
theorem Sm.live {L : List Cr} (h : Sm m L) (now : Int) : Sm (live now m) (liveC now L) := by
  refine ⟨h.rise.filter _, fun c => ?_⟩
  unfold liveC Go.Proofs.YtnegappgdpeabaaGreat.live
  rw [List.mem_filter, h.mem]
  constructor
  · rintro ⟨⟨p, hp, rfl⟩, h2⟩
    exact ⟨p, List.mem_filter.2 ⟨hp, h2⟩, rfl⟩
  · rintro ⟨p, hp, rfl⟩
    obtain ⟨h1, h2⟩ := List.mem_filter.1 hp
    exact ⟨⟨p, h1, rfl⟩, h2⟩
theorem Sm.add {L : List Cr} (h : Sm m L) {n : Int} {x : Lv} {c : Cr} (hx : core x = c) (hn : ∀ d ∈ L, d.1 < c.1) : Sm (m ++ [(n, x)]) (L ++ [c]) := by
  refine ⟨List.pairwise_append.2 ⟨h.rise, List.pairwise_singleton _ _, fun a ha b hb => by rw [List.mem_singleton.1 hb]; exact hn a ha⟩, fun d => ?_⟩
  rw [List.mem_append, h.mem, List.mem_singleton]
  constructor
  · rintro (⟨p, hp, rfl⟩ | rfl)
    · exact ⟨p, List.mem_append_left _ hp, rfl⟩
    · exact ⟨_, List.mem_append_right _ (List.mem_singleton.2 rfl), hx⟩
  · rintro ⟨p, hp, rfl⟩
    rcases List.mem_append.1 hp with hp | hp
    · exact .inl ⟨p, hp, rfl⟩
    · rw [List.mem_singleton.1 hp]
      exact .inr hx
def delC (id : Int) (L : List Cr) : List Cr := L.filter (fun c => decide (c.1 ≠ id))
theorem Sm.del {L : List Cr} (h : Sm m L) (hk : LOk m last) (id : Int) : Sm (delL m id) (delC id L) := by
  refine ⟨h.rise.filter _, fun c => ?_⟩
  unfold delC delL
  rw [List.mem_filter, h.mem]
  constructor
  · rintro ⟨⟨p, hp, rfl⟩, h2⟩
    refine ⟨p, List.mem_filter.2 ⟨hp, ?_⟩, rfl⟩
    rw [← hk.id p hp]
    exact h2
  · rintro ⟨p, hp, rfl⟩
    obtain ⟨h1, h2⟩ := List.mem_filter.1 hp
    refine ⟨⟨p, h1, rfl⟩, ?_⟩
    rw [← hk.id p h1] at h2
    exact h2
def setC (id t : Int) (L : List Cr) : List Cr := L.map (fun c => if c.1 = id then (c.1, c.2.1, t) else c)
theorem setC_fst (id t : Int) (c : Cr) : (if c.1 = id then ((c.1, c.2.1, t) : Cr) else c).1 = c.1 := by split <;> rfl
theorem setC_rise {L : List Cr} (h : L.Pairwise (fun a b => a.1 < b.1)) (id t : Int) : (setC id t L).Pairwise (fun a b => a.1 < b.1) := by
  unfold setC
  rw [List.pairwise_map]
  refine h.imp (fun {a b} hab => ?_)
  rw [setC_fst, setC_fst]
  exact hab
theorem Sm.set {L : List Cr} (h : Sm m L) (hk : LOk m last) (hn : (m.map (·.1)).Nodup) {id t : Int} {x : Lv} (hg : getL m id = some x) : Sm (setL m id { x with till := t }) (setC id t L) := by
  have hin := getL_in hg
  have hany : m.any (fun p => decide (p.1 = id)) = true := List.any_eq_true.2 ⟨_, hin, decide_eq_true rfl⟩
  refine ⟨setC_rise h.rise id t, fun c => ?_⟩
  unfold setC setL
  rw [if_pos hany, List.mem_map]
  constructor
  · rintro ⟨d, hd, rfl⟩
    obtain ⟨p, hp, rfl⟩ := (h.mem d).1 hd
    refine ⟨_, List.mem_map.2 ⟨p, hp, rfl⟩, ?_⟩
    have e1 : (core p.2).1 = p.1 := hk.id p hp
    by_cases hpi : p.1 = id
    · have : getL m p.1 = some p.2 := getL_mem hn hp
      rw [hpi, hg] at this
      injection this with this
      rw [if_pos hpi, if_pos (e1.trans hpi), ← this]
      rfl
    · rw [if_neg hpi, if_neg (fun e => hpi (e1.symm.trans e))]
  · rintro ⟨q, hq, rfl⟩
    obtain ⟨p, hp, rfl⟩ := List.mem_map.1 hq
    refine ⟨core p.2, (h.mem _).2 ⟨p, hp, rfl⟩, ?_⟩
    have e1 : (core p.2).1 = p.1 := hk.id p hp
    by_cases hpi : p.1 = id
    · have : getL m p.1 = some p.2 := getL_mem hn hp
      rw [hpi, hg] at this
      injection this with this
      rw [if_pos hpi, if_pos (e1.trans hpi), ← this]
      rfl
    · rw [if_neg hpi, if_neg (fun e => hpi (e1.symm.trans e))]
theorem Sm.len {L : List Cr} (h : Sm m L) (hk : LOk m last) (hn : (m.map (·.1)).Nodup) : L.length = m.length := by
  have e := h.sort hk hn
  have h1 := congrArg List.length e
  have h2 := congrArg List.length (sortM_ids hk)
  rw [List.length_map] at h1 h2
  rw [sortZ_len, List.length_map] at h2
  omega

def findC (L : List Cr) (id : Int) : Option Cr := L.find? (fun c => decide (c.1 = id))
theorem findC_none {L : List Cr} {id : Int} (h : ∀ c ∈ L, c.1 ≠ id) : findC L id = none := List.find?_eq_none.2 (fun c hc => by simpa using h c hc)
theorem findC_some : ∀ {L : List Cr} {c : Cr} {id : Int}, L.Pairwise (fun a b => a.1 < b.1) → c ∈ L → c.1 = id → findC L id = some c
  | [], _, _, _, h, _ => by simp at h
  | d :: L, c, id, hr, h, e => by
    rw [List.pairwise_cons] at hr
    unfold findC
    rw [List.find?_cons]
    rcases List.mem_cons.1 h with rfl | h2
    · rw [decide_eq_true e]
    · rw [decide_eq_false (by have := hr.1 c h2; omega)]
      exact findC_some hr.2 h2 e
/-- What the calls answer, and what they leave. -/
def renC (L : List Cr) (id ttl now : Int) : Int × List Cr :=
  if rightB ttl now = false then (1, L) else match findC L id with
    | none => (22, L)
    | some c => if c.2.2 ≤ now then (51, L) else (0, setC id (max c.2.2 (tillZ ttl now)) L)
def relC (L : List Cr) (id now : Int) : Int × List Cr :=
  match findC L id with
    | none => (22, L)
    | some c => if c.2.2 ≤ now then (51, L) else (0, delC id L)
def acqB (L : List Cr) (vs : List Int) (ttl now : Int) : Int := if validB vs = false ∨ rightB ttl now = false then 1 else if 16 ≤ (liveC now L).length then 24 else 0
def meetC : List (List Int) → List Int → List Int
  | [], v => v
  | u :: l, v => if u.length = v.length then meetC l (meetV v u) else []
def meetD : List (List Int) → List Int
  | [] => []
  | v :: l => meetC l v
theorem meetC_eq {u v : List Int} {l : List (List Int)} (h : u.length = v.length) : meetC (u :: l) v = meetC l (meetV v u) := by
  show (if u.length = v.length then meetC l (meetV v u) else []) = _
  rw [if_pos h]
theorem meetC_no {u v : List Int} {l : List (List Int)} (h : ¬ u.length = v.length) : meetC (u :: l) v = [] := by
  show (if u.length = v.length then meetC l (meetV v u) else []) = _
  rw [if_neg h]
theorem meetC_len : ∀ (l : List (List Int)) (v : List Int), v.length ≤ 8 → (meetC l v).length ≤ 8
  | [], v, h => h
  | u :: l, v, h => by
    by_cases e : u.length = v.length
    · rw [meetC_eq e]
      refine meetC_len l _ ?_
      rw [meetV_len e.symm]
      exact h
    · rw [meetC_no e]
      exact Nat.zero_le _
theorem meetD_len (l : List (List Int)) (h : ∀ v ∈ l, v.length ≤ 8) : (meetD l).length ≤ 8 := by
  cases l with
  | nil => exact Nat.zero_le _
  | cons v l => exact meetC_len l v (h v List.mem_cons_self)
/-- Leases that can be put; their number is small. -/
def Fit (last : Int) (L : List Cr) : Prop := GoodL last L
theorem Fit.live {L : List Cr} (h : GoodL last L) (now : Int) : GoodL last (liveC now L) :=
  ⟨h.la, h.rise.filter _, fun c hc => h.each c (List.mem_filter.1 hc).1, Nat.le_trans (List.length_filter_le _ _) h.few⟩
theorem Fit.del {L : List Cr} (h : GoodL last L) (id : Int) : GoodL last (delC id L) :=
  ⟨h.la, h.rise.filter _, fun c hc => h.each c (List.mem_filter.1 hc).1, Nat.le_trans (List.length_filter_le _ _) h.few⟩
theorem Fit.set {L : List Cr} (h : GoodL last L) {id t : Int} (ht : 1 ≤ t ∧ t ≤ 281474976710656) : GoodL last (setC id t L) := by
  refine ⟨h.la, setC_rise h.rise id t, fun c hc => ?_, by unfold setC; rw [List.length_map]; exact h.few⟩
  obtain ⟨d, hd, rfl⟩ := List.mem_map.1 hc
  have := h.each d hd
  split
  · exact ⟨this.1, this.2.1, this.2.2.1, ht⟩
  · exact this
theorem Fit.add {L : List Cr} (h : GoodL last L) {vs : List Int} {t : Int} (hl : last < 72057594037927935) (hv : validB vs = true) (ht : 1 ≤ t ∧ t ≤ 281474976710656) (hf : L.length < 16) : GoodL (last + 1) (L ++ [(last + 1, vs, t)]) := by
  have hla := h.la
  refine ⟨by omega, List.pairwise_append.2 ⟨h.rise, List.pairwise_singleton _ _, fun a ha b hb => ?_⟩, fun c hc => ?_, by rw [List.length_append, List.length_singleton]; omega⟩
  · rw [List.mem_singleton.1 hb]
    have := (h.each a ha).2.1
    show a.1 < last + 1
    omega
  · rcases List.mem_append.1 hc with hc | hc
    · have := h.each c hc
      exact ⟨this.1, by have := this.2.1; omega, this.2.2⟩
    · rw [List.mem_singleton.1 hc]
      exact ⟨by show 1 ≤ last + 1; omega, Int.le_refl _, hv, ht⟩
theorem till_fit {ttl now : Int} (h : rightB ttl now = true) : 1 ≤ tillZ ttl now ∧ tillZ ttl now ≤ 281474976710656 := by
  have h1 : 1 ≤ ttl ∧ ttl ≤ 2147483647 ∧ 0 ≤ now ∧ now < 281474976710656 := by simpa [rightB] using h
  unfold tillZ
  omega
end Go.Proofs.YtnegappgdpeabaaGreat
/-
  LeasePlays: the program's calls, at leases in any state, told by the document's list.
-/
namespace Go.Proofs.YtnegappgdpeabaaGreat
open Go.RowKit
variable {w w' w0 w1 w2 w3 w4 : World} {mb lb B : Nat} {ob : Option Nat} {m : Lm} {last now : Int} {F G : Nat → Prop} {L : List Cr}

set_option maxRecDepth 100000 in
theorem each_ne {x y : Value} {a b : List Int} (hx : RdI w x a) (hy : RdI w y b) (hl : a.length ≠ b.length) :
    Calls Tryz.prog 154 #[x, y, .func (.func 155) #[] #[]] w fun e w' => e = .returned (.slice none 0 0) ∧ w' = w := by
  obtain ⟨a1, c1, rfl, -⟩ := hx
  obtain ⟨a2, c2, rfl, -⟩ := hy
  obtain ⟨n, hn⟩ : ∃ n, a.length = n := ⟨_, rfl⟩
  obtain ⟨k, hk⟩ : ∃ k, b.length = k := ⟨_, rfl⟩
  rw [hn, hk] at hl ⊢
  have t0 : ((n : Int) != (k : Int)) = true := by simp; omega
  have t0n : (n != k) = true := by simp; omega
  clear hn hk
  go_enter Tryz.func154, Tryz.ntmps154
  go_wp2
  go_ret
  exact ⟨rfl, rfl⟩
theorem meet_ne {x y : Value} {a b : List Int} (hx : RdI w x a) (hy : RdI w y b) (hl : a.length ≠ b.length) :
    Calls Tryz.prog 111 #[x, y] w fun e w' => e = .returned (.slice none 0 0) ∧ w' = w := by
  have hE := each_ne hx hy hl
  obtain ⟨a1, c1, rfl, -⟩ := hx
  obtain ⟨a2, c2, rfl, -⟩ := hy
  obtain ⟨n, hn⟩ : ∃ n, a.length = n := ⟨_, rfl⟩
  obtain ⟨k, hk⟩ : ∃ k, b.length = k := ⟨_, rfl⟩
  rw [hn, hk] at hE hl ⊢
  clear hn hk hl
  go_enter Tryz.func111, Tryz.ntmps111
  go_wp2_with (go_at_call 154; refine hE.mono ?_; rintro e w1 ⟨rfl, hw⟩; obtain rfl := hw.symm)
  go_ret
  exact ⟨rfl, rfl⟩

/-- How far Meet is. -/
def MeetAt (V : List (List Int)) (i : Nat) (v : Value) (w : World) (B : Nat) : Prop := (i = 0 ∧ v = .slice none 0 0) ∨ ∃ cur, 1 ≤ i ∧ (1 ≤ cur.length ∧ cur.length ≤ 8) ∧ meetD V = meetC (V.drop i) cur ∧ Own eVec w B v cur
set_option maxRecDepth 100000 in
set_option maxHeartbeats 2000000 in
theorem meetG_any (h : LsAt w lb ob m last) : Calls Tryz.prog 26 #[.pointer (some ⟨lb, 0, none⟩)] w fun e w' =>
    ∃ v, e = .returned v ∧ Own eVec w' w.heap.size v (meetD ((sortM m).map (·.vs))) ∧ Below w.heap.size w w' := by
  have hL := list_any h
  obtain ⟨n, hn⟩ : ∃ n, m.length = n := ⟨_, rfl⟩
  rw [hn] at hL
  have hq := qVec
  have hn16 : n ≤ 16 := by have := h.ok.few; omega
  have hks : ∀ x ∈ sortM m, 1 ≤ x.vs.length ∧ x.vs.length ≤ 8 := fun x hx => by
    obtain ⟨p, hp, rfl⟩ := (sortM_mem h.nodup).1 hx
    have := h.ok.vec p hp
    simp only [validB, Bool.and_eq_true, decide_eq_true_eq] at this
    exact this.1
  have HK := Lib.hid hks
  clear h hn hks
  go_enter Tryz.func26, Tryz.ntmps26
  go_wp2_with (go_at_call 39; refine hL.mono ?_; rintro e w1 ⟨la, lc, L, rfl, hLc, hLl, hLo, hb1⟩; have hvs := core_vs hLc; have H1 := Lib.hid (And.intro hvs (And.intro hLl (And.intro hLo hb1))); clear hLc hLl hLo hb1 hvs)
  have hvk : ∀ a ∈ L.map (·.vs), 1 ≤ a.length ∧ a.length ≤ 8 := by
    rw [H1.out.1]
    intro a ha
    obtain ⟨x, hx, rfl⟩ := List.mem_map.1 ha
    exact HK.out x hx
  have HV := Lib.hid hvk
  clear hvk
  go_loopw [3, 4, 5, 9] (fun v _ _ iv wr => ∃ i : Nat, i ≤ n ∧ iv = .int .i64 (i : Int) ∧ MeetAt (L.map (·.vs)) i v wr w.heap.size ∧ Below w1.heap.size w1 wr) (fun _ _ _ iv _ => n - (intOf iv).toNat)
  case atStart => exact ⟨0, by omega, rfl, .inl ⟨rfl, rfl⟩, Below.refl _ _⟩
  case round =>
    obtain ⟨i, hi, rfl, hma, hb⟩ := hrel
    have hLw := H1.out.2.2.1.below hb
    have HB := Lib.hid hb
    by_cases hlt : i < n
    · have hil : i < L.length := by rw [H1.out.2.1]; exact hlt
      have hdr : (L.map (·.vs)).drop i = L[i].vs :: (L.map (·.vs)).drop (i + 1) := by rw [List.drop_eq_getElem_cons (by rw [List.length_map]; exact hil), List.getElem_map]
      have hxo := (hLw.2 L[i] (List.getElem_mem hil)).1
      have hxk : 1 ≤ L[i].vs.length ∧ L[i].vs.length ≤ 8 := HV.out _ (List.mem_map.2 ⟨L[i], List.getElem_mem hil, rfl⟩)
      obtain ⟨g, rfl, hg, d0, d1, d2⟩ := hLw.get hil
      obtain ⟨x, hx⟩ : ∃ x, L[i] = x := ⟨_, rfl⟩
      rw [hx] at d0 d1 d2 hdr hxo hxk
      obtain ⟨xi, xa, xc, xv, xt⟩ := x
      obtain ⟨k, hxk'⟩ : ∃ k, xv.length = k := ⟨_, rfl⟩
      have hxk : 1 ≤ xv.length ∧ xv.length ≤ 8 := hxk
      rw [hxk'] at hxk
      have d1' : wr.cell? ⟨g, i * 3 + 1, none⟩ = some (.slice xa k xc) := by rw [← hxk']; exact d1
      have d0' : wr.cell? ⟨g, i * 3, none⟩ = some (.int .i64 xi) := d0
      have d2' : wr.cell? ⟨g, i * 3 + 2, none⟩ = some (.int .i64 xt) := d2
      have hxo' : Own eVec wr w.heap.size (.slice xa xv.length xc) xv := hxo
      obtain ⟨W1, hW1⟩ : ∃ W1, wr.alloc (.cells #[.int .i64 xi, .slice xa k xc, .int .i64 xt] 65) = W1 := ⟨_, rfl⟩
      have hbW : Below wr.heap.size wr W1 := by rw [← hW1]; exact (Below.refl _ _).alloc (Nat.le_refl _) _
      have q0 : W1.cell? ⟨wr.heap.size, 0, none⟩ = some (.int .i64 xi) := by rw [← hW1]; simp [go_sem]
      have q1 : W1.cell? ⟨wr.heap.size, 1, none⟩ = some (.slice xa k xc) := by rw [← hW1]; simp [go_sem]
      have q2 : W1.cell? ⟨wr.heap.size, 2, none⟩ = some (.int .i64 xt) := by rw [← hW1]; simp [go_sem]
      have r1 : (i : Int) < (n : Int) := by omega
      have hxo1 : Own eVec W1 w.heap.size (.slice xa k xc) xv := by rw [← hxk']; exact row_below hxo' hbW
      have HX := Lib.hid (And.intro hdr (And.intro hbW (And.intro hxo1 hxk')))
      clear hdr hbW hx d0 d1 d2 hil hLw hxo hxo' hxk' hxo1
      rcases hma with ⟨hi0, rfl⟩ | ⟨cur, hi1, hc1, hmd, hown⟩
      · subst hi0
        go_wp2
        go_roundw
        case rel =>
          refine ⟨1, by omega, by go_num, .inr ⟨xv, Nat.le_refl _, by rw [HX.out.2.2.2]; exact hxk, ?_, ?_⟩, HB.out.trans (HX.out.2.1.mono HB.out.size)⟩
          · have h0 := HX.out.1
            rw [List.drop_zero] at h0
            conv => lhs; rw [h0]
            rfl
          · exact HX.out.2.2.1
        case measure => simp [intOf]; omega
      · have t0 : ((i : Int) == 0) = false := by simp; omega
        have t0' : ¬ (i : Int) = 0 := by omega
        have hown1 := row_below hown HX.out.2.1
        obtain ⟨va, vc, rfl, _, _⟩ := row_form hown
        have hr1 : RdI W1 (.slice va cur.length vc) cur := rdI_own hown1
        have hr2 : RdI W1 (.slice xa k xc) xv := rdI_own HX.out.2.2.1
        obtain ⟨cn, hcn⟩ : ∃ cn, cur.length = cn := ⟨_, rfl⟩
        have HC := Lib.hid (And.intro hcn (And.intro hmd hown))
        by_cases hkc : k = cn
        · subst hkc
          have hM := meet_any hr1 hr2 (by rw [hcn, HX.out.2.2.2]) (by rw [hcn]; omega)
          rw [hcn] at hM
          rw [hcn] at hc1
          clear hmd hown hown1 hr1 hr2 hcn
          simp only [HC.out.1]
          go_wp2_with (go_at_call 111; refine hM.mono ?_; rintro e w2 ⟨ao, ac, rfl, ho2, hb2⟩; obtain ⟨ag, rfl⟩ := own_some ho2 hc1.1; have H2 := Lib.hid (And.intro ho2 (HX.out.2.1.trans (hb2.mono HX.out.2.1.size))); clear ho2 hb2)
          go_roundw
          case rel =>
            have hml : (meetV cur xv).length = k := by rw [meetV_len (by rw [HC.out.1, HX.out.2.2.2])]; exact HC.out.1
            refine ⟨i + 1, by omega, by go_num, .inr ⟨meetV cur xv, by omega, by rw [hml]; exact hc1, ?_, ?_⟩, HB.out.trans (H2.out.2.mono HB.out.size)⟩
            · rw [HC.out.2.1, HX.out.1]
              exact meetC_eq (show xv.length = cur.length by rw [HC.out.1, HX.out.2.2.2])
            · exact row_mono H2.out.1 (B' := w.heap.size) (Nat.le_trans H1.out.2.2.2.size (Nat.le_trans HB.out.size HX.out.2.1.size))
          case measure => simp [intOf]; omega
        · have hM := meet_ne hr1 hr2 (by rw [hcn, HX.out.2.2.2]; exact fun e => hkc e.symm)
          rw [hcn] at hM
          clear hmd hown hown1 hr1 hr2 hcn
          simp only [HC.out.1]
          go_wp2_with (go_at_call 111; refine hM.mono ?_; rintro e w2 ⟨rfl, hw⟩; obtain rfl := hw.symm)
          go_ret
          refine ⟨_, rfl, ?_, H1.out.2.2.2.trans ((HB.out.trans (HX.out.2.1.mono HB.out.size)).mono H1.out.2.2.2.size)⟩
          rw [← H1.out.1, HC.out.2.1, HX.out.1, meetC_no (show ¬ xv.length = cur.length by rw [HC.out.1, HX.out.2.2.2]; exact hkc)]
          exact World.ownsRow_nil _ _ _ _
    · obtain rfl : i = n := by omega
      have hall : (L.map (·.vs)).drop i = [] := List.drop_eq_nil_of_le (by rw [List.length_map, H1.out.2.1]; exact Nat.le_refl _)
      rcases hma with ⟨hi0, rfl⟩ | ⟨cur, hi1, hc1, hmd, hown⟩
      · subst hi0
        have hL0 : L = [] := List.eq_nil_of_length_eq_zero H1.out.2.1
        have HL0 := Lib.hid hL0
        clear hLw hall hL0
        go_wp2
        go_ret
        rw [← H1.out.1, HL0.out]
        exact ⟨_, rfl, World.ownsRow_nil _ _ _ _, H1.out.2.2.2.trans (HB.out.mono H1.out.2.2.2.size)⟩
      · rw [hall] at hmd
        obtain ⟨va, vc, rfl, _, _⟩ := row_form hown
        have HO := Lib.hid (And.intro hmd hown)
        obtain ⟨cn, hcn⟩ : ∃ cn, cur.length = cn := ⟨_, rfl⟩
        rw [hcn] at HO ⊢
        clear hLw hmd hown hall hc1 hcn
        go_wp2
        go_ret
        rw [← H1.out.1, HO.out.1]
        exact ⟨_, rfl, HO.out.2, H1.out.2.2.2.trans (HB.out.mono H1.out.2.2.2.size)⟩

/-- The program's leases, and what the document says of them; F: blocks that may turn. -/
structure PlAt (F : Nat → Prop) (w : World) (lb : Nat) (ob : Option Nat) (m : Lm) (last : Int) (L : List Cr) : Prop where
  a : LsAt w lb ob m last
  rd : ∀ p ∈ m, RdX F w p.2
  ft : ∀ q, foot lb ob q → F q
  sm : Sm m L
  fit : GoodL last L
theorem PlAt.srt (h : PlAt F w lb ob m last L) : (sortM m).map core = L := h.sm.sort h.a.ok h.a.nodup
theorem PlAt.vss (h : PlAt F w lb ob m last L) : (sortM m).map (·.vs) = L.map (·.2.1) := by
  rw [← h.srt, List.map_map]
  rfl
theorem PlAt.of (h : PlAt F w lb ob m last L) {m' : Lm} {L' : List Cr} (h2 : LsAt w' lb ob m' last) (ht : Tn G w w') (hG : ∀ q, q < w.heap.size → G q → F q) (hm : ∀ p ∈ m', ∃ p0 ∈ m, p0.2.vs = p.2.vs ∧ p0.2.sa = p.2.sa) (hs : Sm m' L') (hf : GoodL last L') : PlAt (fun q => F q ∨ w.heap.size ≤ q) w' lb ob m' last L' := by
  refine ⟨h2, fun p hp => ?_, fun q hq => .inl (h.ft q hq), hs, hf⟩
  obtain ⟨p0, h0, e1, e2⟩ := hm p hp
  have h3 := h.rd p0 h0
  unfold RdX at h3 ⊢
  rw [← e1, ← e2]
  refine h3.imp _root_.id ?_
  rintro ⟨b, off, ha, hf, hlt, hc⟩
  exact ⟨b, off, ha, fun e => e.elim hf (fun e => by omega), Nat.lt_of_lt_of_le hlt ht.size, fun i hi => ht.cell (hc i hi) (fun hg => hf (hG b hlt hg))⟩
/-- Blocks that may turn are others now. -/
theorem PlAt.re (h : PlAt F w lb ob m last L) (hF : ∀ q, q < w.heap.size → G q → F q) (hf : ∀ q, foot lb ob q → G q) : PlAt G w lb ob m last L := by
  refine ⟨h.a, fun p hp => (h.rd p hp).imp _root_.id ?_, hf, h.sm, h.fit⟩
  rintro ⟨b, off, ha, hf, hlt, hc⟩
  exact ⟨b, off, ha, fun e => hf (hF b hlt e), hlt, hc⟩
theorem PlAt.below (h : PlAt F w lb ob m last L) (hb : Below w.heap.size w w') : PlAt (fun q => F q ∨ w.heap.size ≤ q) w' lb ob m last L := h.of (G := fun _ => False) (h.a.below hb) (Tn.ofBelow hb) (fun _ _ e => e.elim) (fun p hp => ⟨p, hp, rfl, rfl⟩) h.sm h.fit
/-- What a call leaves. -/
def PStep (F : Nat → Prop) (w w' : World) (lb : Nat) (ob : Option Nat) (last : Int) (L' : List Cr) : Prop := ∃ m', PlAt (fun q => F q ∨ w.heap.size ≤ q) w' lb ob m' last L' ∧ Tn (foot lb ob) w w'
theorem PStep.stay (h : PlAt F w lb ob m last L) (hb : Below w.heap.size w w') : PStep F w w' lb ob last L := ⟨m, h.below hb, Tn.ofBelow hb⟩

theorem p_renew (h : PlAt F w lb ob m last L) (id ttl now : Int) : Calls Tryz.prog 10 #[.pointer (some ⟨lb, 0, none⟩), .int .i64 id, .int .i64 ttl, .int .i64 now] w fun e w' =>
    e = .returned (.int .i64 (renC L id ttl now).1) ∧ PStep F w w' lb ob last (renC L id ttl now).2 := by
  unfold renC
  cases hr : rightB ttl now with
  | false =>
    rw [if_pos rfl]
    exact (renew_arg lb id ttl now hr w).mono fun _ _ ⟨h1, h2⟩ => ⟨h1, .stay h (h2 ▸ Below.refl _ _)⟩
  | true =>
    rw [if_neg (by decide)]
    cases hg : getL m id with
    | none =>
      rw [findC_none (h.sm.no h.a.ok hg)]
      exact (renew_no lb id ttl now hr (.inl rfl) (there_none h.a id now hg)).mono fun _ _ ⟨h1, h2⟩ => ⟨h1, .stay h h2⟩
    | some x =>
      obtain ⟨hx1, hx2⟩ := h.sm.yes h.a.ok hg
      rw [findC_some h.sm.rise hx1 hx2]
      simp only
      by_cases hl : x.till ≤ now
      · rw [if_pos (show (core x).2.2 ≤ now from hl)]
        have hT := there_some h.a id now hg
        rw [if_pos hl] at hT
        exact (renew_no lb id ttl now hr (.inr rfl) hT).mono fun _ _ ⟨h1, h2⟩ => ⟨h1, .stay h h2⟩
      · rw [if_neg (show ¬ (core x).2.2 ≤ now from hl)]
        refine (renew_ok h.a id ttl now hg hr (by omega)).mono ?_
        rintro e w' ⟨h1, h2, h3⟩
        refine ⟨h1, _, h.of h2 h3 (fun q _ hq => h.ft q (.inr hq)) (fun p hp => ?_) (h.sm.set h.a.ok h.a.nodup hg) (Fit.set h.fit ?_), h3.mono (fun q hq => .inr hq)⟩
        · rcases setL_mem hp with rfl | ⟨hp, _⟩
          · exact ⟨_, getL_in hg, rfl, rfl⟩
          · exact ⟨p, hp, rfl, rfl⟩
        · have h4 := till_fit hr
          have h5 := (h.fit.each _ hx1).2.2.2
          show 1 ≤ max (core x).2.2 _ ∧ max (core x).2.2 _ ≤ _
          omega
theorem p_release (h : PlAt F w lb ob m last L) (id now : Int) : Calls Tryz.prog 12 #[.pointer (some ⟨lb, 0, none⟩), .int .i64 id, .int .i64 now] w fun e w' =>
    e = .returned (.int .i64 (relC L id now).1) ∧ PStep F w w' lb ob last (relC L id now).2 := by
  unfold relC
  cases hg : getL m id with
  | none =>
    rw [findC_none (h.sm.no h.a.ok hg)]
    exact (release_no lb id now (.inl rfl) (there_none h.a id now hg)).mono fun _ _ ⟨h1, h2⟩ => ⟨h1, .stay h h2⟩
  | some x =>
    obtain ⟨hx1, hx2⟩ := h.sm.yes h.a.ok hg
    rw [findC_some h.sm.rise hx1 hx2]
    simp only
    by_cases hl : x.till ≤ now
    · rw [if_pos (show (core x).2.2 ≤ now from hl)]
      have hT := there_some h.a id now hg
      rw [if_pos hl] at hT
      exact (release_no lb id now (.inr rfl) hT).mono fun _ _ ⟨h1, h2⟩ => ⟨h1, .stay h h2⟩
    · rw [if_neg (show ¬ (core x).2.2 ≤ now from hl)]
      refine (release_ok h.a id now hg (by omega)).mono ?_
      rintro e w' ⟨h1, h2, h3⟩
      exact ⟨h1, _, h.of h2 h3 (fun q _ hq => h.ft q (.inr hq)) (fun p hp => ⟨p, delL_mem hp, rfl, rfl⟩) (h.sm.del h.a.ok id) (Fit.del h.fit id), h3.mono (fun q hq => .inr hq)⟩
theorem p_expire (h : PlAt F w lb ob m last L) (now : Int) : Calls Tryz.prog 14 #[.pointer (some ⟨lb, 0, none⟩), .int .i64 now] w fun e w' =>
    ∃ a c, e = .returned (.slice a (expI now L).length c) ∧ Own eInt w' w.heap.size (.slice a (expI now L).length c) (expI now L) ∧ PStep F w w' lb ob last (liveC now L) := by
  refine (expire_any h.a now).mono ?_
  rintro e w' ⟨a, k, c, rfl, rfl, h2, h3, h4⟩
  rw [exp_live h.a.ok h.a.nodup] at h3
  rw [h.srt] at h2
  refine ⟨a, c, by rw [h.srt], h2, _, h.of h3 h4 (fun q _ hq => h.ft q (.inr hq)) (fun p hp => ⟨p, (List.mem_filter.1 hp).1, rfl, rfl⟩) (h.sm.live now) (Fit.live h.fit now), h4.mono (fun q hq => .inr hq)⟩
theorem p_get (h : PlAt F w lb ob m last L) (id : Int) : Calls Tryz.prog 18 #[.pointer (some ⟨lb, 0, none⟩), .int .i64 id] w fun e w' =>
    ((findC L id = none ∧ e = .returned (.tuple #[.agg #[.int .i64 0, .slice none 0 0, .int .i64 0], .int .i64 22])) ∨
      ∃ c a k, findC L id = some c ∧ e = .returned (.tuple #[.agg #[.int .i64 c.1, .slice a c.2.1.length k, .int .i64 c.2.2], .int .i64 0]) ∧ Own eVec w' w.heap.size (.slice a c.2.1.length k) c.2.1) ∧ Below w.heap.size w w' := by
  cases hg : getL m id with
  | none => exact (get_none h.a id hg).mono fun _ _ ⟨h1, h2⟩ => ⟨.inl ⟨findC_none (h.sm.no h.a.ok hg), h1⟩, h2⟩
  | some x =>
    obtain ⟨hx1, hx2⟩ := h.sm.yes h.a.ok hg
    exact (get_some h.a id hg).mono fun _ _ ⟨a, c, h1, h2, h3⟩ => ⟨.inr ⟨core x, a, c, findC_some h.sm.rise hx1 hx2, h1, h2⟩, h3⟩
theorem p_list (h : PlAt F w lb ob m last L) : Calls Tryz.prog 39 #[.pointer (some ⟨lb, 0, none⟩)] w fun e w' =>
    ∃ a c M, e = .returned (.slice a M.length c) ∧ M.map core = L ∧ LOwn w' w.heap.size (.slice a M.length c) M ∧ Sep M ∧ Below w.heap.size w w' :=
  (list_any2 h.a).mono fun _ _ ⟨a, c, M, h1, h2, h3, h4, h5, h6⟩ => ⟨a, c, M, by rw [h3]; exact h1, by rw [h2]; exact h.srt, by rw [h3]; exact h4, h6, h5⟩
theorem p_meet (h : PlAt F w lb ob m last L) : Calls Tryz.prog 26 #[.pointer (some ⟨lb, 0, none⟩)] w fun e w' =>
    ∃ v, e = .returned v ∧ Own eVec w' w.heap.size v (meetD (L.map (·.2.1))) ∧ Below w.heap.size w w' := by
  have := meetG_any h.a
  rw [h.vss] at this
  exact this
theorem p_put (h : PlAt F w lb ob m last L) : Calls Tryz.prog 22 #[.pointer (some ⟨lb, 0, none⟩)] w fun e w' => e = .returned (.string ⟨(putS last L).toArray⟩) ∧ Below w.heap.size w w' := by
  have := put_any2 h.a h.fit.la.2 (fun p hp => by
    have := (h.fit.each (core p.2) ((h.sm.mem _).2 ⟨p, hp, rfl⟩)).2.2.2
    have h2 : 1 ≤ p.2.till ∧ p.2.till ≤ 281474976710656 := this
    omega)
  rw [h.srt] at this
  exact this
theorem p_load (hg : GoodL last L) : Calls Tryz.prog 21 #[.string ⟨(putS last L).toArray⟩] w fun e w' =>
    ∃ lb mb m, e = .returned (.tuple #[.pointer (some ⟨lb, 0, none⟩), .int .i64 0]) ∧ (∀ F : Nat → Prop, (∀ q, F q → q < w.heap.size) → PlAt (fun q => F q ∨ q = lb ∨ q = mb) w' lb (some mb) m last L) ∧ w.heap.size ≤ lb ∧ w.heap.size ≤ mb ∧ Below w.heap.size w w' := by
  have hsz : (⟨(putS last L).toArray⟩ : ByteArray).size ≤ 9223372036854775807 := by
    rw [size_arr]
    have := putS_len last L (fun c hc => (hg.each c hc).2.2.1)
    have := hg.few
    omega
  refine (load_any _ w hsz).mono ?_
  rintro e w' ⟨hle, hb⟩
  have e0 : (⟨(putS last L).toArray⟩ : ByteArray).data.toList = putS last L := rfl
  rcases hle with ⟨_, hno⟩ | ⟨lb, mb, m, last', rfl, hls, hl1, hti, heq, h1, h2, h3⟩
  · exact absurd ⟨last, L, hg, e0⟩ hno
  · rw [e0] at heq
    have hm := sm_sort hls.ok hls.nodup
    have hg2 : GoodL last' ((sortM m).map core) := by
      refine ⟨⟨hls.ok.last.1, hl1⟩, hm.rise, fun c hc => ?_, by rw [hm.len hls.ok hls.nodup]; exact hls.ok.few⟩
      obtain ⟨p, hp, rfl⟩ := (hm.mem c).1 hc
      have h4 := hls.ok.key p hp
      have h5 : (core p.2).1 = p.1 := hls.ok.id p hp
      exact ⟨by omega, by omega, hls.ok.vec p hp, hti p hp⟩
    obtain ⟨e1, e2⟩ := putS_inj hg2 hg heq
    subst e1
    refine ⟨lb, mb, m, rfl, fun F hF => ⟨hls, fun p hp => (h3 p hp).imp id ?_, ?_, by rw [e2]; exact hm, hg⟩, h1, h2, hb⟩
    · rintro ⟨b, off, e3, e4, e5⟩
      refine ⟨b, off, e3, ?_, e5⟩
      rintro (e6 | e6 | e6)
      · exact e4 (.inl (hF b e6))
      · exact e4 (.inr (.inl e6))
      · exact e4 (.inr (.inr (by rw [e6])))
    · rintro q (e6 | e6)
      · exact .inr (.inl e6)
      · exact .inr (.inr (Option.some.inj e6).symm)

theorem acqB_arg {vs : List Int} {ttl : Int} (h : validB vs = false ∨ rightB ttl now = false) : acqB L vs ttl now = 1 := if_pos h
theorem p_acquire (h : PlAt F w lb ob m last L) (hF : ∀ q, F q → q < w.heap.size) (hl : last < 1000000) {xa : Option Addr} {xc : Nat} {vs : List Int} (hx : RdX (foot lb ob) w ⟨0, xa, xc, vs, 0⟩) (ttl now : Int) :
    Calls Tryz.prog 7 #[.pointer (some ⟨lb, 0, none⟩), .slice xa vs.length xc, .int .i64 ttl, .int .i64 now] w fun e w' =>
      (acqB L vs ttl now ≠ 0 ∧ e = .returned (.tuple #[.int .i64 0, .int .i64 (acqB L vs ttl now)]) ∧ Below w.heap.size w w') ∨
      (acqB L vs ttl now = 0 ∧ validB vs = true ∧ rightB ttl now = true ∧ e = .returned (.tuple #[.int .i64 (last + 1), .int .i64 0]) ∧
        ∃ mb m', PlAt (fun q => F q ∨ q = mb) w' lb (some mb) m' (last + 1) (liveC now L ++ [(last + 1, vs, tillZ ttl now)]) ∧ (ob = some mb ∨ w.heap.size ≤ mb) ∧ mb < w'.heap.size ∧ Tn (foot lb ob) w w') := by
  cases hv : validB vs with
  | false =>
    refine (acquire_arg1 lb hx.rd hv ttl now).mono ?_
    rintro e w' ⟨h1, rfl⟩
    rw [acqB_arg (.inl hv)]
    exact .inl ⟨by decide, h1, Below.refl _ _⟩
  | true =>
    cases hr : rightB ttl now with
    | false =>
      refine (acquire_arg2 lb hx.rd hv ttl now hr).mono ?_
      rintro e w' ⟨h1, rfl⟩
      rw [acqB_arg (.inr hr)]
      exact .inl ⟨by decide, h1, Below.refl _ _⟩
    | true =>
      have hA : Calls Tryz.prog 7 #[.pointer (some ⟨lb, 0, none⟩), .slice xa vs.length xc, .int .i64 ttl, .int .i64 now] w fun e w' =>
          (16 ≤ (live now m).length ∧ e = .returned (.tuple #[.int .i64 0, .int .i64 24]) ∧ Below w.heap.size w w') ∨
          ((live now m).length < 16 ∧ e = .returned (.tuple #[.int .i64 (last + 1), .int .i64 0]) ∧ AcqOk w w' lb ob m last now vs (tillZ ttl now)) := by
        have h0 := h.a
        cases ob with
        | none => exact acquire_go_none h0 hl hx hv ttl now hr
        | some mb => exact acquire_go_some h0 hl hx hv ttl now hr
      have hlv := h.sm.live now
      have hll : (liveC now L).length = (live now m).length := by
        refine hlv.len (last := last) ⟨fun p hp => h.a.ok.id p (List.mem_filter.1 hp).1, fun p hp => h.a.ok.key p (List.mem_filter.1 hp).1, fun p hp => h.a.ok.vec p (List.mem_filter.1 hp).1, h.a.ok.last, Nat.le_trans (List.length_filter_le _ _) h.a.ok.few⟩ ?_
        exact h.a.nodup.sublist ((List.filter_sublist).map _)
      have ha0 : acqB L vs ttl now = if 16 ≤ (live now m).length then 24 else 0 := by
        unfold acqB
        rw [if_neg (by rw [hv, hr]; simp), hll]
      rw [ha0]
      refine hA.mono ?_
      rintro e w' (⟨h1, h2, h3⟩ | ⟨h1, h2, mb, x, h3, h4, h5, h6, h7⟩)
      · rw [if_pos h1]
        exact .inl ⟨by decide, h2, h3⟩
      · rw [if_neg (by omega)]
        refine .inr ⟨rfl, rfl, rfl, h2, mb, _, ⟨h3, fun p hp => ?_, ?_, hlv.add h4 (fun d hd => ?_), Fit.add (Fit.live h.fit now) (by have := h.fit.la; omega) hv (till_fit hr) (by rw [hll]; exact h1)⟩, h5, h3.mp.lt rfl, h6⟩
        · rcases h3.rd p hp with e0 | ⟨b, off, e0, e1, e2⟩
          · exact .inl e0
          · refine .inr ⟨b, off, e0, ?_, e2⟩
            rintro (e3 | e3)
            · rcases List.mem_append.1 hp with hp | hp
              · rcases h.rd p (List.mem_filter.1 hp).1 with e4 | ⟨b', off', e4, e5, _⟩
                · have := h3.ok.vec p (List.mem_append_left _ hp)
                  rw [e4] at this
                  cases this
                · rw [e0] at e4
                  injection e4 with e4
                  injection e4 with e4
                  exact e5 (e4 ▸ e3)
              · rw [List.mem_singleton.1 hp] at e0
                have := h7 b off e0
                have := hF b e3
                omega
            · exact e1 (.inr (by rw [e3]))
        · rintro q (e1 | e1)
          · exact .inl (h.ft q (.inl e1))
          · exact .inr (Option.some.inj e1).symm
        · have := ((Fit.live h.fit now).each d hd).2.1
          show d.1 < last + 1
          omega
end Go.Proofs.YtnegappgdpeabaaGreat
