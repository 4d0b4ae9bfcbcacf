import Derived.Test.YtceamkcaokdgaaaGreatDoorDm3
import Derived.Test.YtceamkcaokdgaaaGreatDoorDm1
import Derived.Test.YtceamkcaokdgaaaGreatDoorGen
import Derived.Sort.OwnSorted
import Derived.Lib.OwnBridge
import Derived.Test.YtceamkcaokdgaaaGreatDoorMp
import Derived.Laws.BitsAllLaws
set_option linter.unusedSimpArgs false
set_option linter.unusedVariables false
/-
  Disk: the names, in order.
-/
namespace Go.Proofs.YtceamkcaokdgaaaGreatDoor
open Go.RowKit Go.Maps Go.Sort Go.Shelf
variable {F G : Nat → Prop} {w w' : World} {db mb : Nat} {D D' : Dk}

theorem compare_any (a b : ByteArray) (w : World) :
    Calls Tryz.prog 110 #[.string a, .string b] w fun e w' => e = .returned (.int .i64 (Lib.compareBytes a.data.toList b.data.toList)) ∧ w = w' := by
  go_enter Tryz.func110, Tryz.ntmps110
  go_wp2_with (go_at_call 160; refine (Tryz.strings_Compare _ _ _).mono ?_; rintro e w' ⟨rfl, rfl⟩)
  go_ret
  exact ⟨rfl, rfl⟩

/-- The map as the kit's words have it. -/
def dR : Value → Option (DataW Unit × List MemPlace) := fun _ => some (.agg [], [])
def dL (m : Fm) : List (Lit × DataW Unit) := m.map (fun p => (Lit.string p.1.data.toList, DataW.agg []))
theorem map_owns {m : Fm} (h : MapL ckN cvF w mb m) (hn : ∀ p ∈ m, p.1.size ≤ maxLen) (hl : m.length ≤ maxLen) : w.ownsMap Tryz.prog 9 dR mb m.length (.map ((dL m).foldr DataW.insert [])) := by
  obtain ⟨es, clock, hb, hs, he⟩ := h
  have hsz : es.size = m.length := by
    have := congrArg List.length he
    simpa [Ents] using this
  have hrd : ∀ x ∈ es.toList, ∃ s : ByteArray, x.key = .string s ∧ s.size ≤ maxLen := fun x hx => by
    have hm : (x.key, x.val) ∈ es.toList.map (fun x => (x.key, x.val)) := List.mem_map.2 ⟨x, hx, rfl⟩
    rw [he] at hm
    obtain ⟨p, hp, e⟩ := List.mem_map.1 hm
    simp only [Prod.mk.injEq] at e
    exact ⟨p.1, e.1.symm, hn p hp⟩
  have hkey : ∀ s : ByteArray, s.size ≤ maxLen → keyOf Tryz.prog 9 (.string s) = some (.string s.data.toList) := fun s hs => by
    simp [keyOf, mapKey, Tryz.underlying9, hs]
  have hrd2 : ∀ (x : MapEntry) (s : ByteArray), x.key = .string s → s.size ≤ maxLen → WideElems.rd Tryz.prog 9 dR x = some (.string s.data.toList, .agg []) := fun x s hx hs => by
    have := WideElems.rd_mk (P := Tryz.prog) (k := 9) (R := dR) (key := x.key) (val := x.val) (born := x.born) (by rw [hx]; exact hkey s hs) (yv := (DataW.agg [], [])) rfl
    exact this
  refine ⟨es, clock, hb, ⟨by rw [hsz]; exact hl, hs, fun x hx => ?_⟩, by rw [hsz]; exact Nat.le_refl _, ?_⟩
  · obtain ⟨s, h1, h2⟩ := hrd x hx
    exact ⟨_, hrd2 x s h1 h2⟩
  · congr 2
    unfold dL
    have h5 : es.toList.map (WideElems.rg Tryz.prog 9 dR) = (es.toList.map (fun x => (x.key, x.val))).map (fun p => (match p.1 with | .string s => (Lit.string s.data.toList, DataW.agg []) | _ => (Lit.bool false, DataW.nil))) := by
      rw [List.map_map]
      refine List.map_congr_left (fun x hx => ?_)
      obtain ⟨s, h1, h2⟩ := hrd x hx
      rw [WideElems.rg_of (hrd2 x s h1 h2)]
      simp [h1]
    rw [h5, he, List.map_map]
    rfl
theorem strKeys_dL (m : Fm) : (strKeys (.map ((dL m).foldr DataW.insert [])) : List (List UInt8)).Perm ((m.map (·.1)).map (·.data.toList)) := by
  have h := (WideShapes.sorted_perm (dL m)).map (fun p => strOf p.1)
  refine h.trans ?_
  unfold dL
  rw [List.map_map, List.map_map]
  exact .refl _

theorem keys_any (mb : Option Nat) (w : World) : Calls Tryz.prog 109 #[.map mb] w fun e w' =>
    e = .returned (.func (.func 159) #[] #[.pointer (some ⟨w.heap.size, 0, none⟩)]) ∧ w' = w.alloc (.cells #[.map mb] 62) :=
  (callsIn_wide (n := 5)).1 (AnyZ.keys_in Tryz.gl_keys Fence.wide 5 trivial rfl mb w)

theorem collect_any {m : Fm} {Bm : Nat} (h : MapL ckN cvF w mb m) (hn : ∀ p ∈ m, p.1.size ≤ 64) (hl : m.length ≤ 20000) (hB : w.cell? ⟨Bm, 0, none⟩ = some (.map (some mb))) :
    Calls Tryz.prog 157 #[.func (.func 159) #[] #[.pointer (some ⟨Bm, 0, none⟩)]] w fun e w' =>
      ∃ (v : Value) (ss : List (List UInt8)), e = .returned v ∧ ss.Perm ((m.map (·.1)).map (·.data.toList)) ∧ w'.ownsRow w.heap.size 9 1 v ss.length (ss.map encStr) ∧ (v = .slice none 0 0 ↔ ss = []) ∧ Below w.heap.size w w' := by
  have hown := map_owns h (fun p hp => by have := hn p hp; unfold maxLen; omega) (by unfold maxLen; omega)
  have hsz : Maps.size (DataW.map ((dL m).foldr DataW.insert []) : DataW Unit) = m.length := by
    show ((dL m).foldr DataW.insert []).length = m.length
    rw [length_sorted]; unfold dL; rw [List.length_map]
  have hseq : SeqGives Fence.wide 3 Tryz.prog 159 #[.pointer (some ⟨Bm, 0, none⟩)] encStr (fun ss => ss.Perm (strKeys (.map ((dL m).foldr DataW.insert []) : DataW Unit))) (Maps.size (DataW.map ((dL m).foldr DataW.insert []) : DataW Unit)) w :=
    AnyZ.keys_gives (ρ := Tryz.gl_keys_ren) { Tryz.gl_keys with } Fence.wide _ trivial rfl (by omega) Bm mb _ _ _ (World.block_lt_of_cell? _ _ hB) hB hown
  have hc := AnyZ.collect_in Tryz.gl_collect Fence.wide 5 trivial trivial rfl (by omega) 159 #[.pointer (some ⟨Bm, 0, none⟩)] trivial (enters_of Tryz.func159 (by kernel_rfl) rfl) _ _ (by rw [hsz]; unfold maxLen; omega) (by rw [hsz]; omega) w hseq
  refine ((callsIn_wide (n := 5)).1 hc).mono ?_
  rintro e w' ⟨v, ss, rfl, hp, hrow, hnil, hb⟩
  exact ⟨v, ss, rfl, hp.trans (strKeys_dL m), hrow, hnil, hb⟩

def cmpL (x y : List UInt8) : Int := Lib.compareBytes x y
theorem lt_t (x y : List UInt8) : ltOf cmpL x y = true ↔ Lib.compareBytes x y < 0 := decide_eq_true_iff
theorem lt_f (x y : List UInt8) : ltOf cmpL x y = false ↔ ¬ Lib.compareBytes x y < 0 := decide_eq_false_iff_not
theorem cmpL_swo : SWO (ltOf cmpL) := by
  refine ⟨fun x => ?_, fun x y z h1 h2 => ?_, fun x y z h1 h2 => ?_⟩
  · rw [lt_f, cmp_self]; omega
  · rw [lt_t] at h1 h2 ⊢
    exact (cmp_trans x y z (by omega) (by omega)).2 (.inl h1)
  · rw [lt_f] at h1 h2 ⊢
    have a1 := cmp_neg x y
    have a2 := cmp_neg y z
    have a3 := cmp_neg x z
    have := (cmp_trans z y x (by omega) (by omega)).1
    omega
theorem encStr_of (s : ByteArray) : encStr s.data.toList = .string s := by
  show Value.string ⟨s.data.toList.toArray⟩ = _
  rw [Lib.mk_data]
abbrev toB (l : List UInt8) : ByteArray := ⟨l.toArray⟩

theorem tT_info : (Tryz.prog.info? 9).map (fun i => (i.zero, i.size, i.bytes)) = some (some (.string ByteArray.empty), 1, 16) := by kernel_rfl
theorem eStr : Elm Tryz.prog 59 9 1 16 (fun s : ByteArray => [.string s]) where
  und := Tryz.underlying59
  info := by
    obtain ⟨i0, hi0, hz0, hs0, hy0⟩ := info_parts tT_info
    exact ⟨i0, _, hi0, hz0, hs0, hy0, rfl⟩
  pos := by decide
  few := by decide
  len _ := rfl
  one := by
    intro x u hu
    rw [List.mem_singleton] at hu
    subst hu
    rfl
theorem ownStr {w : World} {B : Nat} {v : Value} {ts : List (List UInt8)} (h : w.ownsRow B 9 1 v ts.length (ts.map encStr)) : Own eStr w B v (ts.map toB) := by
  show World.ownsRow _ _ _ _ _ _ _
  rw [List.length_map, ← List.map_eq_flatMap, List.map_map]
  exact h
theorem ownStr' {w : World} {B : Nat} {v : Value} {l : List ByteArray} (h : Own eStr w B v l) : w.ownsRow B 9 1 v l.length ((l.map (·.data.toList)).map encStr) := by
  have h2 : w.ownsRow B 9 1 v l.length (l.flatMap (fun s : ByteArray => [Value.string s])) := h
  rw [← List.map_eq_flatMap] at h2
  rw [List.map_map]
  have e : (encStr ∘ fun s : ByteArray => s.data.toList) = Value.string := by funext s; exact encStr_of s
  rw [e]
  exact h2

set_option maxRecDepth 100000 in
theorem sort_any {B g cap : Nat} {ss : List (List UInt8)} (h : w.ownsRow B 9 1 (.slice (some ⟨g, 0, none⟩) ss.length cap) ss.length (ss.map encStr)) (hl : ss.length ≤ 20000) :
    Calls Tryz.prog 158 #[.slice (some ⟨g, 0, none⟩) ss.length cap, .func (.func 110) #[] #[]] w fun e w' => e = .returned (.tuple #[]) ∧
      ∃ ts : List (List UInt8), ts.Perm ss ∧ ts.map toB = sortB (ss.map toB) ∧ w'.ownsRow B 9 1 (.slice (some ⟨g, 0, none⟩) ts.length cap) ts.length (ts.map encStr) ∧ w.grownBy w' (some g) := by
  obtain ⟨h1, h2⟩ := h
  rcases h2 with ⟨h2, _⟩ | ⟨g', cap', cur, hv, hg, hh, hn, hc, hcl, htk⟩
  · cases h2
  · injection hv with e1 e2 e3
    injection e1 with e1
    injection e1 with e1
    subst e1 e3
    have hlt : g < w.heap.size := (Array.getElem?_eq_some_iff.1 hh).1
    have hH : Holds encStr w g 0 ss.toArray := fun j hj => by
      have hj' : j < ss.length := by simpa using hj
      refine ⟨?_, by simp [World.frozen?, hh]⟩
      have e : (cur.toList.take (ss.length * 1))[j]? = (ss.map encStr)[j]? := by rw [htk]
      rw [List.getElem?_take, if_pos (by omega), Array.getElem?_toList, List.getElem?_map, List.getElem?_eq_getElem hj'] at e
      simp only [World.cell?, hh, Nat.zero_add, Option.isSome_none, Bool.false_eq_true, if_false]
      rw [e]
      simp [getElem!_pos, hj']
    have hcmp : CmpReads Tryz.prog 110 #[] encStr cmpL g 0 ss.toArray.size w := fun n os dk _ x y =>
      (compare_any (toB x) (toB y) _).mono fun e w' ⟨he, hw⟩ => ⟨he, 0, hw.symm⟩
    have hcon := Any.slices_SortFunc Tryz.gl_sort encStr (fun _ => rfl) cmpL cmpL_swo 110 #[] g 0 cap ss.toArray w (enters_of Tryz.func110 (by kernel_rfl) rfl) hcmp.lays hH hlt (by simp; omega)
    refine hcon.mono ?_
    rintro e w' ⟨rfl, d', n, os, hp, hso, rfl⟩
    obtain ⟨p1, _, p3⟩ := hp
    have p1' : d'.toList.length = ss.length := by simpa using p1
    have hperm : d'.toList.Perm ss := by
      have e1 : d'.extract 0 ss.toArray.size = d' := by rw [← p1]; exact Array.extract_size
      have e2 : ss.toArray.extract 0 ss.toArray.size = ss.toArray := Array.extract_size
      rw [e1, e2] at p3
      simpa using p3
    refine ⟨rfl, d'.toList, hperm, sortB_eq (hperm.map toB) ?_, ?_, ?_⟩
    · rw [List.pairwise_map, List.pairwise_iff_getElem]
      intro i j hi hj hij
      have hj2 : j < ss.toArray.size := by rw [← p1]; simpa using hj
      have := hso i j (Nat.zero_le _) hij hj2
      have hi3 : i < d'.size := by simpa using hi
      have hj3 : j < d'.size := by simpa using hj
      rw [lt_f, getElem!_pos d' i hi3, getElem!_pos d' j hj3] at this
      have a := cmp_neg d'[j] d'[i]
      show decide (Lib.compareBytes d'[i] d'[j] ≤ 0) = true
      rw [decide_eq_true_iff]
      omega
    · rw [p1']
      have := ownsRow_sorted (n := n) (os := os) (ss := ss) (ts := d'.toList) p1' hg hh hn hc (by simpa using hcl)
      exact this
    · exact grownBy_sorted d'
end Go.Proofs.YtceamkcaokdgaaaGreatDoor
/-
  Steps of drawn regions: a pair laid, a pair taken away. Of no program.
-/
namespace Go.Proofs.YtceamkcaokdgaaaGreatDoor
open Go.RowKit Go.ChangeMaps Go.MapKept
section
variable {P : Program} {t k e : TypeId} {K0 V : Type} [DecidableEq K0] {ck : K0 → Value} {cv : V → Value} {d : TypeDesc}
variable {w : World} {ops : Array Oper} {rest : List Oper} {o : Oper} {a : Act} {Q : Exit → Act → World → Prop} {ob : Option Nat} {m : List (K0 × V)} {K : Act → World → Prop}
theorem step_put {F : Prop} (hg : o.guard = none) (mo xo vo : Operand) (hop : o.op = Op.mapUpdate t mo xo vo) (hk : KeyT P k ck d) (ht : P.underlying t = some (.map k e)) {b : Nat}
    (hm : a.eval mo = .map (some b)) (h : MapL ck cv w b m) (x : K0) (hx : a.eval xo = ck x) (v : V) (hv : a.eval vo = cv v)
    (hK : ∀ w', MapL ck cv w' b (setL m x v) → Tn (fun q => q = b) w w' → w'.heap.size = w.heap.size → K (a.put o.dst undef) w') :
    if Region.wanted o (yielded ops a.tmps) = true then o.wp P a w K Q else F := by
  have hw : Region.wanted o (yielded ops a.tmps) = true := by simp [Region.wanted, hg]
  rw [if_pos hw]
  obtain ⟨w', hrun, r1, r2, r3⟩ := h.put hk ht x v
  unfold Oper.wp
  simp [execOp, hop, hm, hx, hv, hrun, Result.andThen]
  exact hK w' r1 r2 r3
theorem step_del {F : Prop} (hg : o.guard = none) (mo xo : Operand) (hop : o.op = Op.call { callee := Callee.builtin Builtin.delete, args := #[mo, xo], argTypes := #[t, k] }) (hk : KeyT P k ck d) (ht : P.underlying t = some (.map k e))
    (hm : a.eval mo = .map ob) (h : MapV ck cv w ob m) (x : K0) (hx : a.eval xo = ck x)
    (hK : ∀ w', MapV ck cv w' ob (delL m x) → Tn (fun q => ob = some q) w w' → w'.heap.size = w.heap.size → K (a.put o.dst (.tuple #[])) w') :
    if Region.wanted o (yielded ops a.tmps) = true then o.wp P a w K Q else F := by
  have hw : Region.wanted o (yielded ops a.tmps) = true := by simp [Region.wanted, hg]
  rw [if_pos hw]
  obtain ⟨w', hrun, r1, r2, r3⟩ := h.del hk ht o.type x
  unfold Oper.wp
  simp [execOp, hop, resolve, invoke, builtin, hm, hx, hrun, Result.andThen]
  exact hK w' r1 r2 r3
end
end Go.Proofs.YtceamkcaokdgaaaGreatDoor
/-
  Disk: what an act does to the files: Create.
-/
namespace Go.Proofs.YtceamkcaokdgaaaGreatDoor
open Go.RowKit
variable {F G : Nat → Prop} {w w' : World} {db mb : Nat} {D D' : Dk}

theorem clone_any (w : World) (d : ByteArray) (hd : d.size ≤ 140737488351232) : Calls Tryz.prog 107 #[.string d] w fun e w' => e = .returned (.string d) ∧ Below w.heap.size w w' := by
  go_enter Tryz.func107, Tryz.ntmps107
  go_wp2_with (go_at_call 156; refine (Tryz.stringslite_Clone d w (by omega)).mono ?_; rintro _ w' ⟨rfl, hb⟩; simp only [])
  go_ret
  exact ⟨rfl, hb⟩
theorem Dk.Ok.files (h : D.Ok) {m : Fm} (hm : ∀ p ∈ m, p ∈ D.m ∨ (p.1.size ≤ 64 ∧ p.2.syn ≤ p.2.data.size ∧ p.2.data.size ≤ 1048576)) (hl : m.length ≤ 20000) : ({ D with m := m } : Dk).Ok :=
  ⟨fun p hp => (hm p hp).elim (h.nam p) (fun h => h.1), fun p hp => (hm p hp).elim (h.syn p) (fun h => h.2), hl, h.acts, h.quota, h.fuse⟩
theorem Dk.Ok.set (h : D.Ok) {s : ByteArray} {f : Fl} (hs : s.size ≤ 64) (hf : f.syn ≤ f.data.size ∧ f.data.size ≤ 1048576) (hl : (setL D.m s f).length ≤ 20000) : ({ D with m := setL D.m s f } : Dk).Ok :=
  h.files (fun p hp => by
    rcases setL_mem hp with rfl | hp
    · exact .inr ⟨hs, hf⟩
    · exact .inl hp) hl
theorem Dk.Ok.del (h : D.Ok) {s : ByteArray} : ({ D with m := delL D.m s } : Dk).Ok :=
  h.files (fun p hp => .inl (delL_mem hp)) (Nat.le_trans (List.length_filter_le _ _) h.few)

set_option maxRecDepth 100000 in
set_option maxHeartbeats 1000000 in
theorem create1_does {bD bN : Nat} {s : ByteArray} (hD : w.cell? ⟨bD, 0, none⟩ = some (.pointer (some ⟨db, 0, none⟩))) (hN : w.cell? ⟨bN, 0, none⟩ = some (.string s)) (nD : ¬ two db mb bD) (nN : ¬ two db mb bN) (hs : s.size ≤ 64) (hl : (setL D.m s ⟨ByteArray.empty, 0⟩).length ≤ 20000) :
    Does F (fun _ => False) 106 #[.pointer (some ⟨bD, 0, none⟩), .pointer (some ⟨bN, 0, none⟩)] w db mb D (fun m => setL m s ⟨ByteArray.empty, 0⟩) := by
  intro w1 D1 h1 ht1 hm1
  have k1 := ht1.cell hD nD
  have k2 := ht1.cell hN nN
  have k3 := h1.c0
  have hs9 : s.size ≤ 140737488351232 := by omega
  have H := Lib.hid (And.intro h1 (And.intro hm1 (And.intro hs hl)))
  clear hD hN ht1 h1 hm1 hs hl nD nN
  go_enter Tryz.func106, Tryz.ntmps106
  go_wp2_with fail
  have kd1 : w1.drew.cell? ⟨bD, 0, none⟩ = some (.pointer (some ⟨db, 0, none⟩)) := k1
  have kd2 : w1.drew.cell? ⟨bN, 0, none⟩ = some (.string s) := k2
  have kd3 : w1.drew.cell? ⟨db, 0, none⟩ = some (.map (some mb)) := k3
  refine wp_region_K (fun w' => w'.cell? ⟨bD, 0, none⟩ = some (.pointer (some ⟨db, 0, none⟩)) ∧ w'.cell? ⟨bN, 0, none⟩ = some (.string s) ∧ w'.cell? ⟨db, 0, none⟩ = some (.map (some mb))) 7 8 (by kernel_rfl) (by kernel_rfl) ⟨kd1, kd2, kd3⟩ (fun hH => ?_)
  refine wpAnyK_take (i := 0) [7] (v := ?v1) rfl (by kernel_rfl) (by kernel_rfl) (by kernel_rfl) (by kernel_rfl) (fun _ _ _ h => h) (Or.inl ⟨by rfl, ?hy1⟩) hH ?rest1
  case hy1 => (intro w hSw; (try dsimp only at hSw); go_simp; with_reducible rfl)
  try simp only [Act.put, List.setIfInBounds_toArray, List.set_cons_zero, List.set_cons_succ]
  refine wpAnyK_take (i := 1) [7] (v := ?v2) rfl (by kernel_rfl) (by kernel_rfl) (by kernel_rfl) (by kernel_rfl) (fun _ _ _ h => h) (Or.inl ⟨by rfl, ?hy2⟩) hH ?rest2
  case hy2 => (intro w hSw; (try dsimp only at hSw); go_simp; with_reducible rfl)
  try simp only [Act.put, List.setIfInBounds_toArray, List.set_cons_zero, List.set_cons_succ]
  refine wpAnyK_take (i := 2) [7] (v := ?v3) rfl (by kernel_rfl) (by kernel_rfl) (by kernel_rfl) (by kernel_rfl) (fun _ _ _ h => h) (Or.inl ⟨by rfl, ?hy3⟩) hH ?rest3
  case hy3 => (intro w hSw; (try dsimp only at hSw); go_simp; with_reducible rfl)
  try simp only [Act.put, List.setIfInBounds_toArray, List.set_cons_zero, List.set_cons_succ]
  refine wpAnyK_take (i := 3) [7] (v := ?v4) rfl (by kernel_rfl) (by kernel_rfl) (by kernel_rfl) (by kernel_rfl) (fun _ _ _ h => h) (Or.inl ⟨by rfl, ?hy4⟩) hH ?rest4
  case hy4 => (intro w hSw; (try dsimp only at hSw); go_simp; with_reducible rfl)
  try simp only [Act.put, List.setIfInBounds_toArray, List.set_cons_zero, List.set_cons_succ]
  refine wpAnyK_take (i := 4) [7] (v := ?v5) rfl (by kernel_rfl) (by kernel_rfl) (by kernel_rfl) (by kernel_rfl) (fun _ _ _ h => h) (Or.inl ⟨by rfl, ?hy5⟩) hH ?rest5
  case hy5 => (intro w hSw; (try dsimp only at hSw); go_simp; with_reducible rfl)
  try simp only [Act.put, List.setIfInBounds_toArray, List.set_cons_zero, List.set_cons_succ]
  refine wpAnyK_take (i := 6) [7] (v := ?v6) rfl (by kernel_rfl) (by kernel_rfl) (by kernel_rfl) (by kernel_rfl) (fun _ _ _ h => h) (Or.inl ⟨by rfl, ?hy6⟩) hH ?rest6
  case hy6 => (intro w hSw; (try dsimp only at hSw); go_simp; with_reducible rfl)
  try simp only [Act.put, List.setIfInBounds_toArray, List.set_cons_zero, List.set_cons_succ]
  refine wpAnyK_one (i := 5) (by kernel_rfl) rfl (fun K hK => ?_) (by kernel_rfl)
  go_simp
  go_at_call 107
  refine (clone_any _ s hs9).mono ?_
  rintro e w2 ⟨rfl, hb2⟩
  have e1 := (hb2.cell (p := ⟨bD, 0, none⟩) (World.block_lt_of_cell? _ _ kd1)).trans kd1
  have e2 := (hb2.cell (p := ⟨bN, 0, none⟩) (World.block_lt_of_cell? _ _ kd2)).trans kd2
  have e3 := (hb2.cell (p := ⟨db, 0, none⟩) (World.block_lt_of_cell? _ _ kd3)).trans kd3
  have HB := Lib.hid (show Below w1.heap.size w1 w2 from (Below.refl _ _).drew.trans hb2)
  clear hb2
  refine hK.out _ _ ⟨e1, e2, e3⟩ (fun hH => ?_)
  clear hK K
  try simp only [Act.put, List.setIfInBounds_toArray, List.set_cons_zero, List.set_cons_succ]
  have hd2 := H.out.1.below HB.out
  refine wpAnyK_last (by kernel_rfl) rfl (fun K hK => ?_) (by kernel_rfl)
  refine step_put rfl _ _ _ rfl keyN und_map rfl hd2.m s rfl ⟨ByteArray.empty, 0⟩ rfl ?_
  intro w3 hm3 ht3 hz3
  refine hK.out _ _ (wpAnyK_done (by kernel_rfl) ?_ _)
  clear hK K hH
  have hfin := hd2.setM ht3 hm3 (hd2.ok.set H.out.2.2.1 ⟨Nat.le_refl _, by decide⟩ (by rw [H.out.2.1]; exact H.out.2.2.2))
  have HF := Lib.hid (And.intro hfin ((Tn.ofBelow (F := fun q => two db mb q ∨ False) HB.out).trans (ht3.mono (fun q hq => .inl (.inr hq)))))
  clear hfin hm3 ht3 hz3 hd2 e1 e2 e3 kd1 kd2 kd3 k1 k2 k3
  go_wp2_with fail
  go_end0
  exact ⟨rfl, HF.out.1, by simpa using HF.out.2⟩
end Go.Proofs.YtceamkcaokdgaaaGreatDoor
/-
  Disk: the names that begin with something, in order.
-/
namespace Go.Proofs.YtceamkcaokdgaaaGreatDoor
open Go.RowKit Go.Maps Go.Sort Go.Shelf
variable {F G : Nat → Prop} {w w' : World} {db mb : Nat} {D D' : Dk}

theorem ins_nil (fv : Value) (w : World) : Calls Tryz.prog 185 #[.slice none 0 0, .int .i64 0, .int .i64 0, fv] w fun e w' => e = .returned (.tuple #[]) ∧ w = w' := by
  go_enter Tryz.func185, Tryz.ntmps185
  go_wp2
  refine wp_loop_rounds 1 ?_
  rw [rounds_succ]
  go_wp2
  go_end0
  exact ⟨rfl, rfl⟩
set_option maxRecDepth 100000 in
theorem pdq_nil (fv : Value) (l : Int) (w : World) : Calls Tryz.prog 177 #[.slice none 0 0, .int .i64 0, .int .i64 0, .int .i64 l, fv] w fun e w' => e = .returned (.tuple #[]) ∧ w = w' := by
  go_enter Tryz.func177, Tryz.ntmps177
  go_wp2
  refine wp_loop_rounds 1 ?_
  rw [rounds_succ]
  go_wp2_with (go_at_call 185; refine (ins_nil _ _).mono ?_; rintro e w' ⟨rfl, rfl⟩)
  (try simp only [Exit.inBlock, Exit.then]); refine bodyPost_ret (results_none rfl _ _ _) rfl ?_
  exact ⟨rfl, rfl⟩
theorem sort_nil (fv : Value) (w : World) : Calls Tryz.prog 158 #[.slice none 0 0, fv] w fun e w' => e = .returned (.tuple #[]) ∧ w = w' := by
  have hl := fun W => Tryz.bits_Len 0 W (by omega) (by omega)
  go_enter Tryz.func158, Tryz.ntmps158
  go_wp2_with (first
    | (go_at_call 178; refine (hl _).mono ?_; rintro e w' ⟨rfl, rfl⟩)
    | (go_at_call 177; refine (pdq_nil _ _ _).mono ?_; rintro e w' ⟨rfl, rfl⟩))
  go_end0
  exact ⟨rfl, rfl⟩

/-- The value of a slice of the call's own that holds texts. -/
def NamesE (w : World) (l : List ByteArray) (e : Ending) (w' : World) : Prop := ∃ v, e = .returned v ∧ Own eStr w' w.heap.size v l
set_option maxRecDepth 100000 in
theorem sorted_any {m : Fm} {Bm : Nat} (h : MapL ckN cvF w mb m) (hn : ∀ p ∈ m, p.1.size ≤ 64) (hl : m.length ≤ 20000) (hB : w.cell? ⟨Bm, 0, none⟩ = some (.map (some mb))) :
    Calls Tryz.prog 108 #[.func (.func 159) #[] #[.pointer (some ⟨Bm, 0, none⟩)], .func (.func 110) #[] #[]] w fun e w' =>
      NamesE w (sortB (m.map (·.1))) e w' ∧ Below w.heap.size w w' := by
  have hc := collect_any h hn hl hB
  have HL := Lib.hid hl
  clear h hn hl hB
  go_enter Tryz.func108, Tryz.ntmps108
  go_wp2_with fail
  refine hc.mono ?_
  rintro e w1 ⟨v, ss, rfl, hp, hrow, hnil, hb⟩
  have hlen : ss.length = m.length := by rw [hp.length_eq, List.length_map, List.length_map]
  have hpB : (ss.map toB).Perm (m.map (·.1)) := by
    have := hp.map toB
    rw [List.map_map] at this
    have e : (toB ∘ fun s : ByteArray => s.data.toList) = id := by funext s; exact Lib.mk_data s
    rw [e, List.map_id] at this
    exact this
  have HP := Lib.hid (And.intro hpB (And.intro hlen (And.intro hrow hb)))
  obtain ⟨av, cv, hv, -, -⟩ := row_form hrow
  by_cases hs0 : ss = []
  · have hv0 := hnil.2 hs0
    subst hs0
    subst hv0
    clear hp hrow hnil hb hlen hpB hv hc
    go_wp2_with (go_at_call 158; refine (sort_nil _ _).mono ?_; rintro e w' ⟨rfl, rfl⟩)
    go_ret
    refine ⟨⟨_, rfl, ?_⟩, HP.out.2.2.2⟩
    have hm0 : m.map (·.1) = [] := List.Perm.nil_eq HP.out.1 |>.symm
    rw [hm0]
    exact World.ownsRow_nil _ _ _ _
  · subst hv
    have hpos : 0 < ss.length := List.length_pos_iff.2 hs0
    obtain ⟨g, cap, hv⟩ : ∃ g cap, Value.slice av ss.length cv = .slice (some ⟨g, 0, none⟩) ss.length cap := by
      rcases hrow.2 with ⟨_, h0⟩ | ⟨g, cap, cur, h, _⟩
      · omega
      · exact ⟨g, cap, h⟩
    obtain ⟨rfl, -, rfl⟩ := Value.slice.inj hv
    have hsz : ss.length ≤ 20000 := by rw [hlen]; exact HL.out
    have hsrt := sort_any hrow hsz
    have hbase := (hrow.lt g rfl).1
    obtain ⟨sl, hsl⟩ : ∃ sl, ss.length = sl := ⟨_, rfl⟩
    have HSL := Lib.hid hsl
    rw [hsl] at hsrt ⊢
    clear hp hrow hnil hb hlen hpB hv hc hpos hsz hsl
    go_wp2_with fail
    refine hsrt.mono ?_
    rintro e w2 ⟨rfl, ts, hts, hsb, hown, hgr⟩
    have hfin := ownStr hown
    have htl : ts.length = sl := hts.length_eq.trans HSL.out
    have hX : sortB (ss.map toB) = sortB (m.map (·.1)) := sorted_unique ((sortB_perm _).trans (HP.out.1.trans (sortB_perm _).symm)) (sortB_sorted _) (sortB_sorted _)
    rw [hsb, hX, htl] at hfin
    have HF := Lib.hid (And.intro hfin (HP.out.2.2.2.grown hgr HP.out.2.2.2.size (fun j hj => by cases hj; exact hbase)))
    clear hts hsb hown hgr hfin htl hX hsrt
    go_wp2_with fail
    go_ret
    exact ⟨⟨_, rfl, HF.out.1⟩, HF.out.2⟩

/-- Does a text not begin so? -/
def notP (p : ByteArray) (s : List UInt8) : Bool := !p.data.toList.isPrefixOf s
theorem list1_any (p : ByteArray) (s : List UInt8) {b : Nat} {w : World} (h : w.cell? ⟨b, 0, none⟩ = some (.string p)) : FnGives Tryz.prog 112 #[.pointer (some ⟨b, 0, none⟩)] #[encStr s] (.bool (notP p s)) w := by
  show Calls Tryz.prog 112 #[.string (toB s), .pointer (some ⟨b, 0, none⟩)] w _
  have hp := Tryz.strings_HasPrefix (toB s) p
  obtain ⟨q, hq⟩ : ∃ q, Lib.hasPrefix (toB s).data.toList p.data.toList = q := ⟨_, rfl⟩
  have hq2 : notP p s = !q := by rw [← hq]; rfl
  rw [hq2]
  simp only [hq] at hp
  clear hq hq2
  go_enter Tryz.func112, Tryz.ntmps112
  go_wp2_with (go_at_call 113; refine (hp _).mono ?_; rintro e w' ⟨rfl, rfl⟩)
  go_ret
  exact ⟨rfl, 0, rfl⟩
theorem del_nil (fv : Value) (w : World) : Calls Tryz.prog 111 #[.slice none 0 0, fv] w fun e w' => e = .returned (.slice none 0 0) ∧ w = w' := by
  have hi := fun W => AnyE.slices_IndexFunc_empty (P := Tryz.prog) (ρ := Tryz.gl_delete_ren) { Tryz.gl_delete with } none 0 fv W
  change ∀ W, Calls Tryz.prog 161 _ _ _ at hi
  go_enter Tryz.func111, Tryz.ntmps111
  go_wp2_with (go_at_call 161; refine (hi _).mono ?_; rintro e w' ⟨rfl, rfl⟩)
  go_ret
  exact ⟨rfl, rfl⟩
theorem delete_any {B b : Nat} {v : Value} {l : List ByteArray} (p : ByteArray) (h : Own eStr w B v l) (hl : l.length ≤ 20000) (hB : b < B) (hp : w.cell? ⟨b, 0, none⟩ = some (.string p)) (hBw : B ≤ w.heap.size) :
    Calls Tryz.prog 111 #[v, .func (.func 112) #[] #[.pointer (some ⟨b, 0, none⟩)]] w fun e w' =>
      (∃ v', e = .returned v' ∧ Own eStr w' B v' (l.filter (fun s => p.data.toList.isPrefixOf s.data.toList))) ∧ Below B w w' := by
  have h3 := ownStr' h
  obtain ⟨h1, h2⟩ := h3
  rcases h2 with ⟨rfl, h0⟩ | ⟨g, cap, cur, rfl, hg, hh, hn, hc, hcl, htk⟩
  · obtain rfl := List.eq_nil_of_length_eq_zero h0
    refine (del_nil _ w).mono ?_
    rintro e w' ⟨rfl, rfl⟩
    exact ⟨⟨_, rfl, World.ownsRow_nil _ _ _ _⟩, Below.refl _ _⟩
  · have hlt : g < w.heap.size := (Array.getElem?_eq_some_iff.1 hh).1
    have hrow := ownStr' h
    obtain ⟨ss, hss⟩ : ∃ ss, l.map (·.data.toList) = ss := ⟨_, rfl⟩
    rw [hss] at htk hrow
    have hsl : l.length = ss.length := by rw [← hss, List.length_map]
    have hH : Holds encStr w g 0 ss.toArray := fun j hj => by
      have hj' : j < ss.length := by simpa using hj
      refine ⟨?_, by simp [World.frozen?, hh]⟩
      have e : (cur.toList.take (l.length * 1))[j]? = (ss.map encStr)[j]? := by rw [htk]
      rw [List.getElem?_take, if_pos (by omega), Array.getElem?_toList, List.getElem?_map, List.getElem?_eq_getElem hj'] at e
      simp only [World.cell?, hh, Nat.zero_add, Option.isSome_none, Bool.false_eq_true, if_false]
      rw [e]
      simp [getElem!_pos, hj']
    have hbw : b < w.heap.size := Nat.lt_of_lt_of_le hB hBw
    have hpa : PredAt Tryz.prog 112 #[.pointer (some ⟨b, 0, none⟩)] encStr (notP p) w := fun W x hb => list1_any p x ((hb.cell (p := ⟨b, 0, none⟩) hbw).trans hp)
    have hpo : PredOver Tryz.prog 112 #[.pointer (some ⟨b, 0, none⟩)] encStr (notP p) g 0 ss.toArray.size w := fun n os dk x _ => list1_any p x (by
      unfold sortWorld
      rw [cell?_grow _ _ _ (by show b < (putRow _ _ _ _ _).heap.size; rw [size_putRow]; exact hbw), cell?_putRow_other _ _ g 0 _ _ (Or.inl (by omega : b ≠ g))]
      exact hp)
    have hcon := AnyE.slices_DeleteFunc Tryz.gl_delete encStr (fun _ => rfl) (notP p) 112 #[.pointer (some ⟨b, 0, none⟩)] (enters_of Tryz.func112 (by kernel_rfl) rfl) [] Tryz.zeroValue9 g 0 cap ss.toArray w hpa hpo hH (by simp; omega) (by simp; omega)
    rw [hsl]
    refine hcon.mono ?_
    rintro e w' ⟨rfl, q, rfl⟩
    have hf : ss.toArray.toList.filter (fun x => !notP p x) = ss.filter (fun s => p.data.toList.isPrefixOf s) := by
      simp [notP]
    rw [hf]
    have hfl : ss.filter (fun s => p.data.toList.isPrefixOf s) = (l.filter (fun s => p.data.toList.isPrefixOf s.data.toList)).map (·.data.toList) := by
      rw [← hss, List.filter_map]
      rfl
    refine ⟨⟨_, rfl, ?_⟩, Lib.below_putRow (Below.refl _ _) hg⟩
    have hle : (ss.filter (fun s => p.data.toList.isPrefixOf s)).length ≤ ss.length := List.length_filter_le _ _
    have ho := Lib.ownsRow_putRow (q := q) (k := (ss.filter (fun s => p.data.toList.isPrefixOf s)).length) (ys := ss.filter (fun s => p.data.toList.isPrefixOf s) ++ List.replicate (ss.toArray.size - (ss.filter (fun s => p.data.toList.isPrefixOf s)).length) []) hrow (by simp; omega) (by omega)
    rw [List.take_append_of_le_length (Nat.le_refl _), List.take_length] at ho
    have h9 := ownStr ho
    rw [hfl, List.map_map] at h9
    have e : (toB ∘ fun s : ByteArray => s.data.toList) = id := by funext s; exact Lib.mk_data s
    rw [e, List.map_id, ← hfl] at h9
    exact h9
end Go.Proofs.YtceamkcaokdgaaaGreatDoor
/-
  The row of bytes that a text's conversion makes.
-/
namespace Go.Proofs.YtceamkcaokdgaaaGreatDoor
open Go.RowKit

theorem add_none (g off j : Nat) : (⟨g, off, none⟩ : Addr).add j = ⟨g, off + j, none⟩ := by
  unfold Addr.add
  split
  · rename_i h
    have h0 : j = 0 := by simpa using h
    subst h0
    rfl
  · rfl
/-! ### The row of bytes that a text's conversion makes. -/

/-- From block B's head on there stand the bytes l, and none of them is frozen. -/
def HasB (w : World) (B : Nat) (l : List UInt8) : Prop := ∀ (j : Nat) (hj : j < l.length), w.cell? ⟨B, j, none⟩ = some (.int .u8 (l[j].toNat : Int)) ∧ w.frozen? ⟨B, j, none⟩ = false

theorem HasB.lt {w : World} {B : Nat} {l : List UInt8} (h : HasB w B l) (hl : 0 < l.length) : B < w.heap.size := by
  rcases Nat.lt_or_ge B w.heap.size with h1 | h1
  · exact h1
  · have := (h 0 hl).1
    simp [World.cell?, Array.getElem?_eq_none h1] at this

theorem HasB.str {w : World} {B : Nat} {l : List UInt8} (h : HasB w B l) (n cap : Nat) (hn : n = l.length) :
    (convert 123 9 (.slice (some ⟨B, 0, none⟩) n cap)).run Tryz.prog w = .ok (.string ⟨l.toArray⟩) w := by
  subst hn
  refine run_convert_bytes_back w 123 9 5 ⟨B, 0, none⟩ cap l Tryz.underlying123 Tryz.underlying5 Tryz.underlying9 fun j hj => ?_
  rw [add_none, Nat.zero_add]
  exact (h j hj).1

theorem HasB.set {w : World} {B : Nat} {l : List UInt8} (h : HasB w B l) (k : Nat) (c : UInt8) : HasB (w.setCell ⟨B, k, none⟩ (.int .u8 (c.toNat : Int))) B (l.set k c) := by
  intro j hj
  have hj' : j < l.length := by simpa using hj
  refine ⟨?_, by rw [World.frozen?_setCell]; exact (h j hj').2⟩
  by_cases hjk : j = k
  · subst hjk
    rw [World.cell?_setCell_same _ _ _ (h j hj').1]
    simp
  · rw [World.cell?_setCell_other _ _ _ _ (by intro e; injection e with _ e2; exact hjk e2.symm)]
    rw [List.getElem_set_ne (by omega)]
    exact (h j hj').1

theorem conv_b (s : ByteArray) (w : World) : ∃ cap W, Below w.heap.size w W ∧ W.heap.size = w.heap.size + 1 ∧ HasB W w.heap.size s.data.toList ∧
    (convert 9 123 (.string s)).run Tryz.prog w = .ok (.slice (some ⟨w.heap.size, 0, none⟩) s.size cap) W := by
  have h := run_bytes_of_string (P := Tryz.prog) w 9 123 5 s Tryz.underlying9 Tryz.underlying123 Tryz.underlying5
  refine ⟨_, _, ?_, ?_, ?_, h⟩
  · exact (Below.refl _ _).drew.alloc (Nat.le_refl _) _
  · simp
  · intro j hj
    have hj2 : j < s.data.size := by simpa using hj
    constructor
    · rw [show w.heap.size = w.drew.heap.size from rfl, World.cell?_alloc_mark, bytesRow_at s _ j hj2]
      simp
    · rw [show w.heap.size = w.drew.heap.size from rfl, World.frozen?_alloc_mark]
      have : s.data.size ≤ (bytesRow s (grownCap w s.size 0 5)).size := by simp [bytesRow]
      simp
      omega

end Go.Proofs.YtceamkcaokdgaaaGreatDoor
/-
  Disk: List; a crash, plain.
-/
namespace Go.Proofs.YtceamkcaokdgaaaGreatDoor
open Go.RowKit
variable {F G : Nat → Prop} {w w' : World} {db mb : Nat} {D D' : Dk}

set_option maxRecDepth 100000 in
theorem list_any (h : DkAt F w db mb D) (hon : D.on = true) (p : ByteArray) : Calls Tryz.prog 17 #[.pointer (some ⟨db, 0, none⟩), .string p] w fun e w' => NamesE w (D.list p) e w' ∧ Below w.heap.size w w' := by
  have hD : D.list p = D.names.filter (fun s => p.data.toList.isPrefixOf s.data.toList) := by unfold Dk.list; rw [hon]; rfl
  have c0 := h.c0
  have c1 := h.c1
  rw [hon] at c1
  have hlt := h.ltd
  have H := Lib.hid (And.intro h hD)
  have hmf : ∀ (fn : Fn) (first cap : Array Value) (w : World), (Instr.makeFunc fn first cap).run Tryz.prog w = .ok (.func fn first cap) w := fun _ _ _ _ => rfl
  clear h hD hon
  go_enter Tryz.func17, Tryz.ntmps17
  obtain ⟨W1, hW1⟩ : ∃ W1, w.alloc (.cells #[.string p] 9) = W1 := ⟨_, rfl⟩
  have b1 : Below w.heap.size w W1 := by rw [← hW1]; exact (Below.refl _ _).alloc (Nat.le_refl _) _
  have d1 : W1.cell? ⟨w.heap.size, 0, none⟩ = some (.string p) := by rw [← hW1]; simp [go_sem]
  have z1 : W1.heap.size = w.heap.size + 1 := by rw [← hW1]; simp
  have k0 := (b1.cell (p := ⟨db, 0, none⟩) hlt).trans c0
  have k1 := (b1.cell (p := ⟨db, 1, none⟩) hlt).trans c1
  have H1 := Lib.hid (And.intro b1 (And.intro d1 z1))
  clear b1 d1 z1
  go_wp2_with (first
    | (go_at_call 20; refine (on_any k1).mono ?_; rintro e w' ⟨rfl, rfl⟩)
    | (go_at_call 109; refine (keys_any (some mb) _).mono ?_; rintro e w' ⟨rfl, rfl⟩))
  have h2 : DkAt F (W1.alloc (.cells #[.map (some mb)] 62)) db mb D := (H.out.1.below H1.out.1).below ((Below.refl _ _).alloc (Nat.le_refl _) _)
  refine (sorted_any h2.m h2.ok.nam h2.ok.few (Bm := W1.heap.size) (by simp [go_sem])).mono ?_
  rintro e w3 ⟨⟨v, rfl, hown⟩, hb3⟩
  have hbx : Below W1.heap.size W1 w3 := ((Below.refl _ _).alloc (Nat.le_refl _) _).trans (hb3.mono (by simp))
  have hcell : w3.cell? ⟨w.heap.size, 0, none⟩ = some (.string p) := (hbx.cell (p := ⟨w.heap.size, 0, none⟩) (by rw [H1.out.2.2]; simp)).trans H1.out.2.1
  obtain ⟨av, cv, hv, -, -⟩ := row_form hown
  have hown2 : Own eStr w3 (w.heap.size + 1) v (sortB (D.m.map (·.1))) := row_mono hown (by have := H1.out.2.2; simp; omega)
  have H3 := Lib.hid (And.intro hown2 (And.intro hcell hbx))
  have hlen : (sortB (D.m.map (·.1))).length ≤ 20000 := by rw [(sortB_perm _).length_eq, List.length_map]; exact h2.ok.few
  have HL := Lib.hid hlen
  subst hv
  clear h2 hown hb3 hbx hcell hown2 hlen
  go_wp2_with fail
  refine (delete_any p H3.out.1 HL.out (b := w.heap.size) (by omega) H3.out.2.1 (by have := H3.out.2.2.size; have := H1.out.2.2; omega)).mono ?_
  rintro e w4 ⟨⟨v', rfl, hown4⟩, hb4⟩
  obtain ⟨fl, hfl⟩ : ∃ fl, (sortB (D.m.map (·.1))).filter (fun s => p.data.toList.isPrefixOf s.data.toList) = fl := ⟨_, rfl⟩
  rw [hfl] at hown4
  have HFL := Lib.hid hfl
  have H4 := Lib.hid (And.intro hown4 hb4)
  clear hfl
  obtain ⟨av4, cv4, hv4, -, -⟩ := row_form hown4
  subst hv4
  clear hown4 hb4
  go_wp2_with fail
  go_ret
  refine ⟨⟨_, rfl, ?_⟩, (H1.out.1.trans (H3.out.2.2.mono H1.out.1.size)).trans (H4.out.2.mono (Nat.le_succ w.heap.size))⟩
  have e9 : D.list p = fl := H.out.2.trans HFL.out
  rw [e9]
  exact row_mono H4.out.1 (Nat.le_succ w.heap.size)

/-! ### A crash, plain. -/
theorem crashL_keys {cuts : List Int} {flip : Int} : ∀ (l : List ByteArray) (i : Nat) (m : Fm), (crashL cuts flip l i m).map (·.1) = m.map (·.1)
  | [], _, _ => rfl
  | a :: l, i, m => by
    unfold crashL
    cases hg : getL m a with
    | none => exact crashL_keys l (i + 1) m
    | some f =>
      simp only
      rw [crashL_keys l (i + 1)]
      unfold setL
      have hany : m.any (fun p => decide (p.1 = a)) = true := List.any_eq_true.2 ⟨_, getL_mem hg, by simp⟩
      rw [hany, if_pos rfl, List.map_map]
      refine List.map_congr_left (fun p _ => ?_)
      simp only [Function.comp]
      split
      · rename_i h; exact h.symm
      · rfl
theorem crashL_app {cuts : List Int} {flip : Int} : ∀ (l : List ByteArray) (a : ByteArray) (i : Nat) (m : Fm), crashL cuts flip (l ++ [a]) i m = (match getL (crashL cuts flip l i m) a with | some f => setL (crashL cuts flip l i m) a (cutF f (cutAt cuts (i + l.length)) flip) | none => crashL cuts flip l i m)
  | [], a, i, m => by
    simp only [List.nil_append, crashL, List.length_nil, Nat.add_zero]
    cases getL m a <;> rfl
  | b :: l, a, i, m => by
    simp only [List.cons_append, crashL, List.length_cons]
    have h := fun m => crashL_app (cuts := cuts) (flip := flip) l a (i + 1) m
    cases getL m b with
    | none => simp only; rw [h, show i + 1 + l.length = i + (l.length + 1) by omega]
    | some f => simp only; rw [h, show i + 1 + l.length = i + (l.length + 1) by omega]
theorem getL_some {m : Fm} {a : ByteArray} (h : a ∈ m.map (·.1)) : ∃ f, getL m a = some f := by
  obtain ⟨p, hp, rfl⟩ := List.mem_map.1 h
  unfold getL
  cases hf : m.find? (fun q => decide (q.1 = p.1)) with
  | none => exact absurd (by simp : decide (p.1 = p.1) = true) (by simpa using List.find?_eq_none.1 hf p hp)
  | some q => exact ⟨q.2, rfl⟩
end Go.Proofs.YtceamkcaokdgaaaGreatDoor
/-
  Disk: Crash.
-/
namespace Go.Proofs.YtceamkcaokdgaaaGreatDoor
open Go.RowKit
variable {F G : Nat → Prop} {w w' : World} {db mb : Nat} {D D' : Dk}

/-- A text of the stand. -/
theorem Own.getT {w : World} {B n cap : Nat} {a : Option Addr} {l : List ByteArray} (h : Own eStr w B (.slice a n cap) l) {i : Nat} (hi : i < l.length) : ∃ g, a = some ⟨g, 0, none⟩ ∧ B ≤ g ∧ g < w.heap.size ∧ w.cell? ⟨g, i, none⟩ = some (.string l[i]) := by
  have h0 := h
  obtain ⟨h1, h2⟩ := h
  rcases h2 with ⟨_, h3⟩ | ⟨g, cap', cur, hv, hg, hh, hn', hc, hcl, htk⟩
  · omega
  · injection hv with e1 e2 e3
    subst e1 e2
    refine ⟨g, rfl, hg, (Array.getElem?_eq_some_iff.1 hh).1, ?_⟩
    have := World.ownsRow.cellAt h0 i (by omega)
    rw [this]
    have h4 := eStr.get l i 0 hi (by omega)
    rw [Nat.mul_one, Nat.add_zero] at h4
    rw [h4]
    rfl

set_option maxRecDepth 100000 in
set_option maxHeartbeats 4000000 in
theorem crash_w (h : DkAt F w db mb D) (hon : D.on = true) {v : Value} {cuts : List Int} (hr : RdC (two db mb) w v cuts) (hcl : cuts.length ≤ 1000000) (flip : Int) :
    Calls Tryz.prog 34 #[.pointer (some ⟨db, 0, none⟩), v, .int .i64 flip] w fun e w' => e = .returned (.tuple #[]) ∧ DkAt F w' db mb (D.crash cuts flip) ∧ Tn (two db mb) w w' := by
  obtain ⟨av, cv, rfl, hrr⟩ := hr
  obtain ⟨vl, hvl⟩ : ∃ vl, cuts.length = vl := ⟨_, rfl⟩
  rw [hvl] at hcl ⊢
  have c1 := h.c1
  rw [hon] at c1
  have hall : D.list ByteArray.empty = D.names := by
    unfold Dk.list
    rw [hon, if_pos rfl, List.filter_eq_self]
    intro s _
    rfl
  have hcr : D.crash cuts flip = { D with m := crashL cuts flip D.names 0 D.m, on := false } := by unfold Dk.crash; rw [hon, if_pos rfl]
  have hL := list_any h hon ByteArray.empty
  rw [hall] at hL
  have f1 := h.fz 1
  have H := Lib.hid (And.intro h (And.intro hcr (And.intro hvl hrr)))
  have hlt := h.ltd
  clear h hon hcr hvl hrr hall
  go_enter Tryz.func34, Tryz.ntmps34
  go_wp2_with (go_at_call 20; refine (on_any c1).mono ?_; rintro e w' ⟨rfl, rfl⟩)
  refine hL.mono ?_
  rintro e w1 ⟨⟨vn, rfl, hown⟩, hb1⟩
  obtain ⟨an, cn, rfl, -, -⟩ := row_form hown
  obtain ⟨n, hn⟩ : ∃ n, D.names.length = n := ⟨_, rfl⟩
  rw [hn] at hown ⊢
  have k1 := (hb1.cell (p := ⟨db, 1, none⟩) hlt).trans c1
  have kf := (hb1.frozen (p := ⟨db, 1, none⟩) hlt).trans f1
  have hnn : n ≤ 20000 := by
    rw [← hn]
    unfold Dk.names
    rw [(sortB_perm _).length_eq, List.length_map]
    exact H.out.1.ok.few
  have H1 := Lib.hid (And.intro hown (And.intro hb1 hn))
  clear hown hb1 hn hL c1 f1
  go_wp2
  have hd0 : DkAt F (w1.setCell ⟨db, 1, none⟩ (.bool false)) db mb { D with on := false } := (H.out.1.below H1.out.2.1).set1 false
  have ht0 : Tn (two db mb) w (w1.setCell ⟨db, 1, none⟩ (.bool false)) := (Tn.ofBelow H1.out.2.1).trans (Tn.setCell _ _ _ (.inl rfl))
  have ho0 : Own eStr (w1.setCell ⟨db, 1, none⟩ (.bool false)) w.heap.size (.slice an n cn) D.names := by
    have h5 := (Tn.setCell (F := fun q => q = db) w1 ⟨db, 1, none⟩ (.bool false) rfl).row H1.out.1 (fun q hq e => by have := (H1.out.1.lt q hq).1; omega)
    exact h5
  go_loopw [7, 8, 9, 10, 11, 12, 23] (fun _ _ _ _ _ _ iv wr => ∃ i : Nat, i ≤ n ∧ iv = .int .i64 (i : Int) ∧ DkAt F wr db mb { D with m := crashL cuts flip (D.names.take i) 0 D.m, on := false } ∧ Tn (two db mb) w wr ∧ Own eStr wr w.heap.size (.slice an n cn) D.names) (fun _ _ _ _ _ _ iv _ => n - (intOf iv).toNat)
  case atStart => exact ⟨0, by omega, rfl, hd0, ht0, ho0⟩
  case round =>
    clear hd0 ht0 ho0
    obtain ⟨i, hi, rfl, hd, ht, ho⟩ := hrel
    by_cases hlt2 : i < n
    · have hin : i < D.names.length := by have := H1.out.2.2; omega
      obtain ⟨g, rfl, hg1, hg2, hcell⟩ := ho.getT hin
      obtain ⟨nm, hnm⟩ : ∃ nm, D.names[i] = nm := ⟨_, rfl⟩
      rw [hnm] at hcell
      have hmem : nm ∈ (crashL cuts flip (D.names.take i) 0 D.m).map (·.1) := by
        rw [crashL_keys, ← hnm]
        exact (sortB_perm _).mem_iff.1 (List.getElem_mem hin)
      obtain ⟨f, hf⟩ := getL_some hmem
      have hfs := hd.ok.syn _ (getL_mem hf)
      simp only at hfs
      have hnms := hd.ok.nam _ (getL_mem hf)
      simp only at hnms
      have k0 := hd.c0
      obtain ⟨fd, fs⟩ := f
      simp only at hfs
      have hlk : (Instr.lookup 62 (.map (some mb)) (.string nm) false).run Tryz.prog wr = .ok (.agg #[.string fd, .int .i64 (fs : Int)]) wr := by
        have h5 := MapL.look hd.m keyN und_map (z := .agg #[.string ByteArray.empty, .int .i64 0]) (Tryz.zeroValue71 _) false nm
        rw [hf] at h5
        exact h5
      obtain ⟨cval, hcval, hcc⟩ : ∃ cval, cutAt cuts i = cval ∧ ((vl = 0 ∧ cval = 0) ∨ (0 < vl ∧ ∃ b off, av = some ⟨b, off, none⟩ ∧ wr.cell? ⟨b, off + i % vl, none⟩ = some (.int .i64 cval))) := by
        refine ⟨_, rfl, ?_⟩
        rcases Nat.eq_zero_or_pos vl with h0 | h0
        · exact .inl ⟨h0, by unfold cutAt; rw [H.out.2.2.1, if_pos h0]⟩
        · obtain ⟨b, off, e, hb, hbl, hcs⟩ := H.out.2.2.2.resolve_left (fun e => by have := H.out.2.2.1; rw [e] at this; simp at this; omega)
          have hm : i % vl < cuts.length := by rw [H.out.2.2.1]; exact Nat.mod_lt _ h0
          refine .inr ⟨h0, b, off, e, ht.cell ?_ (fun hq => hb hq)⟩
          have hcv : cutAt cuts i = cuts[i % vl] := by
            unfold cutAt
            rw [if_neg (by have := H.out.2.2.1; omega), List.getD_eq_getElem?_getD, H.out.2.2.1, List.getElem?_eq_getElem hm]
            rfl
          rw [hcv]
          exact hcs _ hm
      have HR := Lib.hid (And.intro hd (And.intro ht (And.intro ho (And.intro hf (And.intro hfs (And.intro hnms (And.intro hnm hcval)))))))
      have q1 : fs ≤ fd.size := hfs.1
      have q2 : fd.size ≤ 1048576 := hfs.2
      have hdb : db < wr.heap.size := hd.ltd
      clear hd ht ho hf hfs hnms hnm hcval hmem hg1 k1 kf
      have r1 : (i : Int) < (n : Int) := by omega
      have hkp : min (max cval 0) ((fd.size : Int) - (fs : Int)) = ((keep ⟨fd, fs⟩ cval : Nat) : Int) := by unfold keep; simp only; omega
      have hkl := keep_le ⟨fd, fs⟩ cval q1
      simp only at hkl
      obtain ⟨kp, hkpe⟩ : ∃ kp, keep ⟨fd, fs⟩ cval = kp := ⟨_, rfl⟩
      rw [hkpe] at hkp hkl
      have HKP := Lib.hid hkpe
      clear hkpe
      have hxs : (fd.extract 0 (fs + kp)).size = fs + kp := by rw [ByteArray.size_extract]; omega
      have hxl : (fd.extract 0 (fs + kp)).data.toList = fd.data.toList.take (fs + kp) := by
        rw [ByteArray.data_extract, Array.toList_extract]
        simp
      obtain ⟨ccap, w4, hb4, hz4, hB4, hconv⟩ := conv_b (fd.extract 0 (fs + kp)) (wr.alloc (.cells #[.string fd, .int .i64 (fs : Int)] 71))
      rw [hxs] at hconv
      rw [hxl] at hB4
      have hz40 : (wr.alloc (.cells #[.string fd, .int .i64 (fs : Int)] 71)).heap.size = wr.heap.size + 1 := by simp
      rw [hz40] at hB4 hz4 hconv
      have hb40 : Below wr.heap.size wr w4 := ((Below.refl _ _).alloc (Nat.le_refl _) _).trans (hb4.mono (by simp))
      have hlen4 : (fd.data.toList.take (fs + kp)).length = fs + kp := by rw [← hxl, ← Lib.size_eq, hxs]
      have k4 : w4.cell? ⟨db, 0, none⟩ = some (.map (some mb)) := (hb40.cell (p := ⟨db, 0, none⟩) hdb).trans k0
      have r6 : ((fs : Int) + (kp : Int)).toNat = fs + kp := by omega
      have HB4 := Lib.hid (And.intro hb40 (And.intro hB4 (And.intro hlen4 hz4)))
      have HXL := Lib.hid (And.intro hxl hxs)
      clear hb4 hz4 hB4 hz40 hb40 hlen4 hxl hxs
      have hwl := hkl
      rcases (by omega : kp = 0 ∨ (0 < kp ∧ flip < 1) ∨ (0 < kp ∧ 255 < flip) ∨ (0 < kp ∧ 1 ≤ flip ∧ flip ≤ 255)) with hw | hw | hw | hw
      · have t1 : ¬ (0 : Int) < (kp : Int) := by omega
        clear hw
        rcases hcc with ⟨rfl, rfl⟩ | ⟨hvp, cb, coff, rfl, hcellc⟩
        · have hkq : min 0 ((fd.size : Int) - (fs : Int)) = (kp : Int) := by simpa using hkp
          clear hkp
          go_wp2_with fail
          have kk := k4
          have hkeep : kept ⟨fd, fs⟩ 0 flip = fd.data.toList.take (fs + kp) := by
            unfold kept
            rw [HKP.out]
            exact if_neg (by omega)
          have hcvv : (Value.agg #[.string ⟨(fd.data.toList.take (fs + kp)).toArray⟩, .int .i64 ((fs + kp : Nat) : Int)]) = cvF (cutF ⟨fd, fs⟩ 0 flip) := by
            unfold cvF cutF
            simp only [hkeep]
            rw [HB4.out.2.2.1]
          have hlk4 := HB4.out.2.2.1
          have hcok : (cutF ⟨fd, fs⟩ 0 flip).syn ≤ (cutF ⟨fd, fs⟩ 0 flip).data.size ∧ (cutF ⟨fd, fs⟩ 0 flip).data.size ≤ 1048576 := by
            have e : (cutF ⟨fd, fs⟩ 0 flip).data.size = (cutF ⟨fd, fs⟩ 0 flip).syn := by unfold cutF; simp [Lib.size_mk]
            have e2 : (cutF ⟨fd, fs⟩ 0 flip).syn = fs + kp := by unfold cutF; simp only [hkeep]; rw [HB4.out.2.2.1]
            omega
          have hH5 : HasB w4.drew (wr.heap.size + 1) (fd.data.toList.take (fs + kp)) := HB4.out.2.1
          have hd5 := HR.out.1.below (HB4.out.1.drew)
          have ht5 : Tn (two db mb) w w4.drew := HR.out.2.1.trans (Tn.ofBelow HB4.out.1.drew)
          have ho5 : Own eStr w4.drew w.heap.size (.slice (some ⟨g, 0, none⟩) n cn) D.names := row_below HR.out.2.2.1 HB4.out.1.drew
          have kd1 : w4.drew.cell? ⟨db, 0, none⟩ = some (.map (some mb)) := kk
          have hstr : ∀ W : World, HasB W (wr.heap.size + 1) (fd.data.toList.take (fs + kp)) → (convert 123 9 (.slice (some ⟨wr.heap.size + 1, 0, none⟩) (fs + kp) ccap)).run Tryz.prog W = .ok (.string ⟨(fd.data.toList.take (fs + kp)).toArray⟩) W := fun W hW => hW.str _ _ hlk4.symm
          have hst0 := hstr w4.drew hH5
          refine wp_region_K (fun w' => w'.cell? ⟨db, 0, none⟩ = some (.map (some mb)) ∧ (convert 123 9 (.slice (some ⟨wr.heap.size + 1, 0, none⟩) (fs + kp) ccap)).run Tryz.prog w' = .ok (.string ⟨(fd.data.toList.take (fs + kp)).toArray⟩) w') 10 11 (by kernel_rfl) (by kernel_rfl) ⟨kd1, hst0⟩ (fun hH => ?_)
          refine wpAnyK_take (i := 0) [10] (v := ?v7) rfl (by kernel_rfl) (by kernel_rfl) (by kernel_rfl) (by kernel_rfl) (fun _ _ _ h => h) (Or.inl ⟨by rfl, ?hy7⟩) hH ?rest7
          case hy7 => (intro w hSw; (try dsimp only at hSw); go_simp; with_reducible rfl)
          try simp only [Act.put, List.setIfInBounds_toArray, List.set_cons_zero, List.set_cons_succ]
          refine wpAnyK_take (i := 1) [10] (v := ?v8) rfl (by kernel_rfl) (by kernel_rfl) (by kernel_rfl) (by kernel_rfl) (fun _ _ _ h => h) (Or.inl ⟨by rfl, ?hy8⟩) hH ?rest8
          case hy8 => (intro w hSw; (try dsimp only at hSw); go_simp; with_reducible rfl)
          try simp only [Act.put, List.setIfInBounds_toArray, List.set_cons_zero, List.set_cons_succ]
          refine wpAnyK_take (i := 2) [10] (v := ?v9) rfl (by kernel_rfl) (by kernel_rfl) (by kernel_rfl) (by kernel_rfl) (fun _ _ _ h => h) (Or.inl ⟨by rfl, ?hy9⟩) hH ?rest9
          case hy9 => (intro w hSw; (try dsimp only at hSw); go_simp; with_reducible rfl)
          try simp only [Act.put, List.setIfInBounds_toArray, List.set_cons_zero, List.set_cons_succ]
          refine wpAnyK_take (i := 3) [10] (v := ?v10) rfl (by kernel_rfl) (by kernel_rfl) (by kernel_rfl) (by kernel_rfl) (fun _ _ _ h => h) (Or.inl ⟨by rfl, ?hy10⟩) hH ?rest10
          case hy10 => (intro w hSw; (try dsimp only at hSw); go_simp; with_reducible rfl)
          try simp only [Act.put, List.setIfInBounds_toArray, List.set_cons_zero, List.set_cons_succ]
          refine wpAnyK_take (i := 4) [10] (v := ?v11) rfl (by kernel_rfl) (by kernel_rfl) (by kernel_rfl) (by kernel_rfl) (fun _ _ _ h => h) (Or.inl ⟨by rfl, ?hy11⟩) hH ?rest11
          case hy11 => (intro w hSw; (try dsimp only at hSw); go_simp; with_reducible rfl)
          try simp only [Act.put, List.setIfInBounds_toArray, List.set_cons_zero, List.set_cons_succ]
          refine wpAnyK_take (i := 5) [10] (v := ?v12) rfl (by kernel_rfl) (by kernel_rfl) (by kernel_rfl) (by kernel_rfl) (fun _ _ _ h => h) (Or.inl ⟨by rfl, ?hy12⟩) hH ?rest12
          case hy12 => (intro w hSw; (try dsimp only at hSw); go_simp; with_reducible rfl)
          try simp only [Act.put, List.setIfInBounds_toArray, List.set_cons_zero, List.set_cons_succ]
          refine wpAnyK_take (i := 6) [10] (v := ?v13) rfl (by kernel_rfl) (by kernel_rfl) (by kernel_rfl) (by kernel_rfl) (fun _ _ _ h => h) (Or.inl ⟨by rfl, ?hy13⟩) hH ?rest13
          case hy13 => (intro w hSw; (try dsimp only at hSw); go_simp; with_reducible rfl)
          try simp only [Act.put, List.setIfInBounds_toArray, List.set_cons_zero, List.set_cons_succ]
          refine wpAnyK_take (i := 7) [10] (v := ?v14) rfl (by kernel_rfl) (by kernel_rfl) (by kernel_rfl) (by kernel_rfl) (fun _ _ _ h => h) (Or.inl ⟨by rfl, ?hy14⟩) hH ?rest14
          case hy14 => (intro w hSw; (try dsimp only at hSw); go_simp; with_reducible rfl)
          try simp only [Act.put, List.setIfInBounds_toArray, List.set_cons_zero, List.set_cons_succ]
          refine wpAnyK_take (i := 8) [10] (v := ?v15) rfl (by kernel_rfl) (by kernel_rfl) (by kernel_rfl) (by kernel_rfl) (fun _ _ _ h => h) (Or.inl ⟨by rfl, ?hy15⟩) hH ?rest15
          case hy15 => (intro w hSw; (try dsimp only at hSw); go_simp; with_reducible rfl)
          try simp only [Act.put, List.setIfInBounds_toArray, List.set_cons_zero, List.set_cons_succ]
          refine wpAnyK_take (i := 9) [10] (v := ?v16) rfl (by kernel_rfl) (by kernel_rfl) (by kernel_rfl) (by kernel_rfl) (fun _ _ _ h => h) (Or.inl ⟨by rfl, ?hy16⟩) hH ?rest16
          case hy16 => (intro w hSw; (try dsimp only at hSw); go_simp; with_reducible rfl)
          try simp only [Act.put, List.setIfInBounds_toArray, List.set_cons_zero, List.set_cons_succ]
          refine wpAnyK_last (by kernel_rfl) rfl (fun K hK => ?_) (by kernel_rfl)
          refine step_put rfl _ _ _ rfl keyN und_map rfl hd5.m nm rfl (cutF ⟨fd, fs⟩ 0 flip) hcvv ?_
          intro w6 hm6 ht6 hz6
          refine hK.out _ _ (wpAnyK_done (by kernel_rfl) ?_ _)
          clear hK K hH
          have hfin := hd5.setM ht6 hm6 (hd5.ok.set HR.out.2.2.2.2.2.1 hcok (Nat.le_trans (Nat.le_of_eq (setL_length.2 (by rw [HR.out.2.2.2.1]; rfl))) hd5.ok.few))
          have hown6 : Own eStr w6 w.heap.size (.slice (some ⟨g, 0, none⟩) n cn) D.names := ht6.row ho5 (fun q hq e => by have := (H.out.1.m.lt); have h1 : g = q := Option.some.inj hq; subst h1; subst e; have := (ho5.lt g rfl).1; omega)
          have htt : Tn (two db mb) w w6 := ht5.trans (ht6.mono (fun q hq => .inr hq))
          have HF := Lib.hid (And.intro hfin (And.intro htt hown6))
          clear hfin htt hown6 hm6 ht6 hz6 ho5 ht5 hd5 hst0 hstr kd1 kk hH5
          go_wp2_with fail
          go_roundw
          case rel =>
            refine ⟨i + 1, by omega, by go_num, ?_, HF.out.2.1, HF.out.2.2⟩
            have e7 : crashL cuts flip (D.names.take (i + 1)) 0 D.m = setL (crashL cuts flip (D.names.take i) 0 D.m) nm (cutF ⟨fd, fs⟩ 0 flip) := by
              rw [List.take_succ_eq_append_getElem hin, crashL_app, HR.out.2.2.2.2.2.2.1, HR.out.2.2.2.1]
              simp only [Nat.zero_add]
              rw [List.length_take_of_le (Nat.le_of_lt hin), HR.out.2.2.2.2.2.2.2]
            rw [e7]
            exact HF.out.1
          case measure => simp [intOf]; omega
        · have r2 : (0 : Int) < (vl : Int) := by omega
          have hcb : cb < wr.heap.size := World.block_lt_of_cell? _ _ hcellc
          have r3 : ((i % vl : Nat) : Int) = (i : Int) % (vl : Int) := by omega
          have r4 : (i : Int) % (vl : Int) < (vl : Int) := Int.emod_lt_of_pos _ r2
          have r5 : 0 ≤ (i : Int) % (vl : Int) := Int.emod_nonneg _ (by omega)
          go_wp2_with fail
          have kk := k4
          have hkeep : kept ⟨fd, fs⟩ cval flip = fd.data.toList.take (fs + kp) := by
            unfold kept
            rw [HKP.out]
            exact if_neg (by omega)
          have hcvv : (Value.agg #[.string ⟨(fd.data.toList.take (fs + kp)).toArray⟩, .int .i64 ((fs + kp : Nat) : Int)]) = cvF (cutF ⟨fd, fs⟩ cval flip) := by
            unfold cvF cutF
            simp only [hkeep]
            rw [HB4.out.2.2.1]
          have hlk4 := HB4.out.2.2.1
          have hcok : (cutF ⟨fd, fs⟩ cval flip).syn ≤ (cutF ⟨fd, fs⟩ cval flip).data.size ∧ (cutF ⟨fd, fs⟩ cval flip).data.size ≤ 1048576 := by
            have e : (cutF ⟨fd, fs⟩ cval flip).data.size = (cutF ⟨fd, fs⟩ cval flip).syn := by unfold cutF; simp [Lib.size_mk]
            have e2 : (cutF ⟨fd, fs⟩ cval flip).syn = fs + kp := by unfold cutF; simp only [hkeep]; rw [HB4.out.2.2.1]
            omega
          have hH5 : HasB w4.drew (wr.heap.size + 1) (fd.data.toList.take (fs + kp)) := HB4.out.2.1
          have hd5 := HR.out.1.below (HB4.out.1.drew)
          have ht5 : Tn (two db mb) w w4.drew := HR.out.2.1.trans (Tn.ofBelow HB4.out.1.drew)
          have ho5 : Own eStr w4.drew w.heap.size (.slice (some ⟨g, 0, none⟩) n cn) D.names := row_below HR.out.2.2.1 HB4.out.1.drew
          have kd1 : w4.drew.cell? ⟨db, 0, none⟩ = some (.map (some mb)) := kk
          have hstr : ∀ W : World, HasB W (wr.heap.size + 1) (fd.data.toList.take (fs + kp)) → (convert 123 9 (.slice (some ⟨wr.heap.size + 1, 0, none⟩) (fs + kp) ccap)).run Tryz.prog W = .ok (.string ⟨(fd.data.toList.take (fs + kp)).toArray⟩) W := fun W hW => hW.str _ _ hlk4.symm
          have hst0 := hstr w4.drew hH5
          refine wp_region_K (fun w' => w'.cell? ⟨db, 0, none⟩ = some (.map (some mb)) ∧ (convert 123 9 (.slice (some ⟨wr.heap.size + 1, 0, none⟩) (fs + kp) ccap)).run Tryz.prog w' = .ok (.string ⟨(fd.data.toList.take (fs + kp)).toArray⟩) w') 10 11 (by kernel_rfl) (by kernel_rfl) ⟨kd1, hst0⟩ (fun hH => ?_)
          refine wpAnyK_take (i := 0) [10] (v := ?v17) rfl (by kernel_rfl) (by kernel_rfl) (by kernel_rfl) (by kernel_rfl) (fun _ _ _ h => h) (Or.inl ⟨by rfl, ?hy17⟩) hH ?rest17
          case hy17 => (intro w hSw; (try dsimp only at hSw); go_simp; with_reducible rfl)
          try simp only [Act.put, List.setIfInBounds_toArray, List.set_cons_zero, List.set_cons_succ]
          refine wpAnyK_take (i := 1) [10] (v := ?v18) rfl (by kernel_rfl) (by kernel_rfl) (by kernel_rfl) (by kernel_rfl) (fun _ _ _ h => h) (Or.inl ⟨by rfl, ?hy18⟩) hH ?rest18
          case hy18 => (intro w hSw; (try dsimp only at hSw); go_simp; with_reducible rfl)
          try simp only [Act.put, List.setIfInBounds_toArray, List.set_cons_zero, List.set_cons_succ]
          refine wpAnyK_take (i := 2) [10] (v := ?v19) rfl (by kernel_rfl) (by kernel_rfl) (by kernel_rfl) (by kernel_rfl) (fun _ _ _ h => h) (Or.inl ⟨by rfl, ?hy19⟩) hH ?rest19
          case hy19 => (intro w hSw; (try dsimp only at hSw); go_simp; with_reducible rfl)
          try simp only [Act.put, List.setIfInBounds_toArray, List.set_cons_zero, List.set_cons_succ]
          refine wpAnyK_take (i := 3) [10] (v := ?v20) rfl (by kernel_rfl) (by kernel_rfl) (by kernel_rfl) (by kernel_rfl) (fun _ _ _ h => h) (Or.inl ⟨by rfl, ?hy20⟩) hH ?rest20
          case hy20 => (intro w hSw; (try dsimp only at hSw); go_simp; with_reducible rfl)
          try simp only [Act.put, List.setIfInBounds_toArray, List.set_cons_zero, List.set_cons_succ]
          refine wpAnyK_take (i := 4) [10] (v := ?v21) rfl (by kernel_rfl) (by kernel_rfl) (by kernel_rfl) (by kernel_rfl) (fun _ _ _ h => h) (Or.inl ⟨by rfl, ?hy21⟩) hH ?rest21
          case hy21 => (intro w hSw; (try dsimp only at hSw); go_simp; with_reducible rfl)
          try simp only [Act.put, List.setIfInBounds_toArray, List.set_cons_zero, List.set_cons_succ]
          refine wpAnyK_take (i := 5) [10] (v := ?v22) rfl (by kernel_rfl) (by kernel_rfl) (by kernel_rfl) (by kernel_rfl) (fun _ _ _ h => h) (Or.inl ⟨by rfl, ?hy22⟩) hH ?rest22
          case hy22 => (intro w hSw; (try dsimp only at hSw); go_simp; with_reducible rfl)
          try simp only [Act.put, List.setIfInBounds_toArray, List.set_cons_zero, List.set_cons_succ]
          refine wpAnyK_take (i := 6) [10] (v := ?v23) rfl (by kernel_rfl) (by kernel_rfl) (by kernel_rfl) (by kernel_rfl) (fun _ _ _ h => h) (Or.inl ⟨by rfl, ?hy23⟩) hH ?rest23
          case hy23 => (intro w hSw; (try dsimp only at hSw); go_simp; with_reducible rfl)
          try simp only [Act.put, List.setIfInBounds_toArray, List.set_cons_zero, List.set_cons_succ]
          refine wpAnyK_take (i := 7) [10] (v := ?v24) rfl (by kernel_rfl) (by kernel_rfl) (by kernel_rfl) (by kernel_rfl) (fun _ _ _ h => h) (Or.inl ⟨by rfl, ?hy24⟩) hH ?rest24
          case hy24 => (intro w hSw; (try dsimp only at hSw); go_simp; with_reducible rfl)
          try simp only [Act.put, List.setIfInBounds_toArray, List.set_cons_zero, List.set_cons_succ]
          refine wpAnyK_take (i := 8) [10] (v := ?v25) rfl (by kernel_rfl) (by kernel_rfl) (by kernel_rfl) (by kernel_rfl) (fun _ _ _ h => h) (Or.inl ⟨by rfl, ?hy25⟩) hH ?rest25
          case hy25 => (intro w hSw; (try dsimp only at hSw); go_simp; with_reducible rfl)
          try simp only [Act.put, List.setIfInBounds_toArray, List.set_cons_zero, List.set_cons_succ]
          refine wpAnyK_take (i := 9) [10] (v := ?v26) rfl (by kernel_rfl) (by kernel_rfl) (by kernel_rfl) (by kernel_rfl) (fun _ _ _ h => h) (Or.inl ⟨by rfl, ?hy26⟩) hH ?rest26
          case hy26 => (intro w hSw; (try dsimp only at hSw); go_simp; with_reducible rfl)
          try simp only [Act.put, List.setIfInBounds_toArray, List.set_cons_zero, List.set_cons_succ]
          refine wpAnyK_last (by kernel_rfl) rfl (fun K hK => ?_) (by kernel_rfl)
          refine step_put rfl _ _ _ rfl keyN und_map rfl hd5.m nm rfl (cutF ⟨fd, fs⟩ cval flip) hcvv ?_
          intro w6 hm6 ht6 hz6
          refine hK.out _ _ (wpAnyK_done (by kernel_rfl) ?_ _)
          clear hK K hH
          have hfin := hd5.setM ht6 hm6 (hd5.ok.set HR.out.2.2.2.2.2.1 hcok (Nat.le_trans (Nat.le_of_eq (setL_length.2 (by rw [HR.out.2.2.2.1]; rfl))) hd5.ok.few))
          have hown6 : Own eStr w6 w.heap.size (.slice (some ⟨g, 0, none⟩) n cn) D.names := ht6.row ho5 (fun q hq e => by have := (H.out.1.m.lt); have h1 : g = q := Option.some.inj hq; subst h1; subst e; have := (ho5.lt g rfl).1; omega)
          have htt : Tn (two db mb) w w6 := ht5.trans (ht6.mono (fun q hq => .inr hq))
          have HF := Lib.hid (And.intro hfin (And.intro htt hown6))
          clear hfin htt hown6 hm6 ht6 hz6 ho5 ht5 hd5 hst0 hstr kd1 kk hH5
          go_wp2_with fail
          go_roundw
          case rel =>
            refine ⟨i + 1, by omega, by go_num, ?_, HF.out.2.1, HF.out.2.2⟩
            have e7 : crashL cuts flip (D.names.take (i + 1)) 0 D.m = setL (crashL cuts flip (D.names.take i) 0 D.m) nm (cutF ⟨fd, fs⟩ cval flip) := by
              rw [List.take_succ_eq_append_getElem hin, crashL_app, HR.out.2.2.2.2.2.2.1, HR.out.2.2.2.1]
              simp only [Nat.zero_add]
              rw [List.length_take_of_le (Nat.le_of_lt hin), HR.out.2.2.2.2.2.2.2]
            rw [e7]
            exact HF.out.1
          case measure => simp [intOf]; omega
      · have t1 : (0 : Int) < (kp : Int) := by omega
        have t2 : ¬ (1 : Int) ≤ flip := by omega
        clear hw
        rcases hcc with ⟨rfl, rfl⟩ | ⟨hvp, cb, coff, rfl, hcellc⟩
        · exfalso; omega
        · have r2 : (0 : Int) < (vl : Int) := by omega
          have hcb : cb < wr.heap.size := World.block_lt_of_cell? _ _ hcellc
          have r3 : ((i % vl : Nat) : Int) = (i : Int) % (vl : Int) := by omega
          have r4 : (i : Int) % (vl : Int) < (vl : Int) := Int.emod_lt_of_pos _ r2
          have r5 : 0 ≤ (i : Int) % (vl : Int) := Int.emod_nonneg _ (by omega)
          go_wp2_with fail
          have kk := k4
          have hkeep : kept ⟨fd, fs⟩ cval flip = fd.data.toList.take (fs + kp) := by
            unfold kept
            rw [HKP.out]
            exact if_neg (by omega)
          have hcvv : (Value.agg #[.string ⟨(fd.data.toList.take (fs + kp)).toArray⟩, .int .i64 ((fs + kp : Nat) : Int)]) = cvF (cutF ⟨fd, fs⟩ cval flip) := by
            unfold cvF cutF
            simp only [hkeep]
            rw [HB4.out.2.2.1]
          have hlk4 := HB4.out.2.2.1
          have hcok : (cutF ⟨fd, fs⟩ cval flip).syn ≤ (cutF ⟨fd, fs⟩ cval flip).data.size ∧ (cutF ⟨fd, fs⟩ cval flip).data.size ≤ 1048576 := by
            have e : (cutF ⟨fd, fs⟩ cval flip).data.size = (cutF ⟨fd, fs⟩ cval flip).syn := by unfold cutF; simp [Lib.size_mk]
            have e2 : (cutF ⟨fd, fs⟩ cval flip).syn = fs + kp := by unfold cutF; simp only [hkeep]; rw [HB4.out.2.2.1]
            omega
          have hH5 : HasB w4.drew (wr.heap.size + 1) (fd.data.toList.take (fs + kp)) := HB4.out.2.1
          have hd5 := HR.out.1.below (HB4.out.1.drew)
          have ht5 : Tn (two db mb) w w4.drew := HR.out.2.1.trans (Tn.ofBelow HB4.out.1.drew)
          have ho5 : Own eStr w4.drew w.heap.size (.slice (some ⟨g, 0, none⟩) n cn) D.names := row_below HR.out.2.2.1 HB4.out.1.drew
          have kd1 : w4.drew.cell? ⟨db, 0, none⟩ = some (.map (some mb)) := kk
          have hstr : ∀ W : World, HasB W (wr.heap.size + 1) (fd.data.toList.take (fs + kp)) → (convert 123 9 (.slice (some ⟨wr.heap.size + 1, 0, none⟩) (fs + kp) ccap)).run Tryz.prog W = .ok (.string ⟨(fd.data.toList.take (fs + kp)).toArray⟩) W := fun W hW => hW.str _ _ hlk4.symm
          have hst0 := hstr w4.drew hH5
          refine wp_region_K (fun w' => w'.cell? ⟨db, 0, none⟩ = some (.map (some mb)) ∧ (convert 123 9 (.slice (some ⟨wr.heap.size + 1, 0, none⟩) (fs + kp) ccap)).run Tryz.prog w' = .ok (.string ⟨(fd.data.toList.take (fs + kp)).toArray⟩) w') 10 11 (by kernel_rfl) (by kernel_rfl) ⟨kd1, hst0⟩ (fun hH => ?_)
          refine wpAnyK_take (i := 0) [10] (v := ?v27) rfl (by kernel_rfl) (by kernel_rfl) (by kernel_rfl) (by kernel_rfl) (fun _ _ _ h => h) (Or.inl ⟨by rfl, ?hy27⟩) hH ?rest27
          case hy27 => (intro w hSw; (try dsimp only at hSw); go_simp; with_reducible rfl)
          try simp only [Act.put, List.setIfInBounds_toArray, List.set_cons_zero, List.set_cons_succ]
          refine wpAnyK_take (i := 1) [10] (v := ?v28) rfl (by kernel_rfl) (by kernel_rfl) (by kernel_rfl) (by kernel_rfl) (fun _ _ _ h => h) (Or.inl ⟨by rfl, ?hy28⟩) hH ?rest28
          case hy28 => (intro w hSw; (try dsimp only at hSw); go_simp; with_reducible rfl)
          try simp only [Act.put, List.setIfInBounds_toArray, List.set_cons_zero, List.set_cons_succ]
          refine wpAnyK_take (i := 2) [10] (v := ?v29) rfl (by kernel_rfl) (by kernel_rfl) (by kernel_rfl) (by kernel_rfl) (fun _ _ _ h => h) (Or.inl ⟨by rfl, ?hy29⟩) hH ?rest29
          case hy29 => (intro w hSw; (try dsimp only at hSw); go_simp; with_reducible rfl)
          try simp only [Act.put, List.setIfInBounds_toArray, List.set_cons_zero, List.set_cons_succ]
          refine wpAnyK_take (i := 3) [10] (v := ?v30) rfl (by kernel_rfl) (by kernel_rfl) (by kernel_rfl) (by kernel_rfl) (fun _ _ _ h => h) (Or.inl ⟨by rfl, ?hy30⟩) hH ?rest30
          case hy30 => (intro w hSw; (try dsimp only at hSw); go_simp; with_reducible rfl)
          try simp only [Act.put, List.setIfInBounds_toArray, List.set_cons_zero, List.set_cons_succ]
          refine wpAnyK_take (i := 4) [10] (v := ?v31) rfl (by kernel_rfl) (by kernel_rfl) (by kernel_rfl) (by kernel_rfl) (fun _ _ _ h => h) (Or.inl ⟨by rfl, ?hy31⟩) hH ?rest31
          case hy31 => (intro w hSw; (try dsimp only at hSw); go_simp; with_reducible rfl)
          try simp only [Act.put, List.setIfInBounds_toArray, List.set_cons_zero, List.set_cons_succ]
          refine wpAnyK_take (i := 5) [10] (v := ?v32) rfl (by kernel_rfl) (by kernel_rfl) (by kernel_rfl) (by kernel_rfl) (fun _ _ _ h => h) (Or.inl ⟨by rfl, ?hy32⟩) hH ?rest32
          case hy32 => (intro w hSw; (try dsimp only at hSw); go_simp; with_reducible rfl)
          try simp only [Act.put, List.setIfInBounds_toArray, List.set_cons_zero, List.set_cons_succ]
          refine wpAnyK_take (i := 6) [10] (v := ?v33) rfl (by kernel_rfl) (by kernel_rfl) (by kernel_rfl) (by kernel_rfl) (fun _ _ _ h => h) (Or.inl ⟨by rfl, ?hy33⟩) hH ?rest33
          case hy33 => (intro w hSw; (try dsimp only at hSw); go_simp; with_reducible rfl)
          try simp only [Act.put, List.setIfInBounds_toArray, List.set_cons_zero, List.set_cons_succ]
          refine wpAnyK_take (i := 7) [10] (v := ?v34) rfl (by kernel_rfl) (by kernel_rfl) (by kernel_rfl) (by kernel_rfl) (fun _ _ _ h => h) (Or.inl ⟨by rfl, ?hy34⟩) hH ?rest34
          case hy34 => (intro w hSw; (try dsimp only at hSw); go_simp; with_reducible rfl)
          try simp only [Act.put, List.setIfInBounds_toArray, List.set_cons_zero, List.set_cons_succ]
          refine wpAnyK_take (i := 8) [10] (v := ?v35) rfl (by kernel_rfl) (by kernel_rfl) (by kernel_rfl) (by kernel_rfl) (fun _ _ _ h => h) (Or.inl ⟨by rfl, ?hy35⟩) hH ?rest35
          case hy35 => (intro w hSw; (try dsimp only at hSw); go_simp; with_reducible rfl)
          try simp only [Act.put, List.setIfInBounds_toArray, List.set_cons_zero, List.set_cons_succ]
          refine wpAnyK_take (i := 9) [10] (v := ?v36) rfl (by kernel_rfl) (by kernel_rfl) (by kernel_rfl) (by kernel_rfl) (fun _ _ _ h => h) (Or.inl ⟨by rfl, ?hy36⟩) hH ?rest36
          case hy36 => (intro w hSw; (try dsimp only at hSw); go_simp; with_reducible rfl)
          try simp only [Act.put, List.setIfInBounds_toArray, List.set_cons_zero, List.set_cons_succ]
          refine wpAnyK_last (by kernel_rfl) rfl (fun K hK => ?_) (by kernel_rfl)
          refine step_put rfl _ _ _ rfl keyN und_map rfl hd5.m nm rfl (cutF ⟨fd, fs⟩ cval flip) hcvv ?_
          intro w6 hm6 ht6 hz6
          refine hK.out _ _ (wpAnyK_done (by kernel_rfl) ?_ _)
          clear hK K hH
          have hfin := hd5.setM ht6 hm6 (hd5.ok.set HR.out.2.2.2.2.2.1 hcok (Nat.le_trans (Nat.le_of_eq (setL_length.2 (by rw [HR.out.2.2.2.1]; rfl))) hd5.ok.few))
          have hown6 : Own eStr w6 w.heap.size (.slice (some ⟨g, 0, none⟩) n cn) D.names := ht6.row ho5 (fun q hq e => by have := (H.out.1.m.lt); have h1 : g = q := Option.some.inj hq; subst h1; subst e; have := (ho5.lt g rfl).1; omega)
          have htt : Tn (two db mb) w w6 := ht5.trans (ht6.mono (fun q hq => .inr hq))
          have HF := Lib.hid (And.intro hfin (And.intro htt hown6))
          clear hfin htt hown6 hm6 ht6 hz6 ho5 ht5 hd5 hst0 hstr kd1 kk hH5
          go_wp2_with fail
          go_roundw
          case rel =>
            refine ⟨i + 1, by omega, by go_num, ?_, HF.out.2.1, HF.out.2.2⟩
            have e7 : crashL cuts flip (D.names.take (i + 1)) 0 D.m = setL (crashL cuts flip (D.names.take i) 0 D.m) nm (cutF ⟨fd, fs⟩ cval flip) := by
              rw [List.take_succ_eq_append_getElem hin, crashL_app, HR.out.2.2.2.2.2.2.1, HR.out.2.2.2.1]
              simp only [Nat.zero_add]
              rw [List.length_take_of_le (Nat.le_of_lt hin), HR.out.2.2.2.2.2.2.2]
            rw [e7]
            exact HF.out.1
          case measure => simp [intOf]; omega
      · have t1 : (0 : Int) < (kp : Int) := by omega
        have t2 : (1 : Int) ≤ flip := by omega
        have t3 : ¬ flip ≤ (255 : Int) := by omega
        clear hw
        rcases hcc with ⟨rfl, rfl⟩ | ⟨hvp, cb, coff, rfl, hcellc⟩
        · exfalso; omega
        · have r2 : (0 : Int) < (vl : Int) := by omega
          have hcb : cb < wr.heap.size := World.block_lt_of_cell? _ _ hcellc
          have r3 : ((i % vl : Nat) : Int) = (i : Int) % (vl : Int) := by omega
          have r4 : (i : Int) % (vl : Int) < (vl : Int) := Int.emod_lt_of_pos _ r2
          have r5 : 0 ≤ (i : Int) % (vl : Int) := Int.emod_nonneg _ (by omega)
          go_wp2_with fail
          have kk := k4
          have hkeep : kept ⟨fd, fs⟩ cval flip = fd.data.toList.take (fs + kp) := by
            unfold kept
            rw [HKP.out]
            exact if_neg (by omega)
          have hcvv : (Value.agg #[.string ⟨(fd.data.toList.take (fs + kp)).toArray⟩, .int .i64 ((fs + kp : Nat) : Int)]) = cvF (cutF ⟨fd, fs⟩ cval flip) := by
            unfold cvF cutF
            simp only [hkeep]
            rw [HB4.out.2.2.1]
          have hlk4 := HB4.out.2.2.1
          have hcok : (cutF ⟨fd, fs⟩ cval flip).syn ≤ (cutF ⟨fd, fs⟩ cval flip).data.size ∧ (cutF ⟨fd, fs⟩ cval flip).data.size ≤ 1048576 := by
            have e : (cutF ⟨fd, fs⟩ cval flip).data.size = (cutF ⟨fd, fs⟩ cval flip).syn := by unfold cutF; simp [Lib.size_mk]
            have e2 : (cutF ⟨fd, fs⟩ cval flip).syn = fs + kp := by unfold cutF; simp only [hkeep]; rw [HB4.out.2.2.1]
            omega
          have hH5 : HasB w4.drew (wr.heap.size + 1) (fd.data.toList.take (fs + kp)) := HB4.out.2.1
          have hd5 := HR.out.1.below (HB4.out.1.drew)
          have ht5 : Tn (two db mb) w w4.drew := HR.out.2.1.trans (Tn.ofBelow HB4.out.1.drew)
          have ho5 : Own eStr w4.drew w.heap.size (.slice (some ⟨g, 0, none⟩) n cn) D.names := row_below HR.out.2.2.1 HB4.out.1.drew
          have kd1 : w4.drew.cell? ⟨db, 0, none⟩ = some (.map (some mb)) := kk
          have hstr : ∀ W : World, HasB W (wr.heap.size + 1) (fd.data.toList.take (fs + kp)) → (convert 123 9 (.slice (some ⟨wr.heap.size + 1, 0, none⟩) (fs + kp) ccap)).run Tryz.prog W = .ok (.string ⟨(fd.data.toList.take (fs + kp)).toArray⟩) W := fun W hW => hW.str _ _ hlk4.symm
          have hst0 := hstr w4.drew hH5
          refine wp_region_K (fun w' => w'.cell? ⟨db, 0, none⟩ = some (.map (some mb)) ∧ (convert 123 9 (.slice (some ⟨wr.heap.size + 1, 0, none⟩) (fs + kp) ccap)).run Tryz.prog w' = .ok (.string ⟨(fd.data.toList.take (fs + kp)).toArray⟩) w') 10 11 (by kernel_rfl) (by kernel_rfl) ⟨kd1, hst0⟩ (fun hH => ?_)
          refine wpAnyK_take (i := 0) [10] (v := ?v37) rfl (by kernel_rfl) (by kernel_rfl) (by kernel_rfl) (by kernel_rfl) (fun _ _ _ h => h) (Or.inl ⟨by rfl, ?hy37⟩) hH ?rest37
          case hy37 => (intro w hSw; (try dsimp only at hSw); go_simp; with_reducible rfl)
          try simp only [Act.put, List.setIfInBounds_toArray, List.set_cons_zero, List.set_cons_succ]
          refine wpAnyK_take (i := 1) [10] (v := ?v38) rfl (by kernel_rfl) (by kernel_rfl) (by kernel_rfl) (by kernel_rfl) (fun _ _ _ h => h) (Or.inl ⟨by rfl, ?hy38⟩) hH ?rest38
          case hy38 => (intro w hSw; (try dsimp only at hSw); go_simp; with_reducible rfl)
          try simp only [Act.put, List.setIfInBounds_toArray, List.set_cons_zero, List.set_cons_succ]
          refine wpAnyK_take (i := 2) [10] (v := ?v39) rfl (by kernel_rfl) (by kernel_rfl) (by kernel_rfl) (by kernel_rfl) (fun _ _ _ h => h) (Or.inl ⟨by rfl, ?hy39⟩) hH ?rest39
          case hy39 => (intro w hSw; (try dsimp only at hSw); go_simp; with_reducible rfl)
          try simp only [Act.put, List.setIfInBounds_toArray, List.set_cons_zero, List.set_cons_succ]
          refine wpAnyK_take (i := 3) [10] (v := ?v40) rfl (by kernel_rfl) (by kernel_rfl) (by kernel_rfl) (by kernel_rfl) (fun _ _ _ h => h) (Or.inl ⟨by rfl, ?hy40⟩) hH ?rest40
          case hy40 => (intro w hSw; (try dsimp only at hSw); go_simp; with_reducible rfl)
          try simp only [Act.put, List.setIfInBounds_toArray, List.set_cons_zero, List.set_cons_succ]
          refine wpAnyK_take (i := 4) [10] (v := ?v41) rfl (by kernel_rfl) (by kernel_rfl) (by kernel_rfl) (by kernel_rfl) (fun _ _ _ h => h) (Or.inl ⟨by rfl, ?hy41⟩) hH ?rest41
          case hy41 => (intro w hSw; (try dsimp only at hSw); go_simp; with_reducible rfl)
          try simp only [Act.put, List.setIfInBounds_toArray, List.set_cons_zero, List.set_cons_succ]
          refine wpAnyK_take (i := 5) [10] (v := ?v42) rfl (by kernel_rfl) (by kernel_rfl) (by kernel_rfl) (by kernel_rfl) (fun _ _ _ h => h) (Or.inl ⟨by rfl, ?hy42⟩) hH ?rest42
          case hy42 => (intro w hSw; (try dsimp only at hSw); go_simp; with_reducible rfl)
          try simp only [Act.put, List.setIfInBounds_toArray, List.set_cons_zero, List.set_cons_succ]
          refine wpAnyK_take (i := 6) [10] (v := ?v43) rfl (by kernel_rfl) (by kernel_rfl) (by kernel_rfl) (by kernel_rfl) (fun _ _ _ h => h) (Or.inl ⟨by rfl, ?hy43⟩) hH ?rest43
          case hy43 => (intro w hSw; (try dsimp only at hSw); go_simp; with_reducible rfl)
          try simp only [Act.put, List.setIfInBounds_toArray, List.set_cons_zero, List.set_cons_succ]
          refine wpAnyK_take (i := 7) [10] (v := ?v44) rfl (by kernel_rfl) (by kernel_rfl) (by kernel_rfl) (by kernel_rfl) (fun _ _ _ h => h) (Or.inl ⟨by rfl, ?hy44⟩) hH ?rest44
          case hy44 => (intro w hSw; (try dsimp only at hSw); go_simp; with_reducible rfl)
          try simp only [Act.put, List.setIfInBounds_toArray, List.set_cons_zero, List.set_cons_succ]
          refine wpAnyK_take (i := 8) [10] (v := ?v45) rfl (by kernel_rfl) (by kernel_rfl) (by kernel_rfl) (by kernel_rfl) (fun _ _ _ h => h) (Or.inl ⟨by rfl, ?hy45⟩) hH ?rest45
          case hy45 => (intro w hSw; (try dsimp only at hSw); go_simp; with_reducible rfl)
          try simp only [Act.put, List.setIfInBounds_toArray, List.set_cons_zero, List.set_cons_succ]
          refine wpAnyK_take (i := 9) [10] (v := ?v46) rfl (by kernel_rfl) (by kernel_rfl) (by kernel_rfl) (by kernel_rfl) (fun _ _ _ h => h) (Or.inl ⟨by rfl, ?hy46⟩) hH ?rest46
          case hy46 => (intro w hSw; (try dsimp only at hSw); go_simp; with_reducible rfl)
          try simp only [Act.put, List.setIfInBounds_toArray, List.set_cons_zero, List.set_cons_succ]
          refine wpAnyK_last (by kernel_rfl) rfl (fun K hK => ?_) (by kernel_rfl)
          refine step_put rfl _ _ _ rfl keyN und_map rfl hd5.m nm rfl (cutF ⟨fd, fs⟩ cval flip) hcvv ?_
          intro w6 hm6 ht6 hz6
          refine hK.out _ _ (wpAnyK_done (by kernel_rfl) ?_ _)
          clear hK K hH
          have hfin := hd5.setM ht6 hm6 (hd5.ok.set HR.out.2.2.2.2.2.1 hcok (Nat.le_trans (Nat.le_of_eq (setL_length.2 (by rw [HR.out.2.2.2.1]; rfl))) hd5.ok.few))
          have hown6 : Own eStr w6 w.heap.size (.slice (some ⟨g, 0, none⟩) n cn) D.names := ht6.row ho5 (fun q hq e => by have := (H.out.1.m.lt); have h1 : g = q := Option.some.inj hq; subst h1; subst e; have := (ho5.lt g rfl).1; omega)
          have htt : Tn (two db mb) w w6 := ht5.trans (ht6.mono (fun q hq => .inr hq))
          have HF := Lib.hid (And.intro hfin (And.intro htt hown6))
          clear hfin htt hown6 hm6 ht6 hz6 ho5 ht5 hd5 hst0 hstr kd1 kk hH5
          go_wp2_with fail
          go_roundw
          case rel =>
            refine ⟨i + 1, by omega, by go_num, ?_, HF.out.2.1, HF.out.2.2⟩
            have e7 : crashL cuts flip (D.names.take (i + 1)) 0 D.m = setL (crashL cuts flip (D.names.take i) 0 D.m) nm (cutF ⟨fd, fs⟩ cval flip) := by
              rw [List.take_succ_eq_append_getElem hin, crashL_app, HR.out.2.2.2.2.2.2.1, HR.out.2.2.2.1]
              simp only [Nat.zero_add]
              rw [List.length_take_of_le (Nat.le_of_lt hin), HR.out.2.2.2.2.2.2.2]
            rw [e7]
            exact HF.out.1
          case measure => simp [intOf]; omega
      · have t1 : (0 : Int) < (kp : Int) := by omega
        have t2 : (1 : Int) ≤ flip := by omega
        have t3 : flip ≤ (255 : Int) := by omega
        clear hw
        have hj0 : fs + kp - 1 < (fd.data.toList.take (fs + kp)).length := by rw [HB4.out.2.2.1]; omega
        obtain ⟨lb, hlb⟩ : ∃ lb, (fd.data.toList.take (fs + kp))[fs + kp - 1]? = some lb := ⟨_, List.getElem?_eq_getElem hj0⟩
        have u1 := (HB4.out.2.1 (fs + kp - 1) hj0).1
        have u2 := (HB4.out.2.1 (fs + kp - 1) hj0).2
        have e0 := hlb
        rw [List.getElem?_eq_getElem hj0] at e0
        rw [Option.some.inj e0] at u1
        have HLB := Lib.hid hlb
        clear hlb e0 hj0
        rcases hcc with ⟨rfl, rfl⟩ | ⟨hvp, cb, coff, rfl, hcellc⟩
        · exfalso; omega
        · have r2 : (0 : Int) < (vl : Int) := by omega
          have hcb : cb < wr.heap.size := World.block_lt_of_cell? _ _ hcellc
          have r3 : ((i % vl : Nat) : Int) = (i : Int) % (vl : Int) := by omega
          have r4 : (i : Int) % (vl : Int) < (vl : Int) := Int.emod_lt_of_pos _ r2
          have r5 : 0 ≤ (i : Int) % (vl : Int) := Int.emod_nonneg _ (by omega)
          go_wp2_with fail
          have hxr : bits BinOp.xor IntKind.u8 (lb.toNat : Int) flip = ((lb ^^^ UInt8.ofNat flip.toNat).toNat : Int) := by
            rw [u8_xor _ _ (by omega) (by have := lb.toNat_lt; omega) (by omega) (by omega), UInt8.toNat_xor, UInt8.toNat_ofNat', Int.toNat_natCast, Nat.mod_eq_of_lt (show flip.toNat < 2 ^ 8 by omega)]
          rw [hxr]
          clear hxr
          obtain ⟨w5, hw5⟩ : ∃ w5, w4.setCell ⟨wr.heap.size + 1, fs + kp - 1, none⟩ (.int .u8 ((lb ^^^ UInt8.ofNat flip.toNat).toNat : Int)) = w5 := ⟨_, rfl⟩
          rw [hw5]
          have hspo : spoil (fd.data.toList.take (fs + kp)) flip = (fd.data.toList.take (fs + kp)).set (fs + kp - 1) (lb ^^^ UInt8.ofNat flip.toNat) := by
            unfold spoil
            rw [HB4.out.2.2.1, List.getD_eq_getElem?_getD, HLB.out]
            rfl
          have hH5 : HasB w5.drew (wr.heap.size + 1) (spoil (fd.data.toList.take (fs + kp)) flip) := by
            rw [hspo, ← hw5]
            exact HB4.out.2.1.set _ _
          have hb5 : Below wr.heap.size wr w5.drew := by rw [← hw5]; exact (HB4.out.1.setCell (by simp) _).drew
          have kk : w5.cell? ⟨db, 0, none⟩ = some (.map (some mb)) := (hb5.cell (p := ⟨db, 0, none⟩) hdb).trans k0
          have hlk4 : (spoil (fd.data.toList.take (fs + kp)) flip).length = fs + kp := by rw [spoil_len]; exact HB4.out.2.2.1
          have hkeep : kept ⟨fd, fs⟩ cval flip = spoil (fd.data.toList.take (fs + kp)) flip := by
            unfold kept
            rw [HKP.out]
            exact if_pos ⟨by omega, by omega, by omega⟩
          have hcvv : (Value.agg #[.string ⟨(spoil (fd.data.toList.take (fs + kp)) flip).toArray⟩, .int .i64 ((fs + kp : Nat) : Int)]) = cvF (cutF ⟨fd, fs⟩ cval flip) := by
            unfold cvF cutF
            simp only [hkeep]
            rw [hlk4]
          have hcok : (cutF ⟨fd, fs⟩ cval flip).syn ≤ (cutF ⟨fd, fs⟩ cval flip).data.size ∧ (cutF ⟨fd, fs⟩ cval flip).data.size ≤ 1048576 := by
            have e : (cutF ⟨fd, fs⟩ cval flip).data.size = (cutF ⟨fd, fs⟩ cval flip).syn := by unfold cutF; simp [Lib.size_mk]
            have e2 : (cutF ⟨fd, fs⟩ cval flip).syn = fs + kp := by unfold cutF; simp only [hkeep]; exact hlk4
            omega
          have hd5 := HR.out.1.below hb5
          have ht5 : Tn (two db mb) w w5.drew := HR.out.2.1.trans (Tn.ofBelow hb5)
          have ho5 : Own eStr w5.drew w.heap.size (.slice (some ⟨g, 0, none⟩) n cn) D.names := row_below HR.out.2.2.1 hb5
          clear hw5 hspo
          have kd1 : w5.drew.cell? ⟨db, 0, none⟩ = some (.map (some mb)) := kk
          have hstr : ∀ W : World, HasB W (wr.heap.size + 1) (spoil (fd.data.toList.take (fs + kp)) flip) → (convert 123 9 (.slice (some ⟨wr.heap.size + 1, 0, none⟩) (fs + kp) ccap)).run Tryz.prog W = .ok (.string ⟨(spoil (fd.data.toList.take (fs + kp)) flip).toArray⟩) W := fun W hW => hW.str _ _ hlk4.symm
          have hst0 := hstr w5.drew hH5
          refine wp_region_K (fun w' => w'.cell? ⟨db, 0, none⟩ = some (.map (some mb)) ∧ (convert 123 9 (.slice (some ⟨wr.heap.size + 1, 0, none⟩) (fs + kp) ccap)).run Tryz.prog w' = .ok (.string ⟨(spoil (fd.data.toList.take (fs + kp)) flip).toArray⟩) w') 10 11 (by kernel_rfl) (by kernel_rfl) ⟨kd1, hst0⟩ (fun hH => ?_)
          refine wpAnyK_take (i := 0) [10] (v := ?v47) rfl (by kernel_rfl) (by kernel_rfl) (by kernel_rfl) (by kernel_rfl) (fun _ _ _ h => h) (Or.inl ⟨by rfl, ?hy47⟩) hH ?rest47
          case hy47 => (intro w hSw; (try dsimp only at hSw); go_simp; with_reducible rfl)
          try simp only [Act.put, List.setIfInBounds_toArray, List.set_cons_zero, List.set_cons_succ]
          refine wpAnyK_take (i := 1) [10] (v := ?v48) rfl (by kernel_rfl) (by kernel_rfl) (by kernel_rfl) (by kernel_rfl) (fun _ _ _ h => h) (Or.inl ⟨by rfl, ?hy48⟩) hH ?rest48
          case hy48 => (intro w hSw; (try dsimp only at hSw); go_simp; with_reducible rfl)
          try simp only [Act.put, List.setIfInBounds_toArray, List.set_cons_zero, List.set_cons_succ]
          refine wpAnyK_take (i := 2) [10] (v := ?v49) rfl (by kernel_rfl) (by kernel_rfl) (by kernel_rfl) (by kernel_rfl) (fun _ _ _ h => h) (Or.inl ⟨by rfl, ?hy49⟩) hH ?rest49
          case hy49 => (intro w hSw; (try dsimp only at hSw); go_simp; with_reducible rfl)
          try simp only [Act.put, List.setIfInBounds_toArray, List.set_cons_zero, List.set_cons_succ]
          refine wpAnyK_take (i := 3) [10] (v := ?v50) rfl (by kernel_rfl) (by kernel_rfl) (by kernel_rfl) (by kernel_rfl) (fun _ _ _ h => h) (Or.inl ⟨by rfl, ?hy50⟩) hH ?rest50
          case hy50 => (intro w hSw; (try dsimp only at hSw); go_simp; with_reducible rfl)
          try simp only [Act.put, List.setIfInBounds_toArray, List.set_cons_zero, List.set_cons_succ]
          refine wpAnyK_take (i := 4) [10] (v := ?v51) rfl (by kernel_rfl) (by kernel_rfl) (by kernel_rfl) (by kernel_rfl) (fun _ _ _ h => h) (Or.inl ⟨by rfl, ?hy51⟩) hH ?rest51
          case hy51 => (intro w hSw; (try dsimp only at hSw); go_simp; with_reducible rfl)
          try simp only [Act.put, List.setIfInBounds_toArray, List.set_cons_zero, List.set_cons_succ]
          refine wpAnyK_take (i := 5) [10] (v := ?v52) rfl (by kernel_rfl) (by kernel_rfl) (by kernel_rfl) (by kernel_rfl) (fun _ _ _ h => h) (Or.inl ⟨by rfl, ?hy52⟩) hH ?rest52
          case hy52 => (intro w hSw; (try dsimp only at hSw); go_simp; with_reducible rfl)
          try simp only [Act.put, List.setIfInBounds_toArray, List.set_cons_zero, List.set_cons_succ]
          refine wpAnyK_take (i := 6) [10] (v := ?v53) rfl (by kernel_rfl) (by kernel_rfl) (by kernel_rfl) (by kernel_rfl) (fun _ _ _ h => h) (Or.inl ⟨by rfl, ?hy53⟩) hH ?rest53
          case hy53 => (intro w hSw; (try dsimp only at hSw); go_simp; with_reducible rfl)
          try simp only [Act.put, List.setIfInBounds_toArray, List.set_cons_zero, List.set_cons_succ]
          refine wpAnyK_take (i := 7) [10] (v := ?v54) rfl (by kernel_rfl) (by kernel_rfl) (by kernel_rfl) (by kernel_rfl) (fun _ _ _ h => h) (Or.inl ⟨by rfl, ?hy54⟩) hH ?rest54
          case hy54 => (intro w hSw; (try dsimp only at hSw); go_simp; with_reducible rfl)
          try simp only [Act.put, List.setIfInBounds_toArray, List.set_cons_zero, List.set_cons_succ]
          refine wpAnyK_take (i := 8) [10] (v := ?v55) rfl (by kernel_rfl) (by kernel_rfl) (by kernel_rfl) (by kernel_rfl) (fun _ _ _ h => h) (Or.inl ⟨by rfl, ?hy55⟩) hH ?rest55
          case hy55 => (intro w hSw; (try dsimp only at hSw); go_simp; with_reducible rfl)
          try simp only [Act.put, List.setIfInBounds_toArray, List.set_cons_zero, List.set_cons_succ]
          refine wpAnyK_take (i := 9) [10] (v := ?v56) rfl (by kernel_rfl) (by kernel_rfl) (by kernel_rfl) (by kernel_rfl) (fun _ _ _ h => h) (Or.inl ⟨by rfl, ?hy56⟩) hH ?rest56
          case hy56 => (intro w hSw; (try dsimp only at hSw); go_simp; with_reducible rfl)
          try simp only [Act.put, List.setIfInBounds_toArray, List.set_cons_zero, List.set_cons_succ]
          refine wpAnyK_last (by kernel_rfl) rfl (fun K hK => ?_) (by kernel_rfl)
          refine step_put rfl _ _ _ rfl keyN und_map rfl hd5.m nm rfl (cutF ⟨fd, fs⟩ cval flip) hcvv ?_
          intro w6 hm6 ht6 hz6
          refine hK.out _ _ (wpAnyK_done (by kernel_rfl) ?_ _)
          clear hK K hH
          have hfin := hd5.setM ht6 hm6 (hd5.ok.set HR.out.2.2.2.2.2.1 hcok (Nat.le_trans (Nat.le_of_eq (setL_length.2 (by rw [HR.out.2.2.2.1]; rfl))) hd5.ok.few))
          have hown6 : Own eStr w6 w.heap.size (.slice (some ⟨g, 0, none⟩) n cn) D.names := ht6.row ho5 (fun q hq e => by have := (H.out.1.m.lt); have h1 : g = q := Option.some.inj hq; subst h1; subst e; have := (ho5.lt g rfl).1; omega)
          have htt : Tn (two db mb) w w6 := ht5.trans (ht6.mono (fun q hq => .inr hq))
          have HF := Lib.hid (And.intro hfin (And.intro htt hown6))
          clear hfin htt hown6 hm6 ht6 hz6 ho5 ht5 hd5 hst0 hstr kd1 kk hH5
          go_wp2_with fail
          go_roundw
          case rel =>
            refine ⟨i + 1, by omega, by go_num, ?_, HF.out.2.1, HF.out.2.2⟩
            have e7 : crashL cuts flip (D.names.take (i + 1)) 0 D.m = setL (crashL cuts flip (D.names.take i) 0 D.m) nm (cutF ⟨fd, fs⟩ cval flip) := by
              rw [List.take_succ_eq_append_getElem hin, crashL_app, HR.out.2.2.2.2.2.2.1, HR.out.2.2.2.1]
              simp only [Nat.zero_add]
              rw [List.length_take_of_le (Nat.le_of_lt hin), HR.out.2.2.2.2.2.2.2]
            rw [e7]
            exact HF.out.1
          case measure => simp [intOf]; omega
    · obtain rfl : i = n := by omega
      have HE := Lib.hid (And.intro hd (And.intro ht ho))
      clear hd ht ho
      go_wp2
      go_end0
      refine ⟨rfl, ?_, HE.out.2.1⟩
      rw [H.out.2.1]
      have h8 := HE.out.1
      rw [List.take_of_length_le (by rw [H1.out.2.2]; omega)] at h8
      exact h8
theorem RdC.two (h : DkAt F w db mb D) {v : Value} {l : List Int} (hr : RdC F w v l) : RdC (two db mb) w v l := by
  obtain ⟨a, c, e, hr⟩ := hr
  refine ⟨a, c, e, hr.imp id ?_⟩
  rintro ⟨b, off, ha, hf, r⟩
  exact ⟨b, off, ha, fun e => hf (two_F h b e), r⟩
theorem crash_any (h : DkAt F w db mb D) (hon : D.on = true) {v : Value} {cuts : List Int} (hr : RdC F w v cuts) (hcl : cuts.length ≤ 1000000) (flip : Int) :
    Calls Tryz.prog 34 #[.pointer (some ⟨db, 0, none⟩), v, .int .i64 flip] w fun e w' => e = .returned (.tuple #[]) ∧ DkAt F w' db mb (D.crash cuts flip) ∧ Tn (Go.Proofs.YtceamkcaokdgaaaGreatDoor.two db mb) w w' := crash_w h hon (hr.two h) hcl flip
end Go.Proofs.YtceamkcaokdgaaaGreatDoor
/-
  Disk: an act, whatever the fuse.
-/
namespace Go.Proofs.YtceamkcaokdgaaaGreatDoor
open Go.RowKit
variable {F G : Nat → Prop} {w w' : World} {db mb : Nat} {D D' : Dk}

set_option maxRecDepth 100000 in
set_option maxHeartbeats 2000000 in
theorem act_burn (h : DkAt F w db mb D) (hon : D.on = true) {z : Fz} (hz : D.fuse = some z) (hz0 : z.n = 0) (fv : Value) :
    Calls Tryz.prog 104 #[.pointer (some ⟨db, 0, none⟩), fv] w fun e w' => e = .returned (.int .i64 20) ∧ DkAt F w' db mb (Dk.crash { D with fuse := none } z.cuts z.flip) ∧ Tn (two db mb) w w' := by
  obtain ⟨p, hp, hzp⟩ := h.c3
  rw [hz] at hzp
  obtain ⟨fb, v, rfl, hfF, hfl, q0, q1, q2, hrd⟩ := hzp
  have hcl := (h.ok.fuse z hz).2
  have hd1 : DkAt F (w.setCell ⟨db, 3, none⟩ (.pointer none)) db mb { D with fuse := none } := h.set3 (z := none) (p := .pointer none) rfl (fun y hy => by cases hy)
  have ht1 : Tn (two db mb) w (w.setCell ⟨db, 3, none⟩ (.pointer none)) := Tn.setCell _ _ _ (.inl rfl)
  have hne : db ≠ fb := fun e => hfF (e ▸ h.fd)
  have hrd1 := hrd.tn ht1 (fun q _ hq => two_F h q hq)
  obtain ⟨av, cv, rfl, hrr⟩ := hrd
  obtain ⟨vl, hvl⟩ : ∃ vl, z.cuts.length = vl := ⟨_, rfl⟩
  obtain ⟨fl, hfl2⟩ : ∃ fl, z.flip = fl := ⟨_, rfl⟩
  rw [hvl] at q1 hrd1
  rw [hfl2] at q2 ⊢
  rw [hz0] at q0
  have k1 : (w.setCell ⟨db, 3, none⟩ (.pointer none)).cell? ⟨fb, 1, none⟩ = some (.slice av vl cv) := ht1.cell q1 (fun hq => hfF (two_F h _ hq))
  have k2 : (w.setCell ⟨db, 3, none⟩ (.pointer none)).cell? ⟨fb, 2, none⟩ = some (.int .i64 fl) := ht1.cell q2 (fun hq => hfF (two_F h _ hq))
  have fd3 := h.fz 3
  have H := Lib.hid (And.intro hd1 (And.intro ht1 (And.intro hrd1 hcl)))
  clear h hz hz0 hfF hrr hvl hfl2 hd1 ht1 hrd1 hcl
  go_enter Tryz.func104, Tryz.ntmps104
  go_wp2_with fail
  obtain ⟨w1, hw1⟩ : ∃ w1, w.setCell ⟨db, 3, none⟩ (.pointer none) = w1 := ⟨_, rfl⟩
  rw [hw1] at H k1 k2 ⊢
  clear hw1
  have kd1 : w1.drew.cell? ⟨fb, 1, none⟩ = some (.slice av vl cv) := k1
  have kd2 : w1.drew.cell? ⟨fb, 2, none⟩ = some (.int .i64 fl) := k2
  refine wp_region_K (fun w' => w'.cell? ⟨fb, 1, none⟩ = some (.slice av vl cv) ∧ w'.cell? ⟨fb, 2, none⟩ = some (.int .i64 fl)) 9 10 (by kernel_rfl) (by kernel_rfl) ⟨kd1, kd2⟩ (fun hH => ?_)
  refine wpAnyK_take (i := 0) [9] (v := ?v57) rfl (by kernel_rfl) (by kernel_rfl) (by kernel_rfl) (by kernel_rfl) (fun _ _ _ h => h) (Or.inl ⟨by rfl, ?hy57⟩) hH ?rest57
  case hy57 => (intro w hSw; (try dsimp only at hSw); go_simp; with_reducible rfl)
  try simp only [Act.put, List.setIfInBounds_toArray, List.set_cons_zero, List.set_cons_succ]
  refine wpAnyK_take (i := 1) [2, 3, 4, 9] (v := ?v58) rfl (by kernel_rfl) (by kernel_rfl) (by kernel_rfl) (by kernel_rfl) (fun _ _ _ h => h) (Or.inl ⟨by rfl, ?hy58⟩) hH ?rest58
  case hy58 => (intro w hSw; (try dsimp only at hSw); go_simp; with_reducible rfl)
  try simp only [Act.put, List.setIfInBounds_toArray, List.set_cons_zero, List.set_cons_succ]
  refine wpAnyK_take (i := 2) [3, 4, 9] (v := ?v59) rfl (by kernel_rfl) (by kernel_rfl) (by kernel_rfl) (by kernel_rfl) (fun _ _ _ h => h) (Or.inl ⟨by rfl, ?hy59⟩) hH ?rest59
  case hy59 => (intro w hSw; (try dsimp only at hSw); go_simp; with_reducible rfl)
  try simp only [Act.put, List.setIfInBounds_toArray, List.set_cons_zero, List.set_cons_succ]
  refine wpAnyK_take (i := 3) [4, 9] (v := ?v60) rfl (by kernel_rfl) (by kernel_rfl) (by kernel_rfl) (by kernel_rfl) (fun _ _ _ h => h) (Or.inl ⟨by rfl, ?hy60⟩) hH ?rest60
  case hy60 => (intro w hSw; (try dsimp only at hSw); go_simp; with_reducible rfl)
  try simp only [Act.put, List.setIfInBounds_toArray, List.set_cons_zero, List.set_cons_succ]
  refine wpAnyK_take (i := 4) [9] (v := ?v61) rfl (by kernel_rfl) (by kernel_rfl) (by kernel_rfl) (by kernel_rfl) (fun _ _ _ h => h) (Or.inl ⟨by rfl, ?hy61⟩) hH ?rest61
  case hy61 => (intro w hSw; (try dsimp only at hSw); go_simp; with_reducible rfl)
  try simp only [Act.put, List.setIfInBounds_toArray, List.set_cons_zero, List.set_cons_succ]
  refine wpAnyK_take (i := 5) [6, 7, 8, 9] (v := ?v62) rfl (by kernel_rfl) (by kernel_rfl) (by kernel_rfl) (by kernel_rfl) (fun _ _ _ h => h) (Or.inl ⟨by rfl, ?hy62⟩) hH ?rest62
  case hy62 => (intro w hSw; (try dsimp only at hSw); go_simp; with_reducible rfl)
  try simp only [Act.put, List.setIfInBounds_toArray, List.set_cons_zero, List.set_cons_succ]
  refine wpAnyK_take (i := 6) [7, 8, 9] (v := ?v63) rfl (by kernel_rfl) (by kernel_rfl) (by kernel_rfl) (by kernel_rfl) (fun _ _ _ h => h) (Or.inl ⟨by rfl, ?hy63⟩) hH ?rest63
  case hy63 => (intro w hSw; (try dsimp only at hSw); go_simp; with_reducible rfl)
  try simp only [Act.put, List.setIfInBounds_toArray, List.set_cons_zero, List.set_cons_succ]
  refine wpAnyK_take (i := 7) [8, 9] (v := ?v64) rfl (by kernel_rfl) (by kernel_rfl) (by kernel_rfl) (by kernel_rfl) (fun _ _ _ h => h) (Or.inl ⟨by rfl, ?hy64⟩) hH ?rest64
  case hy64 => (intro w hSw; (try dsimp only at hSw); go_simp; with_reducible rfl)
  try simp only [Act.put, List.setIfInBounds_toArray, List.set_cons_zero, List.set_cons_succ]
  refine wpAnyK_take (i := 8) [9] (v := ?v65) rfl (by kernel_rfl) (by kernel_rfl) (by kernel_rfl) (by kernel_rfl) (fun _ _ _ h => h) (Or.inl ⟨by rfl, ?hy65⟩) hH ?rest65
  case hy65 => (intro w hSw; (try dsimp only at hSw); go_simp; with_reducible rfl)
  try simp only [Act.put, List.setIfInBounds_toArray, List.set_cons_zero, List.set_cons_succ]
  refine wpAnyK_last (by kernel_rfl) rfl (fun K hK => ?_) (by kernel_rfl)
  go_simp
  go_at_call 34
  have hb1 : Below w1.heap.size w1 w1.drew := (Below.refl _ _).drew
  refine (crash_any (H.out.1.below hb1) hon (H.out.2.2.1.tn (Tn.ofBelow (F := fun _ => False) hb1) (fun _ _ e => e.elim)) H.out.2.2.2 fl).mono ?_
  rintro e w2 ⟨rfl, hd2, ht2⟩
  refine hK.out _ _ (wpAnyK_done (by kernel_rfl) ?_ _)
  clear hK K hH
  have HF := Lib.hid (And.intro hd2 (H.out.2.1.trans ((Tn.ofBelow hb1).trans ht2)))
  clear hd2 ht2 hb1 kd1 kd2 k1 k2
  go_wp2
  go_ret
  exact ⟨rfl, HF.out.1, HF.out.2⟩

/-- An act. -/
theorem act_any (h : DkAt F w db mb D) (hon : D.on = true) (ha : D.acts < 1000000) {fk : FuncId} {caps : Array Value} {f : Fm → Fm} (eg : ∀ args w, (callFunc fk args).run Tryz.prog w = .ok (.enter fk args) w) (hdo : Does F G fk caps w db mb D f) :
    Calls Tryz.prog 104 #[.pointer (some ⟨db, 0, none⟩), .func (.func fk) #[] caps] w fun e w' => e = .returned (.int .i64 (D.act f).1) ∧ DkAt F w' db mb (D.act f).2 ∧ Tn (fun q => two db mb q ∨ G q) w w' := by
  cases hz : D.fuse with
  | none =>
    have h0 : ∀ z, D.fuse = some z → z.n ≠ 0 := fun z e => by rw [hz] at e; cases e
    have := act_live h h0 ha eg hdo
    rw [D.act_live f h0] at this ⊢
    exact this
  | some z =>
    rcases Nat.eq_zero_or_pos z.n with hn | hn
    · have hact : D.act f = (20, Dk.crash { D with fuse := none } z.cuts z.flip) := by
        obtain ⟨n, c, fl⟩ := z
        simp only at hn
        subst hn
        unfold Dk.act
        rw [hz]
      rw [hact]
      refine (act_burn h hon hz hn _).mono ?_
      rintro e w' ⟨rfl, h1, h2⟩
      exact ⟨rfl, h1, h2.mono (fun q hq => .inl hq)⟩
    · have h0 : ∀ y, D.fuse = some y → y.n ≠ 0 := fun y e => by rw [hz] at e; cases e; omega
      have := act_live h h0 ha eg hdo
      rw [D.act_live f h0] at this ⊢
      exact this
end Go.Proofs.YtceamkcaokdgaaaGreatDoor
