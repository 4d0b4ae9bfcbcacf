import Derived.Test.YtohigcpcbonaeaaGreatDoorDkP
import Derived.Test.YtohigcpcbonaeaaGreatDoorRawA
import Derived.Test.YtohigcpcbonaeaaGreatDoorRkL
/-
  A log, plain: frames of records, how they are read, what a crash leaves of them. Of no program.
-/
namespace Go.Proofs.YtohigcpcbonaeaaGreatDoor
open Go.RowKit Go.Lib

theorem beV_beF : ∀ (k v : Nat), v < 256 ^ k → Rw.beV (Rw.beF k v) = v
  | 0, v, h => by simp at h; subst h; rfl
  | k + 1, v, h => by
    have hp : 0 < 256 ^ k := Nat.pow_pos (by decide)
    unfold Rw.beF
    have hd : v / 256 ^ k < 256 := by
      rw [Nat.div_lt_iff_lt_mul hp, Nat.mul_comm]
      rw [Nat.pow_succ] at h
      exact h
    have hm := Nat.div_add_mod v (256 ^ k)
    have h1 : Rw.beF k v = Rw.beF k (v % 256 ^ k) := by
      conv => lhs; rw [← hm, Nat.add_comm, Nat.mul_comm]
      exact beF_mod k _ _
    rw [beV_cons, Rw.beF_len, h1, beV_beF k _ (Nat.mod_lt _ hp)]
    have h2 : (UInt8.ofNat (v / 256 ^ k)).toNat = v / 256 ^ k := by
      rw [UInt8.toNat_ofNat']
      exact Nat.mod_eq_of_lt hd
    rw [h2, Nat.mul_comm]
    exact hm
theorem beF_inj {k a b : Nat} (ha : a < 256 ^ k) (hb : b < 256 ^ k) (h : Rw.beF k a = Rw.beF k b) : a = b := by
  have := congrArg Rw.beV h
  rwa [beV_beF k a ha, beV_beF k b hb] at this

/-- The check sum's bytes of a record. -/
def sumL (r : List UInt8) : List UInt8 := Rw.beF 4 (Rw.sumF (Rw.beF 4 (r.length + 1) ++ r))
/-- A record as it stands. -/
def frameL (r : List UInt8) : List UInt8 := Rw.beF 4 (r.length + 1) ++ sumL r ++ r
theorem sumL_len (r : List UInt8) : (sumL r).length = 4 := Rw.beF_len _ _
theorem frame_len (r : List UInt8) : (frameL r).length = 8 + r.length := by
  unfold frameL
  rw [List.length_append, List.length_append, Rw.beF_len, sumL_len]
/-- Records, one behind the other. -/
def frames (rs : List (List UInt8)) : List UInt8 := rs.flatMap frameL
theorem frames_cons (r : List UInt8) (rs : List (List UInt8)) : frames (r :: rs) = frameL r ++ frames rs := List.flatMap_cons
theorem frames_app (a b : List (List UInt8)) : frames (a ++ b) = frames a ++ frames b := List.flatMap_append
theorem frames_nil : frames [] = [] := rfl
theorem frames_one (r : List UInt8) : frames [r] = frameL r := by rw [frames_cons, frames_nil, List.append_nil]

/-- The record that begins here, if there is a whole one. -/
def recOf (l : List UInt8) : Option (List UInt8) :=
  if l.length < 8 ∨ Rw.beV (l.take 4) < 1 ∨ 131072 < Rw.beV (l.take 4) - 1 ∨ l.length - 8 < Rw.beV (l.take 4) - 1 ∨ frameL ((l.drop 8).take (Rw.beV (l.take 4) - 1)) ≠ l.take (7 + Rw.beV (l.take 4)) then none
  else some ((l.drop 8).take (Rw.beV (l.take 4) - 1))

theorem recOf_some {l r : List UInt8} (h : recOf l = some r) : l = frameL r ++ l.drop (8 + r.length) ∧ r.length ≤ 131072 ∧ 8 + r.length ≤ l.length := by
  unfold recOf at h
  split at h
  · cases h
  · rename_i hn
    simp only [not_or, Nat.not_lt, Decidable.not_not] at hn
    obtain ⟨h1, h2, h3, h4, h5⟩ := hn
    have hr : r = (l.drop 8).take (Rw.beV (l.take 4) - 1) := (Option.some.inj h).symm
    have hl : r.length = Rw.beV (l.take 4) - 1 := by rw [hr, List.length_take, List.length_drop]; omega
    refine ⟨?_, by omega, by omega⟩
    rw [← hr] at h5
    rw [h5, show 8 + r.length = 7 + Rw.beV (l.take 4) by omega, List.take_append_drop]
theorem take4 (r t : List UInt8) : (frameL r ++ t).take 4 = Rw.beF 4 (r.length + 1) := by
  unfold frameL
  rw [List.append_assoc, List.append_assoc, List.take_append_of_le_length (by rw [Rw.beF_len]; omega)]
  exact List.take_of_length_le (by rw [Rw.beF_len]; omega)
theorem drop8 (r t : List UInt8) : (frameL r ++ t).drop 8 = r ++ t := by
  unfold frameL
  have h : (Rw.beF 4 (r.length + 1) ++ sumL r).length = 8 := by rw [List.length_append, Rw.beF_len, sumL_len]
  rw [List.append_assoc]
  conv => lhs; rw [← h]
  exact List.drop_left
theorem recOf_frame (r t : List UInt8) (h : r.length ≤ 131072) : recOf (frameL r ++ t) = some r := by
  unfold recOf
  have hb : Rw.beV (Rw.beF 4 (r.length + 1)) = r.length + 1 := beV_beF 4 _ (by omega)
  rw [take4, hb, drop8, Nat.add_sub_cancel]
  have hl : (frameL r ++ t).length = 8 + r.length + t.length := by rw [List.length_append, frame_len]
  have ht : (r ++ t).take r.length = r := List.take_left
  have hk : (frameL r ++ t).take (7 + (r.length + 1)) = frameL r := by
    rw [show 7 + (r.length + 1) = (frameL r).length by rw [frame_len]; omega]
    exact List.take_left
  rw [ht, hk]
  rw [if_neg]
  simp only [not_or, Nat.not_lt, Decidable.not_not]
  exact ⟨by omega, by omega, by omega, by omega, trivial⟩

/-- The records of the good part, and how many bytes they take. -/
def scanK : Nat → List UInt8 → List (List UInt8) × Nat
  | 0, _ => ([], 0)
  | k + 1, l => match recOf l with
    | none => ([], 0)
    | some r => (r :: (scanK k (l.drop (8 + r.length))).1, 8 + r.length + (scanK k (l.drop (8 + r.length))).2)
def scan (l : List UInt8) : List (List UInt8) × Nat := scanK l.length l
theorem scanK_more : ∀ (k k' : Nat) (l : List UInt8), l.length ≤ k → l.length ≤ k' → scanK k l = scanK k' l
  | 0, k', l, h, _ => by
    have : l = [] := List.eq_nil_of_length_eq_zero (by omega)
    subst this
    cases k' with
    | zero => rfl
    | succ k' => simp [scanK, recOf]
  | k + 1, 0, l, _, h => by
    have : l = [] := List.eq_nil_of_length_eq_zero (by omega)
    subst this
    simp [scanK, recOf]
  | k + 1, k' + 1, l, h, h' => by
    unfold scanK
    cases hr : recOf l with
    | none => rfl
    | some r =>
      have := (recOf_some hr).2.2
      simp only
      rw [scanK_more k k' (l.drop (8 + r.length)) (by rw [List.length_drop]; omega) (by rw [List.length_drop]; omega)]
theorem scan_none {l : List UInt8} (h : recOf l = none) : scan l = ([], 0) := by
  unfold scan
  cases l with
  | nil => rfl
  | cons a l => simp [scanK, h]
theorem scan_some {l r : List UInt8} (h : recOf l = some r) : scan l = (r :: (scan (l.drop (8 + r.length))).1, 8 + r.length + (scan (l.drop (8 + r.length))).2) := by
  have hl := (recOf_some h).2.2
  unfold scan
  obtain ⟨k, hk⟩ : ∃ k, l.length = k + 1 := ⟨l.length - 1, by omega⟩
  have e : scanK l.length l = (r :: (scanK k (l.drop (8 + r.length))).1, 8 + r.length + (scanK k (l.drop (8 + r.length))).2) := by
    rw [hk]
    conv => lhs; unfold scanK
    rw [h]
  rw [e, scanK_more k (l.drop (8 + r.length)).length _ (by rw [List.length_drop]; omega) (Nat.le_refl _)]
theorem scan_frames (rs : List (List UInt8)) (t : List UInt8) (h : ∀ r ∈ rs, r.length ≤ 131072) : scan (frames rs ++ t) = (rs ++ (scan t).1, (frames rs).length + (scan t).2) := by
  induction rs with
  | nil => simp [frames]
  | cons r rs ih =>
    rw [frames_cons, List.append_assoc, scan_some (recOf_frame r _ (h r List.mem_cons_self))]
    have hd : (frameL r ++ (frames rs ++ t)).drop (8 + r.length) = frames rs ++ t := by
      rw [← frame_len r]; exact List.drop_left
    rw [hd, ih (fun r hr => h r (List.mem_cons_of_mem _ hr))]
    simp only [List.cons_append, List.length_append, frame_len]
    rw [Nat.add_assoc, Nat.add_assoc, Nat.add_assoc]
theorem scan_whole (rs : List (List UInt8)) (h : ∀ r ∈ rs, r.length ≤ 131072) : scan (frames rs) = (rs, (frames rs).length) := by
  have := scan_frames rs [] h
  rw [List.append_nil] at this
  rw [this, show scan ([] : List UInt8) = ([], 0) from rfl]
  simp
/-- What was read stands there. -/
theorem scan_spec (l : List UInt8) : ∃ t, l = frames (scan l).1 ++ t ∧ (frames (scan l).1).length = (scan l).2 ∧ recOf t = none ∧ ∀ r ∈ (scan l).1, r.length ≤ 131072 := by
  have key : ∀ (k : Nat) (l : List UInt8), l.length ≤ k → ∃ t, l = frames (scan l).1 ++ t ∧ (frames (scan l).1).length = (scan l).2 ∧ recOf t = none ∧ ∀ r ∈ (scan l).1, r.length ≤ 131072 := by
    intro k
    induction k with
    | zero =>
      intro l hl
      have : l = [] := List.eq_nil_of_length_eq_zero (by omega)
      subst this
      exact ⟨[], rfl, rfl, rfl, fun r hr => by simp [scan, scanK] at hr⟩
    | succ k ih =>
      intro l hl
      cases hr : recOf l with
      | none =>
        rw [scan_none hr]
        exact ⟨l, rfl, rfl, hr, fun r h => by simp at h⟩
      | some r =>
        obtain ⟨h1, h2, h3⟩ := recOf_some hr
        obtain ⟨t, t1, t2, t3, t4⟩ := ih (l.drop (8 + r.length)) (by rw [List.length_drop]; omega)
        rw [scan_some hr]
        refine ⟨t, ?_, ?_, t3, ?_⟩
        · rw [frames_cons, List.append_assoc, ← t1]; exact h1
        · rw [frames_cons, List.length_append, frame_len, t2]
        · intro x hx
          rcases List.mem_cons.1 hx with rfl | hx
          · exact h2
          · exact t4 x hx
  exact key l.length l (Nat.le_refl _)
theorem scan_le (l : List UInt8) : (scan l).2 ≤ l.length := by
  obtain ⟨t, h1, h2, _⟩ := scan_spec l
  have := congrArg List.length h1
  rw [List.length_append] at this
  omega

/-- A frame of which the end lacks is none. -/
theorem recOf_short (r p : List UInt8) (hp : p.length < 8 + r.length) (hpre : ∀ j, j + 1 < p.length → p[j]? = (frameL r)[j]?) (hr : r.length ≤ 131072) : recOf p = none := by
  unfold recOf
  by_cases h8 : p.length < 8
  · rw [if_pos (.inl h8)]
  · have h4 : p.take 4 = Rw.beF 4 (r.length + 1) := by
      have : (frameL r).take 4 = Rw.beF 4 (r.length + 1) := by
        have := take4 r []
        rwa [List.append_nil] at this
      rw [← this]
      apply List.ext_getElem?
      intro j
      by_cases hj : j < 4
      · rw [List.getElem?_take_of_lt hj, List.getElem?_take_of_lt hj]
        exact hpre j (by omega)
      · rw [List.getElem?_eq_none (by rw [List.length_take]; omega), List.getElem?_eq_none (by rw [List.length_take]; omega)]
    rw [h4, beV_beF 4 _ (by omega), Nat.add_sub_cancel]
    rw [if_pos (.inr (.inr (.inr (.inl (by omega)))))]
/-- A frame of which the last byte is spoilt is none. -/
theorem recOf_spoilt (r : List UInt8) (c : UInt8) (hc : (frameL r)[(frameL r).length - 1]? ≠ some c) (hr : r.length ≤ 131072) : recOf ((frameL r).set ((frameL r).length - 1) c) = none := by
  have hl := frame_len r
  cases hx : recOf ((frameL r).set ((frameL r).length - 1) c) with
  | none => rfl
  | some x =>
    exfalso
    obtain ⟨h1, h2, h3⟩ := recOf_some hx
    have h4 : ((frameL r).set ((frameL r).length - 1) c).take 4 = Rw.beF 4 (r.length + 1) := by
      rw [List.take_set_of_le (by omega)]
      have := take4 r []
      rwa [List.append_nil] at this
    have h5 : x.length = r.length := by
      rw [h1, take4] at h4
      have := beF_inj (by omega) (by omega) h4
      omega
    have h6 : ((frameL r).set ((frameL r).length - 1) c).drop (8 + x.length) = [] := List.drop_eq_nil_of_le (by rw [List.length_set]; omega)
    rw [h6, List.append_nil] at h1
    rcases Nat.eq_zero_or_pos r.length with h0 | h0
    · have : r = [] := List.eq_nil_of_length_eq_zero h0
      subst this
      have : x = [] := List.eq_nil_of_length_eq_zero h5
      subst this
      apply hc
      have e := congrArg (fun z => z[(frameL []).length - 1]?) h1
      rw [List.getElem?_set_self (by omega)] at e
      exact e.symm
    · have h7 : (frameL r).set ((frameL r).length - 1) c = Rw.beF 4 (r.length + 1) ++ sumL r ++ r.set (r.length - 1) c := by
        rw [hl]
        unfold frameL
        rw [List.set_append_right _ _ (by rw [List.length_append, Rw.beF_len, sumL_len]; omega)]
        congr 2
        rw [List.length_append, Rw.beF_len, sumL_len]
        omega
      rw [h7] at h1
      have hx2 : frameL x = Rw.beF 4 (r.length + 1) ++ sumL x ++ x := by unfold frameL; rw [h5]
      rw [hx2] at h1
      have h8 := List.append_inj h1 (by rw [List.length_append, List.length_append, sumL_len, sumL_len])
      have h9 : sumL r = sumL x := List.append_cancel_left h8.1
      have h10 : x = r.set (r.length - 1) c := h8.2.symm
      unfold sumL at h9
      rw [h5] at h9
      have h11 := beF_inj (Rw.sumF_lt _) (Rw.sumF_lt _) h9
      have hlast : r[r.length - 1] ≠ c := by
        intro e
        apply hc
        have e1 : (frameL r)[(frameL r).length - 1]? = r[r.length - 1]? := by
          rw [hl]
          unfold frameL
          rw [List.getElem?_append_right (by rw [List.length_append, Rw.beF_len, sumL_len]; omega)]
          congr 1
          rw [List.length_append, Rw.beF_len, sumL_len]
          omega
        rw [e1, List.getElem?_eq_getElem (by omega), e]
      have hs := Rw.sumF_set (Rw.beF 4 (r.length + 1) ++ r) (4 + (r.length - 1)) (by rw [List.length_append, Rw.beF_len]; omega) c (by
        rw [List.getElem_append_right (by rw [Rw.beF_len]; omega)]
        simp only [Rw.beF_len, Nat.add_sub_cancel_left]
        exact hlast)
      apply hs
      rw [h11, h10, List.set_append_right _ _ (by rw [Rw.beF_len]; omega), Rw.beF_len, Nat.add_sub_cancel_left]
end Go.Proofs.YtohigcpcbonaeaaGreatDoor
/-
  A log, plain: the names of its files, and their order. Of no program.
-/
namespace Go.Proofs.YtohigcpcbonaeaaGreatDoor
open Go.RowKit Go.Lib

/-- A digit. -/
def hexD (d : Nat) : UInt8 := if d < 10 then UInt8.ofNat (48 + d) else UInt8.ofNat (87 + d)
/-- A number in k digits. -/
def hexF : Nat → Nat → List UInt8
  | 0, _ => []
  | k + 1, n => hexF k (n / 16) ++ [hexD (n % 16)]
theorem hexF_len : ∀ (k n : Nat), (hexF k n).length = k
  | 0, _ => rfl
  | k + 1, n => by unfold hexF; rw [List.length_append, hexF_len k]; rfl
theorem hexD_lt : ∀ d, d < 16 → ∀ e, e < 16 → d < e → hexD d < hexD e := by decide +kernel
theorem hexD_ok : ∀ d, d < 16 → okc (hexD d) = true := by decide +kernel
theorem hexF_ok : ∀ (k n : Nat), (hexF k n).all okc = true
  | 0, _ => rfl
  | k + 1, n => by
    unfold hexF
    rw [List.all_append, hexF_ok k]
    simp [hexD_ok _ (Nat.mod_lt n (by decide))]
/-- The digits of a number, from the front. -/
theorem hexF_front : ∀ (k n : Nat), hexF (k + 1) n = hexD (n / 16 ^ k % 16) :: hexF k n
  | 0, n => by simp [hexF]
  | k + 1, n => by
    unfold hexF
    rw [hexF_front k (n / 16)]
    rw [Nat.div_div_eq_div_mul, show 16 * 16 ^ k = 16 ^ (k + 1) by rw [Nat.pow_succ, Nat.mul_comm]]
    rfl
theorem hexF_get : ∀ (k n j : Nat), j < k → (hexF k n)[j]? = some (hexD (n / 16 ^ (k - 1 - j) % 16))
  | 0, _, _, h => by omega
  | k + 1, n, 0, _ => by rw [hexF_front]; simp
  | k + 1, n, j + 1, h => by
    rw [hexF_front, List.getElem?_cons_succ, hexF_get k n j (by omega)]
    congr 5
    omega
theorem cmp_pre : ∀ (p a b : List UInt8), compareBytes (p ++ a) (p ++ b) = compareBytes a b
  | [], _, _ => rfl
  | c :: p, a, b => by
    have e : compareBytes (c :: (p ++ a)) (c :: (p ++ b)) = compareBytes (p ++ a) (p ++ b) := by
      conv => lhs; unfold compareBytes
      rw [if_neg (UInt8.lt_irrefl c), if_neg (UInt8.lt_irrefl c)]
    exact e.trans (cmp_pre p a b)
theorem cmp_snoc : ∀ (a b : List UInt8) (x y : UInt8), a.length = b.length → compareBytes (a ++ [x]) (b ++ [y]) = if compareBytes a b = 0 then compareBytes [x] [y] else compareBytes a b
  | [], [], _, _, _ => rfl
  | [], _ :: _, _, _, h => by simp at h
  | _ :: _, [], _, _, h => by simp at h
  | c :: a, d :: b, x, y, h => by
    have ih := cmp_snoc a b x y (by simpa using h)
    show compareBytes (c :: (a ++ [x])) (d :: (b ++ [y])) = _
    unfold compareBytes
    by_cases h1 : c < d
    · simp [h1]
    · by_cases h2 : d < c
      · simp [h1, h2]
      · simp only [h1, h2, if_false]
        rw [ih]
        rfl
theorem cmp_one {x y : UInt8} (h : x < y) : compareBytes [x] [y] = -1 := by simp [compareBytes, h]
theorem hexF_lt : ∀ (k a b : Nat), a < 16 ^ k → b < 16 ^ k → a < b → compareBytes (hexF k a) (hexF k b) < 0
  | 0, a, b, ha, hb, h => by simp at ha hb; omega
  | k + 1, a, b, ha, hb, h => by
    unfold hexF
    have e : (16 : Nat) ^ (k + 1) = 16 ^ k * 16 := Nat.pow_succ ..
    have ha' : a / 16 < 16 ^ k := by omega
    have hb' : b / 16 < 16 ^ k := by omega
    rw [cmp_snoc _ _ _ _ (by rw [hexF_len, hexF_len])]
    by_cases hq : a / 16 = b / 16
    · rw [hq, cmp_self, if_pos rfl, cmp_one (hexD_lt _ (Nat.mod_lt _ (by decide)) _ (Nat.mod_lt _ (by decide)) (by omega))]
      decide
    · have := hexF_lt k (a / 16) (b / 16) ha' hb' (by omega)
      rw [if_neg (by omega)]
      exact this
theorem hexF_inj {k a b : Nat} (ha : a < 16 ^ k) (hb : b < 16 ^ k) (h : hexF k a = hexF k b) : a = b := by
  rcases Nat.lt_trichotomy a b with h1 | h1 | h1
  · have := hexF_lt k a b ha hb h1; rw [h, cmp_self] at this; omega
  · exact h1
  · have := hexF_lt k b a hb ha h1; rw [h, cmp_self] at this; omega

abbrev tW : ByteArray := ⟨#[47, 119]⟩
abbrev tMend : ByteArray := ⟨#[47, 109, 101, 110, 100]⟩
def hexB (n : Nat) : ByteArray := ⟨(hexF 8 n).toArray⟩
/-- A segment's file. -/
def segN (dir : ByteArray) (n : Nat) : ByteArray := dir ++ tW ++ hexB n
def mendN (dir : ByteArray) : ByteArray := dir ++ tMend
theorem ba_ext {a b : ByteArray} (h : a.data.toList = b.data.toList) : a = b := by
  cases a with | mk a => cases b with | mk b =>
  have : a = b := Array.toList_inj.1 h
  rw [this]
theorem segN_list (dir : ByteArray) (n : Nat) : (segN dir n).data.toList = dir.data.toList ++ ([47, 119] ++ hexF 8 n) := by
  simp [segN, hexB, ByteArray.data_append]
theorem mendN_list (dir : ByteArray) : (mendN dir).data.toList = dir.data.toList ++ [47, 109, 101, 110, 100] := by
  simp [mendN, ByteArray.data_append]
theorem begN_list (dir : ByteArray) : (dir ++ tW).data.toList = dir.data.toList ++ [47, 119] := by
  simp [ByteArray.data_append]
theorem segN_inj {dir : ByteArray} {a b : Nat} (ha : a < 4294967296) (hb : b < 4294967296) (h : segN dir a = segN dir b) : a = b := by
  have h1 := congrArg (fun s : ByteArray => s.data.toList) h
  simp only [segN_list] at h1
  have h2 := List.append_cancel_left (List.append_cancel_left h1)
  exact hexF_inj (by omega) (by omega) h2
theorem segN_lt {dir : ByteArray} {a b : Nat} (hb : b < 4294967296) (h : a < b) : compareBytes (segN dir a).data.toList (segN dir b).data.toList < 0 := by
  rw [segN_list, segN_list, cmp_pre, cmp_pre]
  exact hexF_lt 8 a b (by omega) (by omega) h
theorem segN_pre (dir : ByteArray) (n : Nat) : (dir ++ tW).data.toList.isPrefixOf (segN dir n).data.toList = true := by
  rw [begN_list, segN_list, List.isPrefixOf_iff_prefix]
  exact ⟨hexF 8 n, by simp⟩
theorem mend_pre (dir : ByteArray) : (dir ++ tW).data.toList.isPrefixOf (mendN dir).data.toList = false := by
  rw [begN_list, mendN_list, Bool.eq_false_iff]
  intro h
  obtain ⟨t, ht⟩ := List.isPrefixOf_iff_prefix.1 h
  rw [List.append_assoc] at ht
  have := List.append_cancel_left ht
  simp at this
theorem segN_mend (dir : ByteArray) (n : Nat) : segN dir n ≠ mendN dir := fun h => by
  have h1 := segN_pre dir n
  rw [h, mend_pre] at h1
  cases h1
theorem ba_size (s : ByteArray) : s.size = s.data.toList.length := by simp
theorem nm_parts {s : ByteArray} : nmB s = true ↔ s.size ≠ 0 ∧ s.size ≤ 64 ∧ s.data.toList.all okc = true := by
  unfold nmB
  simp only [ne_eq, Bool.and_eq_true, decide_eq_true_eq, and_assoc]
theorem segN_nm {dir : ByteArray} (h : nmB dir = true) (hs : dir.size ≤ 40) (n : Nat) : nmB (segN dir n) = true := by
  obtain ⟨h1, h2, h3⟩ := nm_parts.1 h
  have hl : (segN dir n).size = dir.size + 10 := by
    rw [ba_size, segN_list, List.length_append, List.length_append, hexF_len, ← ba_size]; rfl
  refine nm_parts.2 ⟨by omega, by omega, ?_⟩
  rw [segN_list, List.all_append, List.all_append, h3, hexF_ok]
  rfl
theorem mendN_nm {dir : ByteArray} (h : nmB dir = true) (hs : dir.size ≤ 40) : nmB (mendN dir) = true := by
  obtain ⟨h1, h2, h3⟩ := nm_parts.1 h
  have hl : (mendN dir).size = dir.size + 5 := by
    rw [ba_size, mendN_list, List.length_append, ← ba_size]; rfl
  refine nm_parts.2 ⟨by omega, by omega, ?_⟩
  rw [mendN_list, List.all_append, h3]
  rfl
end Go.Proofs.YtohigcpcbonaeaaGreatDoor
/-
  A log, plain: what each act makes of it and of its disk. Of no program.
-/
namespace Go.Proofs.YtohigcpcbonaeaaGreatDoor
open Go.RowKit Go.Lib

/-- A log: its segments, the open one, how long that is; what is to be mended. -/
structure Lg where
  dir : ByteArray
  size : Int
  m : List (Int × List ByteArray)
  op : Int
  long : Int
  torn : Bool
  left : ByteArray

def segZ (dir : ByteArray) (n : Int) : ByteArray := segN dir n.toNat
def Lg.first (L : Lg) : Int := (L.m.map (·.1)).headD 0
def Lg.last (L : Lg) : Int := (L.m.map (·.1)).getLastD 0
def framed (r : ByteArray) : ByteArray := ⟨(frameL r.data.toList).toArray⟩
def Lg.write (L : Lg) (D : Dk) : Int × Dk :=
  let a := D.remove (mendN L.dir)
  if a.1 ≠ 0 ∧ a.1 ≠ 22 then a else
  let b := a.2.create (mendN L.dir)
  if b.1 ≠ 0 then b else
  let c := b.2.app (mendN L.dir) L.left
  if c.1 ≠ 0 then c else
  let d := c.2.sync (mendN L.dir)
  if d.1 ≠ 0 then d else d.2.rename (mendN L.dir) (segZ L.dir L.last)
def Lg.mended (L : Lg) (D : Dk) : Int × Dk × Lg :=
  if L.torn = false then (0, D, L) else
  let r := L.write D
  if r.1 = 24 then
    let f := r.2.remove (mendN L.dir)
    if f.1 = 20 then (20, f.2, L) else (24, f.2, L)
  else if r.1 = 0 then (0, r.2, { L with torn := false, left := ByteArray.empty }) else (r.1, r.2, L)
def Lg.begin_ (L : Lg) (D : Dk) : Int × Dk × Lg :=
  if 4294967295 < L.last + 1 then (24, D, L) else
  let r := D.create (segZ L.dir (L.last + 1))
  if r.1 ≠ 0 then (r.1, r.2, L) else (0, r.2, { L with m := setL L.m (L.last + 1) [], op := L.last + 1, long := 0 })
def Lg.sync (L : Lg) (D : Dk) : Int × Dk := if L.op = 0 then (0, D) else D.sync (segZ L.dir L.op)
def Lg.rotate (L : Lg) (D : Dk) : Int × Dk × Lg :=
  let a := L.mended D
  if a.1 ≠ 0 then a else
  let s := a.2.2.sync a.2.1
  if s.1 ≠ 0 then (s.1, s.2, a.2.2) else (0, s.2, { a.2.2 with op := 0, long := 0 })
def Lg.full (L : Lg) (r : ByteArray) : Bool := decide (0 < L.op) && decide (0 < L.long) && decide (L.size < L.long + (framed r).size)
def Lg.at_ (L : Lg) (n : Int) : List ByteArray := (getL L.m n).getD []
def Lg.lay (L : Lg) (D : Dk) (r : ByteArray) : Int × Dk × Lg :=
  let d := D.app (segZ L.dir L.op) (framed r)
  if d.1 ≠ 0 then (d.1, d.2, L) else (0, d.2, { L with long := L.long + (framed r).size, m := setL L.m L.op (L.at_ L.op ++ [r]) })
def Lg.append (L : Lg) (D : Dk) (r : ByteArray) : Int × Dk × Lg :=
  if 131072 < r.size then (2, D, L) else
  let a := L.mended D
  if a.1 ≠ 0 then a else
  let b := if a.2.2.full r then a.2.2.rotate a.2.1 else (0, a.2.1, a.2.2)
  if b.1 ≠ 0 then b else
  let c := if b.2.2.op = 0 then b.2.2.begin_ b.2.1 else (0, b.2.1, b.2.2)
  if c.1 ≠ 0 then c else c.2.2.lay c.2.1 r
def Lg.dropK (below : Int) : List Int → Lg → Dk → Int × Dk × Lg
  | [], L, D => (0, D, L)
  | n :: ns, L, D => if below ≤ n ∨ n = L.op then Lg.dropK below ns L D else
    let r := D.remove (segZ L.dir n)
    if r.1 ≠ 0 then (r.1, r.2, L) else
    Lg.dropK below ns (if (delL L.m n).length = 0 then { L with m := delL L.m n, torn := false, left := ByteArray.empty } else { L with m := delL L.m n }) r.2
def Lg.drop (L : Lg) (D : Dk) (below : Int) : Int × Dk × Lg := Lg.dropK below (L.m.map (·.1)) L D
def Lg.records (L : Lg) (from_ : Int) : List ByteArray := (L.m.filter (fun p => decide (from_ ≤ p.1))).flatMap (·.2)

/-- The records of a segment. -/
def recsOf (b : ByteArray) : List ByteArray := (scan b.data.toList).1.map (fun l => ⟨l.toArray⟩)
def goodN (b : ByteArray) : Nat := (scan b.data.toList).2
/-- What is read of segments: an error, the segments, whether the last one is torn, its good part. -/
def loadK : List (Nat × ByteArray) → List (Int × List ByteArray) → Int × List (Int × List ByteArray) × Bool × ByteArray
  | [], acc => (0, acc, false, ByteArray.empty)
  | p :: S, acc => if goodN p.2 = p.2.size then loadK S (acc ++ [((p.1 : Int), recsOf p.2)])
    else if S = [] then (0, acc ++ [((p.1 : Int), recsOf p.2)], true, p.2.extract 0 (goodN p.2)) else (31, acc ++ [((p.1 : Int), recsOf p.2)], false, ByteArray.empty)

/-- The files of a disk that has a log alone. -/
def dmap (dir : ByteArray) (S : List (Nat × Fl)) (M : Option Fl) : Fm := S.map (fun p => (segN dir p.1, p.2)) ++ (match M with | none => [] | some f => [(mendN dir, f)])
/-- Segments in order. -/
structure Rise (S : List (Nat × Fl)) : Prop where
  lt : (S.map (·.1)).Pairwise (fun a b => a < b)
  rng : ∀ p ∈ S, 1 ≤ p.1 ∧ p.1 < 4294967296

section
variable {K V : Type} [DecidableEq K]
theorem getL_app_left {A B : List (K × V)} {k : K} (h : ∀ p ∈ B, p.1 ≠ k) : getL (A ++ B) k = getL A k := by
  unfold getL
  rw [List.find?_append]
  have : B.find? (fun p => decide (p.1 = k)) = none := List.find?_eq_none.2 (fun p hp e => h p hp (by simpa using e))
  rw [this]
  cases A.find? (fun p => decide (p.1 = k)) <;> rfl
theorem getL_app_right {A B : List (K × V)} {k : K} (h : ∀ p ∈ A, p.1 ≠ k) : getL (A ++ B) k = getL B k := by
  unfold getL
  rw [List.find?_append]
  have : A.find? (fun p => decide (p.1 = k)) = none := List.find?_eq_none.2 (fun p hp e => h p hp (by simpa using e))
  rw [this]
  rfl
theorem getL_none {A : List (K × V)} {k : K} (h : ∀ p ∈ A, p.1 ≠ k) : getL A k = none := by
  unfold getL
  rw [List.find?_eq_none.2 (fun p hp e => h p hp (by simpa using e))]
  rfl
theorem getL_one (k : K) (v : V) (B : List (K × V)) : getL ((k, v) :: B) k = some v := by simp [getL]
theorem map_ne {A : List (K × V)} {k : K} {v : V} (h : ∀ p ∈ A, p.1 ≠ k) : A.map (fun p => if p.1 = k then (k, v) else p) = A := by
  conv => rhs; rw [← List.map_id A]
  refine List.map_congr_left (fun p hp => ?_)
  simp [h p hp]
theorem setL_mid {A B : List (K × V)} {k : K} {v u : V} (hA : ∀ p ∈ A, p.1 ≠ k) (hB : ∀ p ∈ B, p.1 ≠ k) : setL (A ++ (k, v) :: B) k u = A ++ (k, u) :: B := by
  unfold setL
  rw [if_pos (by simp), List.map_append, List.map_cons, map_ne hA, map_ne hB]
  simp
theorem filter_ne {A : List (K × V)} {k : K} (h : ∀ p ∈ A, p.1 ≠ k) : A.filter (fun p => decide (p.1 ≠ k)) = A := List.filter_eq_self.2 (fun p hp => by simpa using h p hp)
theorem delL_mid {A B : List (K × V)} {k : K} {v : V} (hA : ∀ p ∈ A, p.1 ≠ k) (hB : ∀ p ∈ B, p.1 ≠ k) : delL (A ++ (k, v) :: B) k = A ++ B := by
  unfold delL
  rw [List.filter_append, List.filter_cons_of_neg (by simp), filter_ne hA, filter_ne hB]
theorem delL_none {A : List (K × V)} {k : K} (hA : ∀ p ∈ A, p.1 ≠ k) : delL A k = A := filter_ne hA
theorem setL_new' {A : List (K × V)} {k : K} {v : V} (hA : ∀ p ∈ A, p.1 ≠ k) : setL A k v = A ++ [(k, v)] := by
  unfold setL
  rw [if_neg]
  intro h
  obtain ⟨p, hp, e⟩ := List.any_eq_true.1 h
  exact hA p hp (by simpa using e)
end

variable {dir : ByteArray} {S S0 : List (Nat × Fl)} {M : Option Fl} {n : Nat} {f f' : Fl}
theorem Rise.nil : Rise [] := ⟨List.Pairwise.nil, fun p hp => by simp at hp⟩
theorem Rise.pre {A B : List (Nat × Fl)} (h : Rise (A ++ B)) : Rise A :=
  ⟨by have := h.lt; rw [List.map_append] at this; exact (List.pairwise_append.1 this).1, fun p hp => h.rng p (List.mem_append_left _ hp)⟩
theorem Rise.post {A B : List (Nat × Fl)} (h : Rise (A ++ B)) : Rise B :=
  ⟨by have := h.lt; rw [List.map_append] at this; exact (List.pairwise_append.1 this).2.1, fun p hp => h.rng p (List.mem_append_right _ hp)⟩
theorem Rise.mid {A B : List (Nat × Fl)} (h : Rise (A ++ (n, f) :: B)) : (∀ p ∈ A, p.1 < n) ∧ (∀ p ∈ B, n < p.1) ∧ 1 ≤ n ∧ n < 4294967296 := by
  have h1 := h.lt
  rw [List.map_append, List.map_cons] at h1
  obtain ⟨_, h2, h3⟩ := List.pairwise_append.1 h1
  refine ⟨fun p hp => h3 p.1 (List.mem_map_of_mem hp) n (by simp), fun p hp => (List.pairwise_cons.1 h2).1 p.1 (List.mem_map_of_mem hp), ?_⟩
  exact h.rng (n, f) (by simp)
theorem Rise.swap {A B : List (Nat × Fl)} (h : Rise (A ++ (n, f) :: B)) (f' : Fl) : Rise (A ++ (n, f') :: B) := by
  refine ⟨?_, fun p hp => ?_⟩
  · have := h.lt
    rw [List.map_append, List.map_cons] at this ⊢
    exact this
  · rcases List.mem_append.1 hp with hp | hp
    · exact h.rng p (List.mem_append_left _ hp)
    · rcases List.mem_cons.1 hp with rfl | hp
      · exact h.rng (n, f) (by simp)
      · exact h.rng p (List.mem_append_right _ (List.mem_cons_of_mem _ hp))
theorem Rise.add (h : Rise S) (hn : ∀ p ∈ S, p.1 < n) (h1 : 1 ≤ n) (h2 : n < 4294967296) (f : Fl) : Rise (S ++ [(n, f)]) := by
  refine ⟨?_, fun p hp => ?_⟩
  · rw [List.map_append, List.pairwise_append]
    refine ⟨h.lt, List.pairwise_singleton _ _, fun a ha b hb => ?_⟩
    obtain ⟨p, hp, rfl⟩ := List.mem_map.1 ha
    simp at hb
    subst hb
    exact hn p hp
  · rcases List.mem_append.1 hp with hp | hp
    · exact h.rng p hp
    · simp at hp; subst hp; exact ⟨h1, h2⟩
theorem segs_ne {A : List (Nat × Fl)} (h1 : ∀ p ∈ A, p.1 ≠ n ∧ p.1 < 4294967296) (h2 : n < 4294967296) : ∀ p ∈ A.map (fun p => (segN dir p.1, p.2)), p.1 ≠ segN dir n := by
  intro p hp e
  obtain ⟨q, hq, rfl⟩ := List.mem_map.1 hp
  exact (h1 q hq).1 (segN_inj (h1 q hq).2 h2 e)
theorem segs_mend (A : List (Nat × Fl)) : ∀ p ∈ A.map (fun p => (segN dir p.1, p.2)), p.1 ≠ mendN dir := by
  intro p hp e
  obtain ⟨q, hq, rfl⟩ := List.mem_map.1 hp
  exact segN_mend dir q.1 e
theorem mendL_ne (M : Option Fl) (n : Nat) : ∀ p ∈ (match M with | none => [] | some f => [(mendN dir, f)] : Fm), p.1 ≠ segN dir n := by
  intro p hp e
  cases M with
  | none => simp at hp
  | some f => simp at hp; subst hp; exact segN_mend dir n e.symm
theorem dmap_split (A B : List (Nat × Fl)) (n : Nat) (f : Fl) : dmap dir (A ++ (n, f) :: B) M = A.map (fun p => (segN dir p.1, p.2)) ++ (segN dir n, f) :: (B.map (fun p => (segN dir p.1, p.2)) ++ (match M with | none => [] | some f => [(mendN dir, f)])) := by
  unfold dmap
  rw [List.map_append, List.map_cons, List.append_assoc, List.cons_append]
theorem dmap_left {A B : List (Nat × Fl)} (h : Rise (A ++ (n, f) :: B)) : ∀ p ∈ A.map (fun p => (segN dir p.1, p.2)), p.1 ≠ segN dir n :=
  segs_ne (fun p hp => ⟨by have := h.mid.1 p hp; omega, (h.rng p (List.mem_append_left _ hp)).2⟩) h.mid.2.2.2
theorem dmap_right {A B : List (Nat × Fl)} (h : Rise (A ++ (n, f) :: B)) : ∀ p ∈ B.map (fun p => (segN dir p.1, p.2)) ++ (match M with | none => [] | some f => [(mendN dir, f)] : Fm), p.1 ≠ segN dir n := by
  intro p hp
  rcases List.mem_append.1 hp with hp | hp
  · exact segs_ne (fun p hp => ⟨by have := h.mid.2.1 p hp; omega, (h.rng p (List.mem_append_right _ (List.mem_cons_of_mem _ hp))).2⟩) h.mid.2.2.2 p hp
  · exact mendL_ne M n p hp
theorem dmap_get {A B : List (Nat × Fl)} (h : Rise (A ++ (n, f) :: B)) : getL (dmap dir (A ++ (n, f) :: B) M) (segN dir n) = some f := by
  rw [dmap_split, getL_app_right (dmap_left h), getL_one]
theorem dmap_set {A B : List (Nat × Fl)} (h : Rise (A ++ (n, f) :: B)) : setL (dmap dir (A ++ (n, f) :: B) M) (segN dir n) f' = dmap dir (A ++ (n, f') :: B) M := by
  rw [dmap_split, dmap_split, setL_mid (dmap_left h) (dmap_right h)]
theorem dmap_del {A B : List (Nat × Fl)} (h : Rise (A ++ (n, f) :: B)) : delL (dmap dir (A ++ (n, f) :: B) M) (segN dir n) = dmap dir (A ++ B) M := by
  rw [dmap_split, delL_mid (dmap_left h) (dmap_right h)]
  unfold dmap
  rw [List.map_append, List.append_assoc]
theorem dmap_get_new (h : Rise S) (hn : ∀ p ∈ S, p.1 < n) (h2 : n < 4294967296) : getL (dmap dir S M) (segN dir n) = none :=
  getL_none (fun p hp => by
    rcases List.mem_append.1 hp with hp | hp
    · exact segs_ne (fun p hp => ⟨by have := hn p hp; omega, (h.rng p hp).2⟩) h2 p hp
    · exact mendL_ne M n p hp)
theorem dmap_new (h : Rise S) (hn : ∀ p ∈ S, p.1 < n) (h2 : n < 4294967296) : setL (dmap dir S none) (segN dir n) f = dmap dir (S ++ [(n, f)]) none := by
  have h3 : dmap dir S none = S.map (fun p => (segN dir p.1, p.2)) := by simp [dmap]
  rw [h3, setL_new' (segs_ne (fun p hp => ⟨by have := hn p hp; omega, (h.rng p hp).2⟩) h2)]
  simp [dmap]
theorem dmap_mend : getL (dmap dir S M) (mendN dir) = M := by
  unfold dmap
  rw [getL_app_right (segs_mend S)]
  cases M with
  | none => rfl
  | some f => exact getL_one _ _ _
theorem dmap_set_mend : setL (dmap dir S M) (mendN dir) f = dmap dir S (some f) := by
  cases M with
  | none =>
    have h3 : dmap dir S none = S.map (fun p => (segN dir p.1, p.2)) := by simp [dmap]
    rw [h3, setL_new' (segs_mend S)]
    rfl
  | some g => exact setL_mid (segs_mend S) (by simp)
theorem dmap_del_mend : delL (dmap dir S M) (mendN dir) = dmap dir S none := by
  cases M with
  | none =>
    have h3 : dmap dir S none = S.map (fun p => (segN dir p.1, p.2)) := by simp [dmap]
    rw [h3]
    exact delL_none (segs_mend S)
  | some g =>
    have := delL_mid (B := []) (v := g) (segs_mend (dir := dir) S) (by simp)
    exact this
end Go.Proofs.YtohigcpcbonaeaaGreatDoor
/-
  A log, plain: mending; appending. Of no program.
-/
namespace Go.Proofs.YtohigcpcbonaeaaGreatDoor
open Go.RowKit Go.Lib

/-- A disk that has power. -/
def dkF (m : Fm) (q : Int) (z : Option Fz) (k : Nat) : Dk := ⟨m, true, q, z, k⟩
def lessF : Option Fz → Option Fz
  | none => none
  | some z => some ⟨z.n - 1, z.cuts, z.flip⟩
/-- A disk of which the fuse blew: its files were kept as a crash keeps them. -/
def blown (m : Fm) (q : Int) (cuts : List Int) (flip : Int) (k : Nat) : Dk := ⟨crashL cuts flip (sortB (m.map (·.1))) 0 m, false, q, none, k⟩
theorem act_cases (m : Fm) (q : Int) (z : Option Fz) (k : Nat) (f : Fm → Fm) :
    (dkF m q z k).act f = (0, dkF (f m) q (lessF z) (k + 1)) ∨ ∃ cuts flip, z = some ⟨0, cuts, flip⟩ ∧ (dkF m q z k).act f = (20, blown m q cuts flip k) := by
  cases z with
  | none => exact .inl rfl
  | some z =>
    obtain ⟨n, cuts, flip⟩ := z
    cases n with
    | zero => exact .inr ⟨cuts, flip, rfl, rfl⟩
    | succ n => exact .inl rfl
variable {m : Fm} {q : Int} {z : Option Fz} {k : Nat} {s t : ByteArray} {f : Fl} {data : ByteArray}
theorem asked_ok (hs : nmB s = true) : (dkF m q z k).asked [s] = 0 := by simp [Dk.asked, dkF, hs]
theorem asked_ok2 (hs : nmB s = true) (ht : nmB t = true) : (dkF m q z k).asked [s, t] = 0 := by simp [Dk.asked, dkF, hs, ht]
theorem dk_create (hs : nmB s = true) (hg : getL m s = none) (hl : m.length < 20000) : (dkF m q z k).create s = (dkF m q z k).act (fun m => setL m s ⟨ByteArray.empty, 0⟩) := by
  unfold Dk.create
  rw [asked_ok hs, if_neg (by decide)]
  have h1 : (dkF m q z k).m = m := rfl
  rw [h1, hg, if_neg (by simp), if_neg (by omega)]
theorem dk_append (hs : nmB s = true) (hg : getL m s = some f) (hf : f.data.size + data.size ≤ 1048576) (hq : ¬ (0 ≤ q ∧ data.size ≠ 0 ∧ q < (used m : Int) + data.size)) : (dkF m q z k).app s data = (dkF m q z k).act (fun m => setL m s ⟨f.data ++ data, f.syn⟩) := by
  unfold Dk.app
  rw [asked_ok hs, if_neg (by decide)]
  have h1 : (dkF m q z k).m = m := rfl
  have h2 : (dkF m q z k).quota = q := rfl
  rw [h1, hg, h2]
  simp only
  rw [if_neg (by omega), if_neg hq]
theorem dk_append_full (hs : nmB s = true) (hg : getL m s = some f) (hf : f.data.size + data.size ≤ 1048576) (hq : 0 ≤ q ∧ data.size ≠ 0 ∧ q < (used m : Int) + data.size) : (dkF m q z k).app s data = (24, dkF m q z k) := by
  unfold Dk.app
  rw [asked_ok hs, if_neg (by decide)]
  have h1 : (dkF m q z k).m = m := rfl
  have h2 : (dkF m q z k).quota = q := rfl
  rw [h1, hg, h2]
  simp only
  rw [if_neg (by omega), if_pos hq]
theorem dk_sync (hs : nmB s = true) (hg : getL m s = some f) : (dkF m q z k).sync s = (dkF m q z k).act (fun m => setL m s ⟨f.data, f.data.size⟩) := by
  unfold Dk.sync
  rw [asked_ok hs, if_neg (by decide)]
  have h1 : (dkF m q z k).m = m := rfl
  rw [h1, hg]
theorem dk_rename (hs : nmB s = true) (ht : nmB t = true) (hg : getL m s = some f) : (dkF m q z k).rename s t = (dkF m q z k).act (fun m => setL (delL m s) t f) := by
  unfold Dk.rename
  rw [asked_ok2 hs ht, if_neg (by decide)]
  have h1 : (dkF m q z k).m = m := rfl
  rw [h1, hg]
theorem dk_remove (hs : nmB s = true) (hg : getL m s = some f) : (dkF m q z k).remove s = (dkF m q z k).act (fun m => delL m s) := by
  unfold Dk.remove
  rw [asked_ok hs, if_neg (by decide)]
  have h1 : (dkF m q z k).m = m := rfl
  rw [h1, hg]
theorem dk_remove_none (hs : nmB s = true) (hg : getL m s = none) : (dkF m q z k).remove s = (22, dkF m q z k) := by
  unfold Dk.remove
  rw [asked_ok hs, if_neg (by decide)]
  have h1 : (dkF m q z k).m = m := rfl
  rw [h1, hg]
theorem dk_read (hs : nmB s = true) (hg : getL m s = some f) : (dkF m q z k).read s = (f.data, 0) := by
  unfold Dk.read
  rw [asked_ok hs, if_neg (by decide)]
  have h1 : (dkF m q z k).m = m := rfl
  rw [h1, hg]

variable {dir : ByteArray} {S S0 A : List (Nat × Fl)} {M : Option Fl} {n : Nat} {L : Lg}
theorem dmap_len : (dmap dir S M).length ≤ S.length + 1 := by
  unfold dmap
  rw [List.length_append, List.length_map]
  cases M <;> simp
theorem last_of {A : List (Nat × Fl)} {n : Nat} {f : Fl} (h : L.m.map (·.1) = (A ++ [(n, f)]).map (fun p => (p.1 : Int))) : L.last = (n : Int) := by
  unfold Lg.last
  rw [h, List.map_append]
  simp
/-- What mending makes of a disk: it is mended; or there is no room; or the power fails. -/
def Mended (dir : ByteArray) (S0 : List (Nat × Fl)) (n : Nat) (f : Fl) (left : ByteArray) (q : Int) (z : Option Fz) (k : Nat) (L : Lg) (r : Int × Dk × Lg) : Prop :=
  (r.1 = 0 ∧ (∃ z' k', r.2.1 = dkF (dmap dir (S0 ++ [(n, ⟨left, left.size⟩)]) none) q z' k' ∧ k' ≤ k + 6 ∧ (z = none → z' = none)) ∧ r.2.2 = { L with torn := false, left := ByteArray.empty }) ∨
  (r.1 = 24 ∧ 0 ≤ q ∧ (∃ z' k', r.2.1 = dkF (dmap dir (S0 ++ [(n, f)]) none) q z' k' ∧ k' ≤ k + 6 ∧ (z = none → z' = none)) ∧ r.2.2 = L) ∨
  (r.1 = 20 ∧ z ≠ none ∧ (∃ M' cuts flip k', r.2.1 = blown (dmap dir (S0 ++ [(n, f)]) M') q cuts flip k' ∧ k' ≤ k + 6) ∧ r.2.2 = L)
theorem mended_cases (hd : nmB dir = true) (hd40 : dir.size ≤ 40) (hL : L.dir = dir) (ht : L.torn = true) (hr : Rise (S0 ++ [(n, f)])) (hlast : L.last = (n : Int)) (hleft : L.left.size ≤ 1048576) (hl : S0.length + 3 ≤ 20000) :
    Mended dir S0 n f L.left q z k L (L.mended (dkF (dmap dir (S0 ++ [(n, f)]) M) q z k)) := by
  have hm := mendN_nm hd hd40
  have hsn : nmB (segN dir n) = true := segN_nm hd hd40 n
  have key : ∀ (z1 : Option Fz) (k1 : Nat), k1 ≤ k + 1 → (z = none → z1 = none) → ∀ r, r = (let b := (dkF (dmap dir (S0 ++ [(n, f)]) none) q z1 k1).create (mendN dir)
      if b.1 ≠ 0 then b else
      let c := b.2.app (mendN dir) L.left
      if c.1 ≠ 0 then c else
      let d := c.2.sync (mendN dir)
      if d.1 ≠ 0 then d else d.2.rename (mendN dir) (segN dir n)) →
      (r.1 = 0 ∧ ∃ z' k', r.2 = dkF (dmap dir (S0 ++ [(n, ⟨L.left, L.left.size⟩)]) none) q z' k' ∧ k' ≤ k + 5 ∧ (z = none → z' = none)) ∨
      (r.1 = 24 ∧ 0 ≤ q ∧ ∃ M' z' k', r.2 = dkF (dmap dir (S0 ++ [(n, f)]) (some M')) q z' k' ∧ k' ≤ k + 5 ∧ (z = none → z' = none)) ∨
      (r.1 = 20 ∧ z ≠ none ∧ ∃ M' cuts flip k', r.2 = blown (dmap dir (S0 ++ [(n, f)]) M') q cuts flip k' ∧ k' ≤ k + 5) := by
    intro z1 k1 hk1 hz1 r hr0
    have hzz : ∀ {z' : Option Fz}, (∃ cuts flip, z' = some ⟨0, cuts, flip⟩) → (z = none → z' = none) → z ≠ none := by
      rintro z' ⟨cuts, flip, e⟩ h e2
      rw [h e2] at e
      cases e
    have hzl : ∀ {z' : Option Fz}, (z = none → z' = none) → (z = none → lessF z' = none) := by
      intro z' h e; rw [h e]; rfl
    rw [dk_create hm dmap_mend (by have := dmap_len (dir := dir) (S := S0 ++ [(n, f)]) (M := none); simp at this; omega)] at hr0
    rcases act_cases (dmap dir (S0 ++ [(n, f)]) none) q z1 k1 (fun m => setL m (mendN dir) ⟨ByteArray.empty, 0⟩) with h | ⟨cuts, flip, e, h⟩
    · rw [h] at hr0
      simp only [dmap_set_mend] at hr0
      rw [if_neg (by decide)] at hr0
      by_cases hq : 0 ≤ q ∧ L.left.size ≠ 0 ∧ q < (used (dmap dir (S0 ++ [(n, f)]) (some ⟨ByteArray.empty, 0⟩)) : Int) + L.left.size
      · rw [dk_append_full hm dmap_mend (by show (0 : Nat) + _ ≤ _; omega) hq, if_pos (by simp)] at hr0
        subst hr0
        exact .inr (.inl ⟨rfl, hq.1, _, _, _, rfl, by omega, hzl hz1⟩)
      · rw [dk_append hm dmap_mend (by show (0 : Nat) + _ ≤ _; omega) hq] at hr0
        rcases act_cases (dmap dir (S0 ++ [(n, f)]) (some ⟨ByteArray.empty, 0⟩)) q (lessF z1) (k1 + 1) (fun m => setL m (mendN dir) ⟨ByteArray.empty ++ L.left, 0⟩) with h2 | ⟨cuts, flip, e, h2⟩
        · rw [h2] at hr0
          simp only [dmap_set_mend] at hr0
          rw [if_neg (by decide), dk_sync hm dmap_mend] at hr0
          have he : ByteArray.empty ++ L.left = L.left := ByteArray.empty_append
          rw [he] at hr0
          rcases act_cases (dmap dir (S0 ++ [(n, f)]) (some ⟨L.left, 0⟩)) q (lessF (lessF z1)) (k1 + 1 + 1) (fun m => setL m (mendN dir) ⟨L.left, L.left.size⟩) with h3 | ⟨cuts, flip, e, h3⟩
          · rw [h3] at hr0
            simp only [dmap_set_mend] at hr0
            rw [if_neg (by decide), dk_rename hm hsn dmap_mend] at hr0
            rcases act_cases (dmap dir (S0 ++ [(n, f)]) (some ⟨L.left, L.left.size⟩)) q (lessF (lessF (lessF z1))) (k1 + 1 + 1 + 1) (fun m => setL (delL m (mendN dir)) (segN dir n) ⟨L.left, L.left.size⟩) with h4 | ⟨cuts, flip, e, h4⟩
            · rw [h4] at hr0
              simp only [dmap_del_mend] at hr0
              rw [dmap_set hr] at hr0
              subst hr0
              exact .inl ⟨rfl, _, _, rfl, by omega, hzl (hzl (hzl (hzl hz1)))⟩
            · rw [h4] at hr0
              subst hr0
              exact .inr (.inr ⟨rfl, hzz ⟨cuts, flip, e⟩ (hzl (hzl (hzl hz1))), _, _, _, _, rfl, by omega⟩)
          · rw [h3] at hr0
            simp only at hr0
            rw [if_pos (by decide)] at hr0
            subst hr0
            exact .inr (.inr ⟨rfl, hzz ⟨cuts, flip, e⟩ (hzl (hzl hz1)), _, _, _, _, rfl, by omega⟩)
        · rw [h2] at hr0
          simp only at hr0
          rw [if_pos (by decide)] at hr0
          subst hr0
          exact .inr (.inr ⟨rfl, hzz ⟨cuts, flip, e⟩ (hzl hz1), _, _, _, _, rfl, by omega⟩)
    · rw [h] at hr0
      simp only at hr0
      rw [if_pos (by decide)] at hr0
      subst hr0
      exact .inr (.inr ⟨rfl, hzz ⟨cuts, flip, e⟩ hz1, _, _, _, _, rfl, by omega⟩)
  have hwr : (∃ cuts flip, z = some ⟨0, cuts, flip⟩ ∧ L.write (dkF (dmap dir (S0 ++ [(n, f)]) M) q z k) = (20, blown (dmap dir (S0 ++ [(n, f)]) M) q cuts flip k)) ∨
      ∃ z1 k1, k1 ≤ k + 1 ∧ (z = none → z1 = none) ∧ L.write (dkF (dmap dir (S0 ++ [(n, f)]) M) q z k) = (let b := (dkF (dmap dir (S0 ++ [(n, f)]) none) q z1 k1).create (mendN dir)
        if b.1 ≠ 0 then b else
        let c := b.2.app (mendN dir) L.left
        if c.1 ≠ 0 then c else
        let d := c.2.sync (mendN dir)
        if d.1 ≠ 0 then d else d.2.rename (mendN dir) (segN dir n)) := by
    have hsz : segZ L.dir L.last = segN dir n := by unfold segZ; rw [hL, hlast]; rfl
    unfold Lg.write
    rw [hsz, hL]
    cases M with
    | none =>
      refine .inr ⟨z, k, by omega, id, ?_⟩
      rw [dk_remove_none hm dmap_mend]
      simp only
      rw [if_neg (by simp)]
    | some g =>
      rw [dk_remove hm dmap_mend]
      rcases act_cases (dmap dir (S0 ++ [(n, f)]) (some g)) q z k (fun m => delL m (mendN dir)) with h | ⟨cuts, flip, e, h⟩
      · refine .inr ⟨lessF z, k + 1, by omega, (by intro e; rw [e]; rfl), ?_⟩
        rw [h]
        simp only [dmap_del_mend]
        rw [if_neg (by simp)]
      · refine .inl ⟨cuts, flip, e, ?_⟩
        rw [h]
        simp only
        rw [if_pos (by decide)]
  unfold Lg.mended
  rw [if_neg (by rw [ht]; decide), hL]
  rcases hwr with ⟨cuts, flip, e, h⟩ | ⟨z1, k1, hk1, hz1, h⟩
  · rw [h]
    simp only
    rw [if_neg (by decide), if_neg (by decide)]
    exact .inr (.inr ⟨rfl, by rw [e]; simp, ⟨_, _, _, _, rfl, by omega⟩, rfl⟩)
  · have hc := key z1 k1 hk1 hz1 _ h
    rcases hc with ⟨h1, z', k', h2, h3, h4⟩ | ⟨h1, hq, M', z', k', h2, h3, h4⟩ | ⟨h1, hz, M', cuts, flip, k', h2, h3⟩
    · simp only [h1]
      rw [if_neg (by decide), if_pos trivial]
      exact .inl ⟨rfl, ⟨z', k', h2, by omega, h4⟩, by rw [hL]⟩
    · simp only [h1]
      rw [if_pos trivial, h2, dk_remove hm dmap_mend]
      rcases act_cases (dmap dir (S0 ++ [(n, f)]) (some M')) q z' k' (fun m => delL m (mendN dir)) with h5 | ⟨cuts, flip, e, h5⟩
      · rw [h5]
        simp only [dmap_del_mend]
        rw [if_neg (by decide)]
        exact .inr (.inl ⟨rfl, hq, ⟨lessF z', k' + 1, rfl, by omega, fun e => by rw [h4 e]; rfl⟩, rfl⟩)
      · rw [h5]
        simp only
        rw [if_pos trivial]
        exact .inr (.inr ⟨rfl, (fun e2 => by rw [h4 e2] at e; cases e), ⟨_, _, _, _, rfl, by omega⟩, rfl⟩)
    · simp only [h1]
      rw [if_neg (by decide), if_neg (by decide)]
      exact .inr (.inr ⟨rfl, hz, ⟨M', cuts, flip, k', h2, by omega⟩, rfl⟩)
end Go.Proofs.YtohigcpcbonaeaaGreatDoor
/-
  A log, plain: a log that runs; what is appended. Of no program.
-/
namespace Go.Proofs.YtohigcpcbonaeaaGreatDoor
open Go.RowKit Go.Lib

/-- A file that is whole frames. -/
def Good (b : ByteArray) : Prop := ∃ rs : List (List UInt8), b.data.toList = frames rs ∧ ∀ r ∈ rs, r.length ≤ 131072
theorem Good.scan {b : ByteArray} {rs : List (List UInt8)} (h : b.data.toList = frames rs) (hr : ∀ r ∈ rs, r.length ≤ 131072) : recsOf b = rs.map (fun l => ⟨l.toArray⟩) ∧ goodN b = b.size := by
  unfold recsOf goodN
  rw [h, scan_whole rs hr]
  refine ⟨rfl, ?_⟩
  show (frames rs).length = _
  rw [← h]
  simp
theorem Good.whole {b : ByteArray} (h : Good b) : goodN b = b.size := by
  obtain ⟨rs, h1, h2⟩ := h
  exact (Good.scan h1 h2).2
theorem good_iff {b : ByteArray} : Good b ↔ goodN b = b.size := by
  refine ⟨Good.whole, fun h => ?_⟩
  obtain ⟨t, h1, h2, h3, h4⟩ := scan_spec b.data.toList
  refine ⟨_, ?_, h4⟩
  have h5 := congrArg List.length h1
  rw [List.length_append, h2] at h5
  unfold goodN at h
  have : t = [] := List.eq_nil_of_length_eq_zero (by rw [ba_size] at h; omega)
  rw [this, List.append_nil] at h1
  exact h1
theorem ba_eta (r : ByteArray) : (⟨r.data.toList.toArray⟩ : ByteArray) = r := by cases r; simp
theorem framed_list (r : ByteArray) : (framed r).data.toList = frameL r.data.toList := by simp [framed]
theorem framed_size (r : ByteArray) : (framed r).size = 8 + r.size := by
  rw [ba_size, framed_list, frame_len, ← ba_size]
theorem ba_app (a b : ByteArray) : (a ++ b).data.toList = a.data.toList ++ b.data.toList := by simp [ByteArray.data_append]
theorem Good.empty : Good ByteArray.empty := ⟨[], rfl, fun r hr => by simp at hr⟩
theorem recsOf_empty : recsOf ByteArray.empty = [] := rfl
theorem Good.app {b r : ByteArray} (h : Good b) (hr : r.size ≤ 131072) : Good (b ++ framed r) ∧ recsOf (b ++ framed r) = recsOf b ++ [r] := by
  obtain ⟨rs, h1, h2⟩ := h
  have h3 : (b ++ framed r).data.toList = frames (rs ++ [r.data.toList]) := by rw [ba_app, h1, framed_list, frames_app, frames_one]
  have h4 : ∀ x ∈ rs ++ [r.data.toList], x.length ≤ 131072 := by
    intro x hx
    rcases List.mem_append.1 hx with hx | hx
    · exact h2 x hx
    · simp at hx; subst hx; rw [ba_size] at hr; exact hr
  refine ⟨⟨_, h3, h4⟩, ?_⟩
  rw [(Good.scan h3 h4).1, (Good.scan h1 h2).1, List.map_append, List.map_singleton, ba_eta]
theorem Good.one {r : ByteArray} (hr : r.size ≤ 131072) : Good (framed r) ∧ recsOf (framed r) = [r] := by
  have := Good.app Good.empty hr
  rw [ByteArray.empty_append] at this
  exact this

/-- All that is synced. -/
def Synd (f : Fl) : Prop := f.syn = f.data.size
def mOf (S : List (Nat × Fl)) : List (Int × List ByteArray) := S.map (fun p => ((p.1 : Int), recsOf p.2.data))
def allR (S : List (Nat × Fl)) : List ByteArray := S.flatMap (fun p => recsOf p.2.data)
def lastN (S : List (Nat × Fl)) : Nat := (S.map (·.1)).getLastD 0
/-- A log that runs, over the segments S. -/
structure Run (dir : ByteArray) (size : Int) (L : Lg) (S : List (Nat × Fl)) : Prop where
  dir : L.dir = dir
  size : L.size = size
  torn : L.torn = false
  left : L.left = ByteArray.empty
  m : L.m = mOf S
  rise : Rise S
  good : ∀ p ∈ S, Good p.2.data
  syn : ∀ p ∈ S, p.2.syn ≤ p.2.data.size
  op : (L.op = 0 ∧ L.long = 0 ∧ ∀ p ∈ S, Synd p.2) ∨ ∃ (A : List (Nat × Fl)) (n : Nat) (f : Fl), S = A ++ [(n, f)] ∧ L.op = (n : Int) ∧ L.long = (f.data.size : Int) ∧ ∀ p ∈ A, Synd p.2
/-- What an append makes of the segments. -/
def AppS (size : Int) (L : Lg) (S S' : List (Nat × Fl)) (r : ByteArray) : Prop :=
  (∃ (A : List (Nat × Fl)) (n : Nat) (f : Fl), S = A ++ [(n, f)] ∧ L.op = (n : Int) ∧ ¬ (0 < f.data.size ∧ size < (f.data.size : Int) + (framed r).size) ∧ S' = A ++ [(n, ⟨f.data ++ framed r, f.syn⟩)]) ∨
  (∃ (A : List (Nat × Fl)) (n : Nat) (f : Fl), S = A ++ [(n, f)] ∧ L.op = (n : Int) ∧ 0 < f.data.size ∧ size < (f.data.size : Int) + (framed r).size ∧ S' = (A ++ [(n, ⟨f.data, f.data.size⟩)]) ++ [(n + 1, ⟨framed r, 0⟩)]) ∨
  (L.op = 0 ∧ S' = S ++ [(lastN S + 1, ⟨framed r, 0⟩)])

variable {dir : ByteArray} {size q : Int} {L : Lg} {S S' A : List (Nat × Fl)} {n k : Nat} {f : Fl} {r : ByteArray}
theorem mOf_keys : (mOf S).map (·.1) = S.map (fun p => (p.1 : Int)) := by unfold mOf; rw [List.map_map]; rfl
theorem lastN_snoc : lastN (A ++ [(n, f)]) = n := by simp [lastN]
theorem Run.last (h : Run dir size L S) : L.last = (lastN S : Int) := by
  unfold Lg.last lastN
  rw [h.m, mOf_keys]
  rcases List.eq_nil_or_concat S with rfl | ⟨A, p, rfl⟩
  · rfl
  · simp
theorem lastN_lt (h : Rise S) : ∀ p ∈ S, p.1 < lastN S + 1 := by
  intro p hp
  rcases List.eq_nil_or_concat S with rfl | ⟨A, x, rfl⟩
  · simp at hp
  · obtain ⟨n, f⟩ := x
    rw [List.concat_eq_append] at hp h ⊢
    rw [lastN_snoc]
    rcases List.mem_append.1 hp with hp | hp
    · have := h.mid.1 p hp; omega
    · simp at hp; subst hp; simp
theorem allR_app (A B : List (Nat × Fl)) : allR (A ++ B) = allR A ++ allR B := List.flatMap_append
theorem allR_one : allR [(n, f)] = recsOf f.data := by simp [allR]
theorem mOf_app (A B : List (Nat × Fl)) : mOf (A ++ B) = mOf A ++ mOf B := List.map_append
theorem mOf_ne (h : ∀ p ∈ A, p.1 < n) : ∀ p ∈ mOf A, p.1 ≠ (n : Int) := by
  intro p hp e
  obtain ⟨x, hx, rfl⟩ := List.mem_map.1 hp
  have := h x hx
  simp at e
  omega

/-- A segment is begun. -/
theorem begin_run (hd : nmB dir = true) (hd40 : dir.size ≤ 40) (h : Run dir size L S) (h0 : L.op = 0) (hS : S.length < 20000) (hl : lastN S + 1 < 4294967296) :
    ∃ L', L.begin_ (dkF (dmap dir S none) q none k) = (0, dkF (dmap dir (S ++ [(lastN S + 1, ⟨ByteArray.empty, 0⟩)]) none) q none (k + 1), L') ∧ Run dir size L' (S ++ [(lastN S + 1, ⟨ByteArray.empty, 0⟩)]) ∧ L'.op = ((lastN S + 1 : Nat) : Int) := by
  have hlt := lastN_lt h.rise
  have hz : segZ L.dir (L.last + 1) = segN dir (lastN S + 1) := by unfold segZ; rw [h.dir, h.last]; rfl
  have hll : (dmap dir S none).length < 20000 := by unfold dmap; simp; exact hS
  unfold Lg.begin_
  rw [if_neg (by rw [h.last]; omega), hz, dk_create (segN_nm hd hd40 _) (dmap_get_new h.rise hlt hl) hll]
  have ha : (dkF (dmap dir S none) q none k).act (fun m => setL m (segN dir (lastN S + 1)) ⟨ByteArray.empty, 0⟩) = (0, dkF (setL (dmap dir S none) (segN dir (lastN S + 1)) ⟨ByteArray.empty, 0⟩) q none (k + 1)) := rfl
  rw [ha, dmap_new h.rise hlt hl]
  simp only
  rw [if_neg (by decide)]
  refine ⟨_, rfl, ?_, by rw [h.last]; rfl⟩
  have hop := h.op.resolve_right (by
    rintro ⟨A, n, f, rfl, hn, _⟩
    have := (h.rise.mid (B := [])).2.2.1
    omega)
  refine ⟨h.dir, h.size, h.torn, h.left, ?_, h.rise.add hlt (by omega) hl _, fun p hp => ?_, fun p hp => ?_, .inr ⟨S, _, _, rfl, by rw [h.last]; rfl, rfl, hop.2.2⟩⟩
  · show setL L.m (L.last + 1) [] = _
    rw [h.m, h.last, mOf_app]
    have := setL_new' (A := mOf S) (k := ((lastN S + 1 : Nat) : Int)) (v := ([] : List ByteArray)) (mOf_ne hlt)
    exact this
  · rcases List.mem_append.1 hp with hp | hp
    · exact h.good p hp
    · simp at hp; subst hp; exact Good.empty
  · rcases List.mem_append.1 hp with hp | hp
    · exact h.syn p hp
    · simp at hp; subst hp; exact Nat.le_refl _
/-- A record is laid into the open segment, or there is no room. -/
theorem lay_run (hd : nmB dir = true) (hd40 : dir.size ≤ 40) (h : Run dir size L (A ++ [(n, f)])) (ho : L.op = (n : Int)) (hr : r.size ≤ 131072) (hf : f.data.size + (framed r).size ≤ 1048576) :
    (∃ L', L.lay (dkF (dmap dir (A ++ [(n, f)]) none) q none k) r = (0, dkF (dmap dir (A ++ [(n, ⟨f.data ++ framed r, f.syn⟩)]) none) q none (k + 1), L') ∧ Run dir size L' (A ++ [(n, ⟨f.data ++ framed r, f.syn⟩)]) ∧ L'.op = (n : Int)) ∨
    (0 ≤ q ∧ L.lay (dkF (dmap dir (A ++ [(n, f)]) none) q none k) r = (24, dkF (dmap dir (A ++ [(n, f)]) none) q none k, L)) := by
  have hz : segZ L.dir L.op = segN dir n := by unfold segZ; rw [h.dir, ho]; rfl
  have hmid := h.rise.mid (B := [])
  have hn1 := hmid.2.2.1
  unfold Lg.lay
  rw [hz]
  by_cases hq : 0 ≤ q ∧ (framed r).size ≠ 0 ∧ q < (used (dmap dir (A ++ [(n, f)]) none) : Int) + (framed r).size
  · right
    rw [dk_append_full (segN_nm hd hd40 n) (dmap_get h.rise) hf hq]
    simp only
    rw [if_pos (by decide)]
    exact ⟨hq.1, rfl⟩
  · left
    rw [dk_append (segN_nm hd hd40 n) (dmap_get h.rise) hf hq]
    have ha : (dkF (dmap dir (A ++ [(n, f)]) none) q none k).act (fun m => setL m (segN dir n) ⟨f.data ++ framed r, f.syn⟩) = (0, dkF (setL (dmap dir (A ++ [(n, f)]) none) (segN dir n) ⟨f.data ++ framed r, f.syn⟩) q none (k + 1)) := rfl
    rw [ha, dmap_set h.rise]
    simp only
    rw [if_neg (by decide)]
    have hop : ∃ (A' : List (Nat × Fl)) (n' : Nat) (f' : Fl), A ++ [(n, f)] = A' ++ [(n', f')] ∧ L.op = (n' : Int) ∧ L.long = (f'.data.size : Int) ∧ ∀ p ∈ A', Synd p.2 := h.op.resolve_left (by
      rintro ⟨h0, _⟩
      rw [ho] at h0
      omega)
    obtain ⟨A', n', f', he, _, hlong, hsyn⟩ := hop
    obtain ⟨rfl, e2⟩ := List.append_inj' he rfl
    simp at e2
    obtain ⟨rfl, rfl⟩ := e2
    have hg := (h.good (n, f) (by simp)).app hr
    refine ⟨_, rfl, ⟨h.dir, h.size, h.torn, h.left, ?_, h.rise.swap _, fun p hp => ?_, fun p hp => ?_, .inr ⟨A, n, _, rfl, ho, ?_, hsyn⟩⟩, ho⟩
    · show setL L.m L.op (L.at_ L.op ++ [r]) = _
      unfold Lg.at_
      rw [ho, h.m, mOf_app, mOf_app]
      have h1 : mOf [(n, f)] = [((n : Int), recsOf f.data)] := rfl
      have h2 : mOf [(n, (⟨f.data ++ framed r, f.syn⟩ : Fl))] = [((n : Int), recsOf (f.data ++ framed r))] := rfl
      rw [h1, h2, getL_app_right (mOf_ne hmid.1), getL_one, setL_mid (mOf_ne hmid.1) (by simp), hg.2]
      rfl
    · rcases List.mem_append.1 hp with hp | hp
      · exact h.good p (List.mem_append_left _ hp)
      · simp at hp; subst hp; exact hg.1
    · rcases List.mem_append.1 hp with hp | hp
      · exact h.syn p (List.mem_append_left _ hp)
      · simp at hp
        subst hp
        have := h.syn (n, f) (by simp)
        show f.syn ≤ (f.data ++ framed r).size
        rw [ByteArray.size_append]
        simp only at this
        omega
    · show L.long + ((framed r).size : Int) = ((f.data ++ framed r).size : Int)
      rw [hlong, ByteArray.size_append]
      omega
/-- A log that runs is not mended. -/
theorem mended_run (h : Run dir size L S) (D : Dk) : L.mended D = (0, D, L) := by
  unfold Lg.mended
  rw [if_pos h.torn]
/-- The open segment is closed. -/
theorem rotate_run (hd : nmB dir = true) (hd40 : dir.size ≤ 40) (h : Run dir size L (A ++ [(n, f)])) (ho : L.op = (n : Int)) :
    ∃ L', L.rotate (dkF (dmap dir (A ++ [(n, f)]) none) q none k) = (0, dkF (dmap dir (A ++ [(n, ⟨f.data, f.data.size⟩)]) none) q none (k + 1), L') ∧ Run dir size L' (A ++ [(n, ⟨f.data, f.data.size⟩)]) ∧ L'.op = 0 := by
  have hz : segZ L.dir L.op = segN dir n := by unfold segZ; rw [h.dir, ho]; rfl
  have hmid := h.rise.mid (B := [])
  have hn1 := hmid.2.2.1
  unfold Lg.rotate
  rw [mended_run h]
  simp only
  rw [if_neg (by decide)]
  have hs : L.sync (dkF (dmap dir (A ++ [(n, f)]) none) q none k) = (dkF (dmap dir (A ++ [(n, f)]) none) q none k).act (fun m => setL m (segN dir n) ⟨f.data, f.data.size⟩) := by
    unfold Lg.sync
    rw [if_neg (by rw [ho]; omega), hz, dk_sync (segN_nm hd hd40 n) (dmap_get h.rise)]
  rw [hs]
  have ha : (dkF (dmap dir (A ++ [(n, f)]) none) q none k).act (fun m => setL m (segN dir n) ⟨f.data, f.data.size⟩) = (0, dkF (setL (dmap dir (A ++ [(n, f)]) none) (segN dir n) ⟨f.data, f.data.size⟩) q none (k + 1)) := rfl
  rw [ha, dmap_set h.rise]
  simp only
  rw [if_neg (by decide)]
  have hop : ∃ (A' : List (Nat × Fl)) (n' : Nat) (f' : Fl), A ++ [(n, f)] = A' ++ [(n', f')] ∧ L.op = (n' : Int) ∧ L.long = (f'.data.size : Int) ∧ ∀ p ∈ A', Synd p.2 := h.op.resolve_left (by
    rintro ⟨h0, _⟩
    rw [ho] at h0
    omega)
  obtain ⟨A', n', f', he, _, hlong, hsyn⟩ := hop
  obtain ⟨rfl, e2⟩ := List.append_inj' he rfl
  simp at e2
  obtain ⟨rfl, rfl⟩ := e2
  refine ⟨_, rfl, ⟨h.dir, h.size, h.torn, h.left, ?_, h.rise.swap _, fun p hp => ?_, fun p hp => ?_, .inl ⟨rfl, rfl, fun p hp => ?_⟩⟩, rfl⟩
  · show L.m = _
    rw [h.m, mOf_app, mOf_app]
    rfl
  · rcases List.mem_append.1 hp with hp | hp
    · exact h.good p (List.mem_append_left _ hp)
    · simp at hp; subst hp; exact h.good (n, f) (by simp)
  · rcases List.mem_append.1 hp with hp | hp
    · exact h.syn p (List.mem_append_left _ hp)
    · simp at hp; subst hp; exact Nat.le_refl _
  · rcases List.mem_append.1 hp with hp | hp
    · exact hsyn p hp
    · simp at hp; subst hp; exact rfl
/-- What an append makes of a log that runs. -/
def Appended (dir : ByteArray) (size q : Int) (L : Lg) (S : List (Nat × Fl)) (r : ByteArray) (k : Nat) (x : Int × Dk × Lg) : Prop :=
  (x.1 = 0 ∧ ∃ S' k', x.2.1 = dkF (dmap dir S' none) q none k' ∧ Run dir size x.2.2 S' ∧ AppS size L S S' r ∧ k' ≤ k + 3 ∧ x.2.2.op ≠ 0) ∨
  (x.1 = 24 ∧ 0 ≤ q ∧ ∃ S' k', x.2.1 = dkF (dmap dir S' none) q none k' ∧ Run dir size x.2.2 S' ∧ allR S' = allR S ∧ lastN S' ≤ lastN S + 1 ∧ S'.length ≤ S.length + 1 ∧ k' ≤ k + 3)
theorem new_run (hd : nmB dir = true) (hd40 : dir.size ≤ 40) (h : Run dir size L S) (h0 : L.op = 0) (hr : r.size ≤ 131072) (hS : S.length + 3 ≤ 20000) (hl : lastN S + 1 < 4294967296) :
    ∀ x, x = (let c := if L.op = 0 then L.begin_ (dkF (dmap dir S none) q none k) else (0, dkF (dmap dir S none) q none k, L); if c.1 ≠ 0 then c else c.2.2.lay c.2.1 r) →
    (x.1 = 0 ∧ ∃ k', x.2.1 = dkF (dmap dir (S ++ [(lastN S + 1, ⟨framed r, 0⟩)]) none) q none k' ∧ Run dir size x.2.2 (S ++ [(lastN S + 1, ⟨framed r, 0⟩)]) ∧ k' ≤ k + 2 ∧ x.2.2.op ≠ 0) ∨
    (x.1 = 24 ∧ 0 ≤ q ∧ ∃ k', x.2.1 = dkF (dmap dir (S ++ [(lastN S + 1, ⟨ByteArray.empty, 0⟩)]) none) q none k' ∧ Run dir size x.2.2 (S ++ [(lastN S + 1, ⟨ByteArray.empty, 0⟩)]) ∧ k' ≤ k + 2) := by
  intro x hx
  obtain ⟨L1, hb, hR1, ho1⟩ := begin_run (q := q) (k := k) hd hd40 h h0 (by omega) hl
  rw [if_pos h0, hb] at hx
  simp only at hx
  rw [if_neg (by decide)] at hx
  rcases lay_run (q := q) (k := k + 1) (r := r) hd hd40 hR1 ho1 hr (by rw [framed_size]; show 0 + _ ≤ _; omega) with ⟨L2, h2, hR2, ho2⟩ | ⟨hq, h2⟩
  · rw [h2] at hx
    rw [ByteArray.empty_append] at hx hR2
    subst hx
    exact .inl ⟨rfl, _, rfl, hR2, by omega, by show L2.op ≠ 0; rw [ho2]; omega⟩
  · rw [h2] at hx
    subst hx
    exact .inr ⟨rfl, hq, _, rfl, hR1, by omega⟩
theorem append_run (hd : nmB dir = true) (hd40 : dir.size ≤ 40) (hsz : size ≤ 524288) (h : Run dir size L S) (hr : r.size ≤ 131072) (hS : S.length + 3 ≤ 20000) (hl : lastN S + 1 < 4294967296) :
    Appended dir size q L S r k (L.append (dkF (dmap dir S none) q none k) r) := by
  unfold Lg.append
  rw [if_neg (by omega), mended_run h]
  simp only
  rw [if_neg (by decide)]
  rcases h.op with ⟨h0, h01, h02⟩ | ⟨A, n, f, rfl, ho, hlong, hsyn⟩
  · have hf : L.full r = false := by unfold Lg.full; rw [h0]; simp
    rw [hf]
    simp only [Bool.false_eq_true, if_false]
    rw [if_neg (by decide)]
    rcases new_run hd hd40 h h0 hr hS hl _ rfl with ⟨e, k', e1, e2, e3, e4⟩ | ⟨e, hq, k', e1, e2, e3⟩
    · exact .inl ⟨e, _, k', e1, e2, .inr (.inr ⟨h0, rfl⟩), by omega, e4⟩
    · refine .inr ⟨e, hq, _, k', e1, e2, ?_, by rw [lastN_snoc]; omega, by simp, by omega⟩
      rw [allR_app, allR_one, recsOf_empty, List.append_nil]
  · have hmid := h.rise.mid (B := [])
    have hn1 := hmid.2.2.1
    by_cases hfull : 0 < f.data.size ∧ size < (f.data.size : Int) + (framed r).size
    · have hf : L.full r = true := by
        unfold Lg.full
        rw [ho, hlong, h.size]
        simp only [Bool.and_eq_true, decide_eq_true_eq]
        omega
      rw [hf]
      simp only [if_true]
      obtain ⟨L1, hb, hR1, ho1⟩ := rotate_run (q := q) (k := k) hd hd40 h ho
      rw [hb]
      simp only
      rw [if_neg (by decide)]
      have hl1 : lastN (A ++ [(n, (⟨f.data, f.data.size⟩ : Fl))]) = n := lastN_snoc
      have hl0 : lastN (A ++ [(n, f)]) = n := lastN_snoc
      have hlen : (A ++ [(n, (⟨f.data, f.data.size⟩ : Fl))]).length = (A ++ [(n, f)]).length := by simp
      rcases new_run hd hd40 hR1 ho1 hr (by omega) (by omega) _ rfl with ⟨e, k', e1, e2, e3, e4⟩ | ⟨e, hq, k', e1, e2, e3⟩
      · rw [hl1] at e1 e2
        exact .inl ⟨e, _, k', e1, e2, .inr (.inl ⟨A, n, f, rfl, ho, hfull.1, hfull.2, rfl⟩), by omega, e4⟩
      · rw [hl1] at e1 e2
        refine .inr ⟨e, hq, _, k', e1, e2, ?_, by rw [lastN_snoc, hl0]; omega, by simp, by omega⟩
        rw [allR_app, allR_one, recsOf_empty, List.append_nil, allR_app, allR_app]
        rfl
    · have hf : L.full r = false := by
        unfold Lg.full
        rw [ho, hlong, h.size]
        simp only [Bool.and_eq_false_iff, decide_eq_false_iff_not]
        omega
      rw [hf]
      simp only [Bool.false_eq_true, if_false]
      have hne : ¬ L.op = 0 := by rw [ho]; omega
      rw [if_neg (by decide), if_neg hne]
      simp only
      rw [if_neg (by decide)]
      rcases lay_run (q := q) (k := k) (r := r) hd hd40 h ho hr (by rw [framed_size] at hfull ⊢; omega) with ⟨L2, h2, hR2, ho2⟩ | ⟨hq, h2⟩
      · rw [h2]
        exact .inl ⟨rfl, _, _, rfl, hR2, .inl ⟨A, n, f, rfl, ho, hfull, rfl⟩, by omega, by show L2.op ≠ 0; rw [ho2]; omega⟩
      · rw [h2]
        exact .inr ⟨rfl, hq, _, _, rfl, h, rfl, by omega, by omega, by omega⟩
end Go.Proofs.YtohigcpcbonaeaaGreatDoor
/-
  A log, plain: what a crash leaves of it; what is read then. Of no program.
-/
namespace Go.Proofs.YtohigcpcbonaeaaGreatDoor
open Go.RowKit Go.Lib

theorem crash_map {cuts : List Int} {flip : Int} : ∀ (l : List ByteArray) (i : Nat) (m : Fm), l.Nodup → (m.map (·.1)).Nodup → (∀ a ∈ l, a ∈ m.map (·.1)) →
    ∃ h : ByteArray → Fl → Fl, crashL cuts flip l i m = m.map (fun p => (p.1, h p.1 p.2)) ∧ (∀ a ∈ l, ∃ c, ∀ x, h a x = cutF x c flip) ∧ ∀ a, a ∉ l → ∀ x, h a x = x
  | [], _, m, _, _, _ => ⟨fun _ x => x, by simp [crashL], fun a ha => by simp at ha, fun _ _ _ => rfl⟩
  | a :: l, i, m, hl, hm, hin => by
    obtain ⟨ha, hl'⟩ := List.nodup_cons.1 hl
    obtain ⟨p, hp, hpa⟩ := List.mem_map.1 (hin a List.mem_cons_self)
    obtain ⟨A, B, hAB⟩ := List.append_of_mem hp
    obtain ⟨pa, pf⟩ := p
    simp only at hpa
    subst hpa
    have hn := hm
    rw [hAB, List.map_append, List.map_cons] at hn
    have hn2 := List.pairwise_append.1 (List.nodup_iff_pairwise_ne.1 hn)
    have hA : ∀ x ∈ A, x.1 ≠ pa := fun x hx => hn2.2.2 x.1 (List.mem_map_of_mem hx) pa (by simp)
    have hB : ∀ x ∈ B, x.1 ≠ pa := fun x hx => ((List.pairwise_cons.1 hn2.2.1).1 x.1 (List.mem_map_of_mem hx)).symm
    have hget : getL m pa = some pf := by rw [hAB, getL_app_right hA, getL_one]
    have hset : setL m pa (cutF pf (cutAt cuts i) flip) = A ++ (pa, cutF pf (cutAt cuts i) flip) :: B := by rw [hAB, setL_mid hA hB]
    have hk : (setL m pa (cutF pf (cutAt cuts i) flip)).map (·.1) = m.map (·.1) := by rw [hset, hAB]; simp
    obtain ⟨g, hg, hg1, hg2⟩ := crash_map (cuts := cuts) (flip := flip) l (i + 1) (setL m pa (cutF pf (cutAt cuts i) flip)) hl' (by rw [hk]; exact hm) (fun x hx => by rw [hk]; exact hin x (List.mem_cons_of_mem _ hx))
    refine ⟨fun s x => if s = pa then cutF x (cutAt cuts i) flip else g s x, ?_, fun b hb => ?_, fun b hb x => ?_⟩
    · unfold crashL
      rw [hget]
      simp only
      rw [hg, hset, hAB, List.map_append, List.map_append, List.map_cons, List.map_cons]
      have e1 : ∀ X : Fm, (∀ x ∈ X, x.1 ≠ pa) → X.map (fun p : ByteArray × Fl => (p.1, g p.1 p.2)) = X.map (fun p : ByteArray × Fl => (p.1, if p.1 = pa then cutF p.2 (cutAt cuts i) flip else g p.1 p.2)) := by
        intro X hX
        refine List.map_congr_left (fun x hx => ?_)
        rw [if_neg (hX x hx)]
      rw [e1 A hA, e1 B hB]
      congr 2
      rw [if_pos rfl, hg2 pa ha]
    · by_cases hbp : b = pa
      · exact ⟨cutAt cuts i, fun x => by show (if b = pa then _ else _) = _; rw [if_pos hbp]⟩
      · obtain ⟨c, hc⟩ := hg1 b ((List.mem_cons.1 hb).resolve_left hbp)
        exact ⟨c, fun x => by show (if b = pa then _ else _) = _; rw [if_neg hbp]; exact hc x⟩
    · have h1 : b ≠ pa := fun e => hb (e ▸ List.mem_cons_self)
      show (if b = pa then _ else _) = _
      rw [if_neg h1]
      exact hg2 b (fun h => hb (List.mem_cons_of_mem _ h)) x

variable {dir : ByteArray} {size q : Int} {L : Lg} {S S' A : List (Nat × Fl)} {M : Option Fl} {n k : Nat} {f : Fl} {r : ByteArray}
theorem segN_keys (h : Rise S) : (S.map (fun p => segN dir p.1)).Nodup := by
  rw [List.nodup_iff_pairwise_ne]
  have h1 := h.lt
  rw [List.pairwise_map] at h1 ⊢
  refine List.Pairwise.imp_of_mem ?_ h1
  intro a b ha hb hab e
  have := segN_inj (h.rng a ha).2 (h.rng b hb).2 e
  omega
theorem dmap_keys : (dmap dir S M).map (·.1) = S.map (fun p => segN dir p.1) ++ (if M.isSome then [mendN dir] else []) := by
  unfold dmap
  rw [List.map_append, List.map_map]
  cases M <;> rfl
theorem dmap_nodup (h : Rise S) : ((dmap dir S M).map (·.1)).Nodup := by
  rw [dmap_keys, List.nodup_append]
  refine ⟨segN_keys h, by cases M <;> simp, ?_⟩
  intro a ha b hb e
  obtain ⟨p, _, rfl⟩ := List.mem_map.1 ha
  cases M with
  | none => simp at hb
  | some f => simp at hb; exact segN_mend dir p.1 (e.trans hb)
/-- What a crash makes of the files. -/
theorem crash_dmap (h : Rise S) (cuts : List Int) (flip : Int) :
    ∃ g : Nat → Int, ∃ c, crashL cuts flip (sortB ((dmap dir S M).map (·.1))) 0 (dmap dir S M) = dmap dir (S.map (fun p => (p.1, cutF p.2 (g p.1) flip))) (M.map (fun f => cutF f c flip)) := by
  have hp := sortB_perm ((dmap dir S M).map (·.1))
  obtain ⟨h2, hg, h3, _⟩ := crash_map (cuts := cuts) (flip := flip) (sortB ((dmap dir S M).map (·.1))) 0 (dmap dir S M) ((hp.nodup_iff).2 (dmap_nodup h)) (dmap_nodup h) (fun a ha => (hp.mem_iff).1 ha)
  have hc : ∀ a, ∃ c, a ∈ (dmap dir S M).map (·.1) → ∀ x, h2 a x = cutF x c flip := fun a => by
    by_cases ha : a ∈ (dmap dir S M).map (·.1)
    · obtain ⟨c, hc⟩ := h3 a ((hp.mem_iff).2 ha)
      exact ⟨c, fun _ => hc⟩
    · exact ⟨0, fun h => absurd h ha⟩
  refine ⟨fun n => Classical.choose (hc (segN dir n)), Classical.choose (hc (mendN dir)), ?_⟩
  rw [hg]
  have hk := dmap_keys (dir := dir) (S := S) (M := M)
  unfold dmap at hk ⊢
  rw [List.map_append, List.map_map, List.map_map]
  congr 1
  · refine List.map_congr_left (fun p hp2 => ?_)
    have := Classical.choose_spec (hc (segN dir p.1)) (by rw [dmap_keys]; exact List.mem_append_left _ (List.mem_map_of_mem hp2)) p.2
    simp only [Function.comp]
    rw [this]
    rfl
  · cases M with
    | none => rfl
    | some f =>
      have := Classical.choose_spec (hc (mendN dir)) (by rw [dmap_keys]; simp) f
      simp only [List.map_cons, List.map_nil, Option.map_some]
      rw [this]
      rfl
theorem cutF_synd (h : Synd f) (c flip : Int) : cutF f c flip = f := by
  obtain ⟨s, n⟩ := f
  have : n = s.size := h
  subst this
  have hk : keep ⟨s, s.size⟩ c = 0 := by unfold keep; simp
  unfold cutF kept
  rw [hk]
  simp only [Nat.add_zero, Nat.lt_irrefl, false_and, if_false]
  have : s.data.toList.take s.size = s.data.toList := List.take_of_length_le (by simp)
  rw [this]
  cases s
  simp [ByteArray.size]

theorem xor_ne {c : UInt8} {flip : Int} (h : 1 ≤ flip ∧ flip ≤ 255) : c ^^^ UInt8.ofNat flip.toNat ≠ c := by
  intro e
  have h1 : (c ^^^ UInt8.ofNat flip.toNat).toNat = c.toNat := congrArg UInt8.toNat e
  rw [UInt8.toNat_xor] at h1
  have h2 : (UInt8.ofNat flip.toNat).toNat = flip.toNat := by rw [UInt8.toNat_ofNat']; omega
  rw [h2] at h1
  have h3 : c.toNat ^^^ flip.toNat = c.toNat ^^^ 0 := by rw [h1, Nat.xor_zero]
  have h4 := congrArg (c.toNat ^^^ ·) h3
  simp only [← Nat.xor_assoc, Nat.xor_self, Nat.zero_xor] at h4
  omega
theorem spoil_app (a t : List UInt8) (flip : Int) (ht : 0 < t.length) : spoil (a ++ t) flip = a ++ spoil t flip := by
  unfold spoil
  rw [List.length_append, List.set_append_right _ _ (by omega)]
  congr 1
  rw [show a.length + t.length - 1 - a.length = t.length - 1 by omega]
  congr 2
  rw [List.getD_eq_getElem?_getD, List.getD_eq_getElem?_getD, List.getElem?_append_right (by omega)]
  congr 2
  omega
/-- Of frames of which the end lacks the first ones are read. -/
theorem scan_cut (bs : List (List UInt8)) (hb : ∀ b ∈ bs, b.length ≤ 131072) : ∀ p, p ≤ (frames bs).length → ∃ j, j ≤ bs.length ∧ scan ((frames bs).take p) = (bs.take j, (frames (bs.take j)).length) := by
  induction bs with
  | nil => intro p _; exact ⟨0, Nat.le_refl _, by simp [frames, scan, scanK]⟩
  | cons b bs ih =>
    intro p hp
    have hbl := hb b List.mem_cons_self
    rw [frames_cons, List.length_append, frame_len] at hp
    rcases Nat.lt_or_ge p (8 + b.length) with h | h
    · refine ⟨0, Nat.zero_le _, ?_⟩
      rw [scan_none]
      · rfl
      · refine recOf_short b _ (by rw [List.length_take, frames_cons, List.length_append, frame_len]; omega) (fun j hj => ?_) hbl
        rw [List.length_take] at hj
        rw [frames_cons, List.getElem?_take_of_lt (by omega), List.getElem?_append_left (by rw [frame_len]; omega)]
    · obtain ⟨j, hj, hs⟩ := ih (fun x hx => hb x (List.mem_cons_of_mem _ hx)) (p - (8 + b.length)) (by omega)
      refine ⟨j + 1, by simp; omega, ?_⟩
      have e : (frames (b :: bs)).take p = frameL b ++ (frames bs).take (p - (8 + b.length)) := by
        rw [frames_cons, List.take_append, frame_len, List.take_of_length_le (by rw [frame_len]; omega)]
      rw [e, scan_some (recOf_frame b _ hbl)]
      have hd : (frameL b ++ (frames bs).take (p - (8 + b.length))).drop (8 + b.length) = (frames bs).take (p - (8 + b.length)) := by
        rw [← frame_len b]; exact List.drop_left
      rw [hd, hs, List.take_succ_cons, frames_cons, List.length_append, frame_len]
theorem scan_spoilt (bs : List (List UInt8)) (hb : ∀ b ∈ bs, b.length ≤ 131072) {flip : Int} (hf : 1 ≤ flip ∧ flip ≤ 255) : ∀ p, 0 < p → p ≤ (frames bs).length → ∃ j, j ≤ bs.length ∧ scan (spoil ((frames bs).take p) flip) = (bs.take j, (frames (bs.take j)).length) := by
  induction bs with
  | nil => intro p h0 h1; simp [frames] at h1; omega
  | cons b bs ih =>
    intro p h0 hp
    have hbl := hb b List.mem_cons_self
    rw [frames_cons, List.length_append, frame_len] at hp
    rcases Nat.lt_or_ge p (8 + b.length) with h | h
    · refine ⟨0, Nat.zero_le _, ?_⟩
      rw [scan_none]
      · rfl
      · have hl : ((frames (b :: bs)).take p).length = p := by rw [List.length_take, frames_cons, List.length_append, frame_len]; omega
        refine recOf_short b _ (by rw [spoil_len, hl]; omega) (fun j hj => ?_) hbl
        rw [spoil_len, hl] at hj
        unfold spoil
        rw [List.getElem?_set_ne (by rw [hl]; omega), frames_cons, List.getElem?_take_of_lt (by omega), List.getElem?_append_left (by rw [frame_len]; omega)]
    · have e : (frames (b :: bs)).take p = frameL b ++ (frames bs).take (p - (8 + b.length)) := by
        rw [frames_cons, List.take_append, frame_len, List.take_of_length_le (by rw [frame_len]; omega)]
      rcases Nat.eq_or_lt_of_le h with h1 | h1
      · refine ⟨0, Nat.zero_le _, ?_⟩
        rw [e, show p - (8 + b.length) = 0 by omega, List.take_zero, List.append_nil, scan_none]
        · rfl
        · unfold spoil
          refine recOf_spoilt b _ ?_ hbl
          have hl := frame_len b
          rw [List.getD_eq_getElem?_getD]
          rw [List.getElem?_eq_getElem (by omega)]
          simp only [Option.getD_some, ne_eq, Option.some.injEq]
          exact fun e => xor_ne hf e.symm
      · obtain ⟨j, hj, hs⟩ := ih (fun x hx => hb x (List.mem_cons_of_mem _ hx)) (p - (8 + b.length)) (by omega) (by omega)
        refine ⟨j + 1, by simp; omega, ?_⟩
        rw [e, spoil_app _ _ _ (by rw [List.length_take]; omega), scan_some (recOf_frame b _ hbl)]
        have hd : (frameL b ++ spoil ((frames bs).take (p - (8 + b.length))) flip).drop (8 + b.length) = spoil ((frames bs).take (p - (8 + b.length))) flip := by
          rw [← frame_len b]; exact List.drop_left
        rw [hd, hs, List.take_succ_cons, frames_cons, List.length_append, frame_len]
/-- A file of which the first records are synced. -/
def Bd (f : Fl) (a : Nat) : Prop := ∃ au bs : List (List UInt8), f.data.data.toList = frames (au ++ bs) ∧ (∀ r ∈ au ++ bs, r.length ≤ 131072) ∧ f.syn = (frames au).length ∧ au.length = a
theorem Bd.good (h : Bd f n) : Good f.data := by obtain ⟨au, bs, h1, h2, _⟩ := h; exact ⟨_, h1, h2⟩
theorem kept_scan {a : Nat} (h : Bd f a) (c flip : Int) : ∃ j, a ≤ j ∧ j ≤ (recsOf f.data).length ∧ recsOf (cutF f c flip).data = (recsOf f.data).take j := by
  obtain ⟨au, bs, h1, h2, h3, h4⟩ := h
  have hb : ∀ b ∈ bs, b.length ≤ 131072 := fun b hb => h2 b (List.mem_append_right _ hb)
  have ha : ∀ b ∈ au, b.length ≤ 131072 := fun b hb => h2 b (List.mem_append_left _ hb)
  have hr := (Good.scan h1 h2).1
  have hsz : f.data.size = (frames au).length + (frames bs).length := by rw [ba_size, h1, frames_app, List.length_append]
  obtain ⟨kp, hkp⟩ : ∃ kp, keep f c = kp := ⟨_, rfl⟩
  have hkl : kp ≤ (frames bs).length := by rw [← hkp]; unfold keep; omega
  have ht : f.data.data.toList.take (f.syn + kp) = frames au ++ (frames bs).take kp := by
    rw [h1, frames_app, h3, List.take_append, List.take_of_length_le (by omega)]
    congr 2
    omega
  have key : ∃ j, j ≤ bs.length ∧ scan (kept f c flip) = (au ++ bs.take j, (frames (au ++ bs.take j)).length) := by
    unfold kept
    rw [hkp]
    simp only [ht]
    split
    · rename_i hh
      obtain ⟨j, hj, hs⟩ := scan_spoilt bs hb ⟨hh.2.1, hh.2.2⟩ kp hh.1 hkl
      refine ⟨j, hj, ?_⟩
      rw [spoil_app _ _ _ (by rw [List.length_take]; omega), scan_frames au _ ha, hs, frames_app, List.length_append]
    · obtain ⟨j, hj, hs⟩ := scan_cut bs hb kp hkl
      refine ⟨j, hj, ?_⟩
      rw [scan_frames au _ ha, hs, frames_app, List.length_append]
  obtain ⟨j, hj, hs⟩ := key
  refine ⟨a + j, by omega, by rw [hr, List.length_map, List.length_append]; omega, ?_⟩
  have hd : (cutF f c flip).data.data.toList = kept f c flip := by simp [cutF]
  rw [hr]
  unfold recsOf
  have e : (au ++ bs).take (a + j) = au ++ bs.take j := by
    rw [← h4, List.take_append, List.take_of_length_le (Nat.le_add_right _ _), Nat.add_sub_cancel_left]
  rw [hd, hs, ← List.map_take, e]
theorem cutF_synd' (f : Fl) (c flip : Int) : Synd (cutF f c flip) := by
  unfold Synd cutF
  simp [ByteArray.size]
end Go.Proofs.YtohigcpcbonaeaaGreatDoor
/-
  A log, plain: what is read when it is opened. Of no program.
-/
namespace Go.Proofs.YtohigcpcbonaeaaGreatDoor
open Go.RowKit Go.Lib

variable {dir : ByteArray} {size q : Int} {L : Lg} {S S' A B : List (Nat × Fl)} {M : Option Fl} {n k : Nat} {f : Fl} {r : ByteArray} {z : Option Fz}
def dataOf (S : List (Nat × Fl)) : List (Nat × ByteArray) := S.map (fun p => (p.1, p.2.data))
theorem dataOf_app (A B : List (Nat × Fl)) : dataOf (A ++ B) = dataOf A ++ dataOf B := List.map_append
theorem loadK_pre (h : ∀ p ∈ A, Good p.2.data) : ∀ (X : List (Nat × ByteArray)) acc, loadK (dataOf A ++ X) acc = loadK X (acc ++ mOf A) := by
  induction A with
  | nil => intro X acc; simp [dataOf, mOf]
  | cons p A ih =>
    intro X acc
    have hp := (h p List.mem_cons_self).whole
    show loadK ((p.1, p.2.data) :: (dataOf A ++ X)) acc = _
    rw [loadK, if_pos hp, ih (fun x hx => h x (List.mem_cons_of_mem _ hx)), List.append_assoc]
    rfl
theorem loadK_good (h : ∀ p ∈ S, Good p.2.data) : loadK (dataOf S) [] = (0, mOf S, false, ByteArray.empty) := by
  have := loadK_pre h [] []
  rw [List.append_nil, List.nil_append] at this
  rw [this]
  rfl
theorem loadK_torn (h : ∀ p ∈ A, Good p.2.data) (hf : ¬ Good f.data) : loadK (dataOf (A ++ [(n, f)])) [] = (0, mOf (A ++ [(n, f)]), true, f.data.extract 0 (goodN f.data)) := by
  rw [dataOf_app, loadK_pre h, List.nil_append, mOf_app]
  show loadK [(n, f.data)] (mOf A) = _
  rw [loadK, if_neg (fun e => hf (good_iff.2 e)), if_pos rfl]
  rfl
theorem loadK_bad (h : ∀ p ∈ A, Good p.2.data) (hf : ¬ Good f.data) (hB : B ≠ []) : (loadK (dataOf (A ++ (n, f) :: B)) []).1 = 31 := by
  rw [dataOf_app, loadK_pre h, List.nil_append]
  show (loadK ((n, f.data) :: dataOf B) (mOf A)).1 = _
  rw [loadK, if_neg (fun e => hf (good_iff.2 e)), if_neg (by
    intro e
    exact hB (List.map_eq_nil_iff.1 e))]

/-- The good part of a file. -/
def goodB (b : ByteArray) : ByteArray := b.extract 0 (goodN b)
theorem goodB_spec (b : ByteArray) : Good (goodB b) ∧ recsOf (goodB b) = recsOf b ∧ (goodB b).size ≤ b.size := by
  obtain ⟨t, h1, h2, h3, h4⟩ := scan_spec b.data.toList
  have h5 : (goodB b).data.toList = frames (scan b.data.toList).1 := by
    unfold goodB goodN
    rw [ByteArray.data_extract, Array.toList_extract, List.extract_eq_take_drop, Nat.sub_zero, List.drop_zero]
    rw [← h2]
    have e := congrArg (List.take (frames (scan b.data.toList).1).length) h1
    rw [List.take_left] at e
    exact e
  refine ⟨⟨_, h5, h4⟩, ?_, ?_⟩
  · rw [(Good.scan h5 h4).1]; rfl
  · unfold goodB; rw [ByteArray.size_extract]; omega

/-- A log of which the last segment is to be mended. -/
structure TornL (dir : ByteArray) (size : Int) (L : Lg) (A : List (Nat × Fl)) (n : Nat) (f : Fl) : Prop where
  dir : L.dir = dir
  size : L.size = size
  torn : L.torn = true
  left : L.left = goodB f.data
  m : L.m = mOf (A ++ [(n, f)])
  op : L.op = 0 ∧ L.long = 0
  rise : Rise (A ++ [(n, f)])
  good : ∀ p ∈ A, Good p.2.data ∧ Synd p.2
  syn : Synd f
theorem TornL.run (h : TornL dir size L A n f) : Run dir size { L with torn := false, left := ByteArray.empty } (A ++ [(n, ⟨L.left, L.left.size⟩)]) := by
  have hg := goodB_spec f.data
  refine ⟨h.dir, h.size, rfl, rfl, ?_, h.rise.swap _, fun p hp => ?_, fun p hp => ?_, .inl ⟨h.op.1, h.op.2, fun p hp => ?_⟩⟩
  · show L.m = _
    rw [h.m, mOf_app, mOf_app]
    congr 1
    unfold mOf
    rw [List.map_singleton, List.map_singleton, h.left, hg.2.1]
  · rcases List.mem_append.1 hp with hp | hp
    · exact (h.good p hp).1
    · simp at hp; subst hp; show Good L.left; rw [h.left]; exact hg.1
  · rcases List.mem_append.1 hp with hp | hp
    · exact Nat.le_of_eq (h.good p hp).2
    · simp at hp; subst hp; exact Nat.le_refl _
  · rcases List.mem_append.1 hp with hp | hp
    · exact (h.good p hp).2
    · simp at hp; subst hp; rfl
theorem TornL.last (h : TornL dir size L A n f) : L.last = (n : Int) := last_of (by rw [h.m, mOf_keys])
theorem TornL.recs (h : TornL dir size L A n f) : allR (A ++ [(n, (⟨L.left, L.left.size⟩ : Fl))]) = allR (A ++ [(n, f)]) := by
  rw [allR_app, allR_app, allR_one, allR_one, h.left, (goodB_spec f.data).2.1]

/-- A disk's files between two lives. -/
structure Rest (S : List (Nat × Fl)) : Prop where
  rise : Rise S
  syn : ∀ p ∈ S, Synd p.2
  good : ∀ A n f B, S = A ++ (n, f) :: B → B ≠ [] → Good f.data
  few : ∀ p ∈ S, p.2.data.size ≤ 1048576
theorem Rest.cases (h : Rest S) : (∀ p ∈ S, Good p.2.data) ∨ ∃ (A : List (Nat × Fl)) (n : Nat) (f : Fl), S = A ++ [(n, f)] ∧ (∀ p ∈ A, Good p.2.data) ∧ ¬ Good f.data := by
  rcases List.eq_nil_or_concat S with rfl | ⟨A, x, rfl⟩
  · exact .inl (fun p hp => by simp at hp)
  · obtain ⟨n, f⟩ := x
    rw [List.concat_eq_append] at h ⊢
    have hA : ∀ p ∈ A, Good p.2.data := fun p hp => by
      obtain ⟨X, Y, rfl⟩ := List.append_of_mem hp
      exact h.good X p.1 p.2 (Y ++ [(n, f)]) (by simp) (by simp)
    by_cases hf : Good f.data
    · refine .inl (fun p hp => ?_)
      rcases List.mem_append.1 hp with hp | hp
      · exact hA p hp
      · simp at hp; subst hp; exact hf
    · exact .inr ⟨A, n, f, rfl, hA, hf⟩

theorem leq_segN {dir : ByteArray} {a b : Nat} (hb : b < 4294967296) (h : a < b) : leqB (segN dir a) (segN dir b) = true := by
  have := segN_lt (dir := dir) hb h
  unfold leqB
  rw [decide_eq_true_eq]
  omega
/-- The names of segments, in order. -/
theorem list_segs (h : Rise S) : (dkF (dmap dir S M) q z k).list (dir ++ tW) = S.map (fun p => segN dir p.1) := by
  unfold Dk.list
  rw [if_pos (show (dkF (dmap dir S M) q z k).on = true from rfl)]
  have hn : (dkF (dmap dir S M) q z k).names = sortB ((dmap dir S M).map (·.1)) := rfl
  rw [hn]
  refine sorted_unique ?_ ?_ ?_
  · refine ((sortB_perm _).filter _).trans ?_
    rw [dmap_keys, List.filter_append]
    have h1 : (S.map (fun p => segN dir p.1)).filter (fun s => (dir ++ tW).data.toList.isPrefixOf s.data.toList) = S.map (fun p => segN dir p.1) := by
      refine List.filter_eq_self.2 (fun s hs => ?_)
      obtain ⟨p, _, rfl⟩ := List.mem_map.1 hs
      exact segN_pre dir p.1
    have h2 : (if M.isSome then [mendN dir] else []).filter (fun s => (dir ++ tW).data.toList.isPrefixOf s.data.toList) = [] := by
      cases M with
      | none => rfl
      | some f => simp only [Option.isSome_some, if_true]; rw [List.filter_cons_of_neg (by rw [mend_pre]; decide)]; rfl
    rw [h1, h2, List.append_nil]
  · exact List.Pairwise.filter _ (sortB_sorted _)
  · have h1 := h.lt
    rw [List.pairwise_map] at h1 ⊢
    exact List.Pairwise.imp_of_mem (fun ha hb hab => leq_segN (h.rng _ hb).2 hab) h1
end Go.Proofs.YtohigcpcbonaeaaGreatDoor
