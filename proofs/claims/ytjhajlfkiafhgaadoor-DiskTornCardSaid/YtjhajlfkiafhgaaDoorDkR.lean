/-
  Disk: the calls at a disk with power and no fuse, what they make said outright.
-/
import Derived.Test.YtjhajlfkiafhgaaDoorDkQ
namespace Go.Proofs.YtjhajlfkiafhgaaDoor
open Go.RowKit
variable {F G : Nat → Prop} {w w' : World} {db mb : Nat} {D D' : Dk} {m m' : Fm} {q : Int} {k : Nat} {s t : ByteArray} {fd : ByteArray} {fs : Nat} {data : ByteArray}

/-- A disk with power and no fuse. -/
abbrev dkL (m : Fm) (q : Int) (k : Nat) : Dk := ⟨m, true, q, none, k⟩
theorem ask1 (hs : nmB s = true) : (dkL m q k).asked [s] = 0 := by simp [Dk.asked, hs]
theorem ask2 (hs : nmB s = true) (ht : nmB t = true) : (dkL m q k).asked [s, t] = 0 := by simp [Dk.asked, hs, ht]
theorem sz_nm (hs : nmB s = true) : s.size ≤ 140737488351232 := by have := nm_le hs; omega

theorem c_create (h : DkAt F w db mb (dkL m q k)) (hs : nmB s = true) (hk : k < 1000000) (hl : m.length < 20000) (hg : getL m s = none) (hm : setL m s ⟨ByteArray.empty, 0⟩ = m') :
    Calls Tryd.prog 12 #[.pointer (some ⟨db, 0, none⟩), .string s] w fun e w' => e = .returned (.int .i64 0) ∧ DkAt F w' db mb (dkL m' q (k + 1)) ∧ Tn (two db mb) w w' := by
  have he : (dkL m q k).create s = (0, dkL m' q (k + 1)) := by
    unfold Dk.create
    rw [ask1 hs, if_neg (by decide), hg]
    show (if 20000 ≤ m.length then _ else _) = _
    rw [if_neg (by omega)]
    show (0, dkL (setL m s ⟨ByteArray.empty, 0⟩) q (k + 1)) = _
    rw [hm]
  refine (create_any h rfl hk s (sz_nm hs)).mono ?_
  rw [he]
  exact fun e w' h => h
theorem c_append (h : DkAt F w db mb (dkL m q k)) (hs : nmB s = true) (hk : k < 1000000) (hd : data.size ≤ 140737488351232) (hg : getL m s = some ⟨fd, fs⟩) (hf : fd.size + data.size ≤ 1048576) (hq : q < 0 ∨ data.size = 0 ∨ (used m : Int) + data.size ≤ q) (hm : setL m s ⟨fd ++ data, fs⟩ = m') :
    Calls Tryd.prog 14 #[.pointer (some ⟨db, 0, none⟩), .string s, .string data] w fun e w' => e = .returned (.int .i64 0) ∧ DkAt F w' db mb (dkL m' q (k + 1)) ∧ Tn (two db mb) w w' := by
  have he : (dkL m q k).app s data = (0, dkL m' q (k + 1)) := by
    unfold Dk.app
    rw [ask1 hs, if_neg (by decide)]
    show (match getL m s with | none => _ | some f => _) = _
    rw [hg]
    show (if 1048576 < fd.size + data.size then _ else if 0 ≤ q ∧ data.size ≠ 0 ∧ q < (used m : Int) + data.size then _ else _) = _
    rw [if_neg (by omega), if_neg (by omega)]
    show (0, dkL (setL m s ⟨fd ++ data, fs⟩) q (k + 1)) = _
    rw [hm]
  refine (append_any h rfl hk s data (sz_nm hs) hd).mono ?_
  rw [he]
  exact fun e w' h => h
theorem c_append_full (h : DkAt F w db mb (dkL m q k)) (hs : nmB s = true) (hk : k < 1000000) (hd : data.size ≤ 140737488351232) (hg : getL m s = some ⟨fd, fs⟩) (hf : fd.size + data.size ≤ 1048576) (hq : 0 ≤ q ∧ data.size ≠ 0 ∧ q < (used m : Int) + data.size) :
    Calls Tryd.prog 14 #[.pointer (some ⟨db, 0, none⟩), .string s, .string data] w fun e w' => e = .returned (.int .i64 24) ∧ DkAt F w' db mb (dkL m q k) ∧ Tn (two db mb) w w' := by
  have he : (dkL m q k).app s data = (24, dkL m q k) := by
    unfold Dk.app
    rw [ask1 hs, if_neg (by decide)]
    show (match getL m s with | none => _ | some f => _) = _
    rw [hg]
    show (if 1048576 < fd.size + data.size then _ else if 0 ≤ q ∧ data.size ≠ 0 ∧ q < (used m : Int) + data.size then _ else _) = _
    rw [if_neg (by omega), if_pos hq]
  refine (append_any h rfl hk s data (sz_nm hs) hd).mono ?_
  rw [he]
  exact fun e w' h => h
theorem c_append_none (h : DkAt F w db mb (dkL m q k)) (hs : nmB s = true) (hk : k < 1000000) (hd : data.size ≤ 140737488351232) (hg : getL m s = none) :
    Calls Tryd.prog 14 #[.pointer (some ⟨db, 0, none⟩), .string s, .string data] w fun e w' => e = .returned (.int .i64 22) ∧ DkAt F w' db mb (dkL m q k) ∧ Tn (two db mb) w w' := by
  have he : (dkL m q k).app s data = (22, dkL m q k) := by
    unfold Dk.app
    rw [ask1 hs, if_neg (by decide)]
    show (match getL m s with | none => _ | some f => _) = _
    rw [hg]
  refine (append_any h rfl hk s data (sz_nm hs) hd).mono ?_
  rw [he]
  exact fun e w' h => h
theorem c_sync (h : DkAt F w db mb (dkL m q k)) (hs : nmB s = true) (hk : k < 1000000) (hg : getL m s = some ⟨fd, fs⟩) (hm : setL m s ⟨fd, fd.size⟩ = m') :
    Calls Tryd.prog 20 #[.pointer (some ⟨db, 0, none⟩), .string s] w fun e w' => e = .returned (.int .i64 0) ∧ DkAt F w' db mb (dkL m' q (k + 1)) ∧ Tn (two db mb) w w' := by
  have he : (dkL m q k).sync s = (0, dkL m' q (k + 1)) := by
    unfold Dk.sync
    rw [ask1 hs, if_neg (by decide)]
    show (match getL m s with | none => _ | some f => _) = _
    rw [hg]
    show (0, dkL (setL m s ⟨fd, fd.size⟩) q (k + 1)) = _
    rw [hm]
  refine (sync_any h rfl hk s (sz_nm hs)).mono ?_
  rw [he]
  exact fun e w' h => h
theorem c_remove (h : DkAt F w db mb (dkL m q k)) (hs : nmB s = true) (hk : k < 1000000) (hg : (getL m s).isSome = true) (hm : delL m s = m') :
    Calls Tryd.prog 17 #[.pointer (some ⟨db, 0, none⟩), .string s] w fun e w' => e = .returned (.int .i64 0) ∧ DkAt F w' db mb (dkL m' q (k + 1)) ∧ Tn (two db mb) w w' := by
  have he : (dkL m q k).remove s = (0, dkL m' q (k + 1)) := by
    obtain ⟨f, hf⟩ := Option.isSome_iff_exists.1 hg
    unfold Dk.remove
    rw [ask1 hs, if_neg (by decide)]
    show (match getL m s with | none => _ | some f => _) = _
    rw [hf]
    show (0, dkL (delL m s) q (k + 1)) = _
    rw [hm]
  refine (remove_any h rfl hk s (sz_nm hs)).mono ?_
  rw [he]
  exact fun e w' h => h
theorem c_rename (h : DkAt F w db mb (dkL m q k)) (hs : nmB s = true) (ht : nmB t = true) (hk : k < 1000000) {f : Fl} (hg : getL m s = some f) (hm : setL (delL m s) t f = m') :
    Calls Tryd.prog 22 #[.pointer (some ⟨db, 0, none⟩), .string s, .string t] w fun e w' => e = .returned (.int .i64 0) ∧ DkAt F w' db mb (dkL m' q (k + 1)) ∧ Tn (two db mb) w w' := by
  have he : (dkL m q k).rename s t = (0, dkL m' q (k + 1)) := by
    unfold Dk.rename
    rw [ask2 hs ht, if_neg (by decide)]
    show (match getL m s with | none => _ | some f => _) = _
    rw [hg]
    show (0, dkL (setL (delL m s) t f) q (k + 1)) = _
    rw [hm]
  refine (rename_any h rfl hk s t (sz_nm hs) (sz_nm ht)).mono ?_
  rw [he]
  exact fun e w' h => h
theorem c_rename_none (h : DkAt F w db mb (dkL m q k)) (hs : nmB s = true) (ht : nmB t = true) (hk : k < 1000000) (hg : getL m s = none) :
    Calls Tryd.prog 22 #[.pointer (some ⟨db, 0, none⟩), .string s, .string t] w fun e w' => e = .returned (.int .i64 22) ∧ DkAt F w' db mb (dkL m q k) ∧ Tn (two db mb) w w' := by
  have he : (dkL m q k).rename s t = (22, dkL m q k) := by
    unfold Dk.rename
    rw [ask2 hs ht, if_neg (by decide)]
    show (match getL m s with | none => _ | some f => _) = _
    rw [hg]
  refine (rename_any h rfl hk s t (sz_nm hs) (sz_nm ht)).mono ?_
  rw [he]
  exact fun e w' h => h
theorem c_read (h : DkAt F w db mb D) (hon : D.on = true) (hs : nmB s = true) (hg : getL D.m s = some ⟨fd, fs⟩) :
    Calls Tryd.prog 15 #[.pointer (some ⟨db, 0, none⟩), .string s] w fun e w' => e = .returned (.tuple #[.string fd, .int .i64 0]) ∧ Below w.heap.size w w' := by
  have he : D.read s = (fd, 0) := by
    unfold Dk.read
    have : D.asked [s] = 0 := by simp [Dk.asked, hs, hon]
    rw [this, if_neg (by decide), hg]
  refine (read_any h hon s (sz_nm hs)).mono ?_
  rw [he]
  exact fun e w' h => h
theorem c_crash (h : DkAt F w db mb (dkL m q k)) {v : Value} {cuts : List Int} (hr : RdC F w v cuts) (hcl : cuts.length ≤ 1000000) (flip : Int) (hm : crashL cuts flip (sortB (m.map (·.1))) 0 m = m') :
    Calls Tryd.prog 18 #[.pointer (some ⟨db, 0, none⟩), v, .int .i64 flip] w fun e w' => e = .returned (.tuple #[]) ∧ DkAt F w' db mb ⟨m', false, q, none, k⟩ ∧ Tn (two db mb) w w' := by
  refine (crash_any h rfl hr hcl flip).mono ?_
  have he : (dkL m q k).crash cuts flip = ⟨m', false, q, none, k⟩ := by
    show (⟨crashL cuts flip (sortB (m.map (·.1))) 0 m, false, q, none, k⟩ : Dk) = _
    rw [hm]
  rw [he]
  exact fun e w' h => h
theorem c_restore {z : Option Fz} {b : Bool} (h : DkAt F w db mb ⟨m, b, q, z, k⟩) : Calls Tryd.prog 19 #[.pointer (some ⟨db, 0, none⟩)] w fun e w' => e = .returned (.tuple #[]) ∧ DkAt F w' db mb ⟨m, true, q, z, k⟩ ∧ Tn (two db mb) w w' := restore_any h
theorem c_quota (h : DkAt F w db mb (dkL m q k)) (n : Int) (hn : -1 ≤ n ∧ n ≤ 9223372036854775807) : Calls Tryd.prog 13 #[.pointer (some ⟨db, 0, none⟩), .int .i64 n] w fun e w' => e = .returned (.tuple #[]) ∧ DkAt F w' db mb (dkL m n k) ∧ Tn (two db mb) w w' := by
  refine (quota_any h n hn.2).mono ?_
  have he : (dkL m q k).setQuota n = dkL m n k := by
    show dkL m (max n (-1)) k = _
    rw [show max n (-1) = n from by omega]
  rw [he]
  exact fun e w' h => h
theorem offAt (h : DkAt F w db mb D) (hoff : D.on = false) : OnAt w (some ⟨db, 0, none⟩) false := .inr ⟨db, rfl, by have := h.c1; rw [hoff] at this; exact this⟩
/-- What a crash finds synced it leaves. -/
theorem cutF_syn (s : ByteArray) (cut flip : Int) : cutF ⟨s, s.size⟩ cut flip = ⟨s, s.size⟩ := by
  have h0 : keep ⟨s, s.size⟩ cut = 0 := by unfold keep; simp
  have hk : kept ⟨s, s.size⟩ cut flip = s.data.toList := by
    unfold kept
    rw [h0]
    simp
    exact List.take_of_length_le (by simp)
  unfold cutF
  rw [hk]
  simp

/-- The letters. -/
abbrev nA : ByteArray := ⟨#[97]⟩
abbrev nB : ByteArray := ⟨#[98]⟩
abbrev nC : ByteArray := ⟨#[99]⟩
abbrev nF : ByteArray := ⟨#[102]⟩
abbrev nG : ByteArray := ⟨#[103]⟩
example (x y z : Fl) : setL [(nA, x), (nB, y)] nB z = [(nA, x), (nB, z)] := rfl
example (x : Fl) : getL [(nA, x)] nB = none := rfl
example (x y : Fl) : getL [(nA, x), (nB, y)] nB = some y := rfl
example : nmB nA = true := rfl
example (x : Fl) : crashL [1] 2 (sortB ([(nF, x)].map (·.1))) 0 [(nF, x)] = [(nF, cutF x 1 2)] := rfl
example (x y : Fl) (c : List Int) : crashL c 2 (sortB ([(nF, x), (nG, y)].map (·.1))) 0 [(nF, x), (nG, y)] = [(nF, cutF x (cutAt c 0) 2), (nG, cutF y (cutAt c 1) 2)] := rfl
end Go.Proofs.YtjhajlfkiafhgaaDoor
