/-
  DiskFuse: its walk.
-/
import Derived.Test.YtjhajlfkiafhgaaDoorLRenames
namespace Go.Proofs.YtjhajlfkiafhgaaDoor
open Go.RowKit
variable {F G : Nat → Prop} {w w' : World} {db mb : Nat} {D D' : Dk} {m m' : Fm} {q : Int} {k n : Nat} {s t : ByteArray} {fd : ByteArray} {fs : Nat} {data : ByteArray} {cuts : List Int} {flip : Int}

/-- A disk with power and a fuse. -/
abbrev dkZ (m : Fm) (q : Int) (z : Fz) (k : Nat) : Dk := ⟨m, true, q, some z, k⟩
theorem askZ {z : Fz} (hs : nmB s = true) : (dkZ m q z k).asked [s] = 0 := by simp [Dk.asked, hs]
theorem z_append (h : DkAt F w db mb (dkZ m q ⟨n + 1, cuts, flip⟩ k)) (hs : nmB s = true) (hd : data.size ≤ 140737488351232) (hg : getL m s = some ⟨fd, fs⟩) (hf : fd.size + data.size ≤ 1048576) (hq : q < 0) (hm : setL m s ⟨fd ++ data, fs⟩ = m') (hk : k < 1000000) :
    Calls Tryd.prog 14 #[.pointer (some ⟨db, 0, none⟩), .string s, .string data] w fun e w' => e = .returned (.int .i64 0) ∧ DkAt F w' db mb (dkZ m' q ⟨n, cuts, flip⟩ (k + 1)) ∧ Tn (two db mb) w w' := by
  have he : (dkZ m q ⟨n + 1, cuts, flip⟩ k).app s data = (0, dkZ m' q ⟨n, cuts, flip⟩ (k + 1)) := by
    unfold Dk.app
    rw [askZ hs, if_neg (by decide)]
    show (match getL m s with | none => _ | some f => _) = _
    rw [hg]
    show (if 1048576 < fd.size + data.size then _ else if 0 ≤ q ∧ data.size ≠ 0 ∧ q < (used m : Int) + data.size then _ else _) = _
    rw [if_neg (by omega), if_neg (by omega)]
    show (0, dkZ (setL m s ⟨fd ++ data, fs⟩) q ⟨n, cuts, flip⟩ (k + 1)) = _
    rw [hm]
  refine (append_any h rfl hk s data (sz_nm hs) hd).mono ?_
  rw [he]
  exact fun e w' h => h
theorem z_append_burn (h : DkAt F w db mb (dkZ m q ⟨0, cuts, flip⟩ k)) (hs : nmB s = true) (hd : data.size ≤ 140737488351232) (hg : getL m s = some ⟨fd, fs⟩) (hf : fd.size + data.size ≤ 1048576) (hq : q < 0) (hm : crashL cuts flip (sortB (m.map (·.1))) 0 m = m') (hk : k < 1000000) :
    Calls Tryd.prog 14 #[.pointer (some ⟨db, 0, none⟩), .string s, .string data] w fun e w' => e = .returned (.int .i64 20) ∧ DkAt F w' db mb ⟨m', false, q, none, k⟩ ∧ Tn (two db mb) w w' := by
  have he : (dkZ m q ⟨0, cuts, flip⟩ k).app s data = (20, ⟨m', false, q, none, k⟩) := by
    unfold Dk.app
    rw [askZ hs, if_neg (by decide)]
    show (match getL m s with | none => _ | some f => _) = _
    rw [hg]
    show (if 1048576 < fd.size + data.size then _ else if 0 ≤ q ∧ data.size ≠ 0 ∧ q < (used m : Int) + data.size then _ else _) = _
    rw [if_neg (by omega), if_neg (by omega)]
    show ((20 : Int), (⟨crashL cuts flip (sortB (m.map (·.1))) 0 m, false, q, none, k⟩ : Dk)) = _
    rw [hm]
  refine (append_any h rfl hk s data (sz_nm hs) hd).mono ?_
  rw [he]
  exact fun e w' h => h
theorem z_append_none {z : Fz} (h : DkAt F w db mb (dkZ m q z k)) (hs : nmB s = true) (hd : data.size ≤ 140737488351232) (hg : getL m s = none) (hk : k < 1000000) :
    Calls Tryd.prog 14 #[.pointer (some ⟨db, 0, none⟩), .string s, .string data] w fun e w' => e = .returned (.int .i64 22) ∧ DkAt F w' db mb (dkZ m q z k) ∧ Tn (two db mb) w w' := by
  have he : (dkZ m q z k).app s data = (22, dkZ m q z k) := by
    unfold Dk.app
    rw [askZ hs, if_neg (by decide)]
    show (match getL m s with | none => _ | some f => _) = _
    rw [hg]
  refine (append_any h rfl hk s data (sz_nm hs) hd).mono ?_
  rw [he]
  exact fun e w' h => h

/-- So many signs 'x'. -/
def xs (i : Nat) : ByteArray := ⟨Array.replicate i 120⟩
theorem xs_size (i : Nat) : (xs i).size = i := by show (Array.replicate i (120 : UInt8)).size = i; simp
theorem xs_succ (i : Nat) : xs i ++ tX = xs (i + 1) := by
  apply ByteArray.ext
  rw [ByteArray.data_append]
  show Array.replicate i (120 : UInt8) ++ #[120] = Array.replicate (i + 1) 120
  rw [Array.replicate_succ]
  rfl
abbrev tY : ByteArray := ⟨#[121]⟩
abbrev tZ : ByteArray := ⟨#[122]⟩
abbrev nX : ByteArray := tX

set_option maxRecDepth 100000 in
set_option maxHeartbeats 4000000 in
theorem fuse_walk (n cut : Int) (_ : (Lit.int IntKind.i64 n).wf = true) (_ : (Lit.int IntKind.i64 cut).wf = true) (w : World) :
    Calls Tryd.prog 8 #[.int .i64 n, .int .i64 cut] w fun e w' => e = .returned (.bool true) ∧ Below w.heap.size w w' := by
  by_cases h1 : n < 0
  · go_enter Tryd.func8, Tryd.ntmps8
    go_wp2_with (go_at_call 10; refine (alive_any _).mono ?_; rintro e v1 ⟨rfl, b2⟩)
    go_ret
    exact ⟨rfl, b2⟩
  by_cases h2 : 60 < n
  · go_enter Tryd.func8, Tryd.ntmps8
    go_wp2_with (go_at_call 10; refine (alive_any _).mono ?_; rintro e v1 ⟨rfl, b2⟩)
    go_ret
    exact ⟨rfl, b2⟩
  obtain ⟨N, rfl⟩ : ∃ N : Nat, n = (N : Int) := ⟨n.toNat, by omega⟩
  have hN : N ≤ 60 := by omega
  have hn9 : (N : Int) ≤ 9223372036854775807 := by omega
  go_enter Tryd.func8, Tryd.ntmps8
  go_wp2_with (first
    | (go_at_call 25; have hs := H2.out.stay ((Below.refl _ _).alloc (Nat.le_refl _) (.cells #[.int .i64 cut] 3)); refine (fuse_any hs.d (N : Int) hn9 (rdC_one H2.out.d.lt) (by simp) 0).mono ?_; rintro e v3 ⟨rfl, h2, t2⟩; have H3 := Lib.hid (hs.go h2 t2); clear h2 t2 hs)
    | (go_at_call 12; refine (c_create H1.out.d (s := nF) rfl (by decide) (by simp only [List.length_cons, List.length_nil]; omega) rfl (m' := [(nF, ⟨ByteArray.empty, 0⟩)]) rfl).mono ?_; rintro e v2 ⟨rfl, h2, t2⟩; have H2 := Lib.hid (H1.out.go h2 t2); clear h2 t2)
    | (go_at_call 11; refine (c_new (w0 := w) (Below.refl _ _)).mono ?_; rintro e v1 ⟨rfl, h1⟩; have H1 := Lib.hid h1; clear h1))

  have hD3 : (dkL [(nF, (⟨ByteArray.empty, 0⟩ : Fl))] (-1) (0 + 1)).setFuse (N : Int) [cut] 0 = dkZ [(nF, ⟨xs 0, 0⟩)] (-1) ⟨N, [cut], 0⟩ 1 := by
    unfold Dk.setFuse
    rw [if_pos (by omega)]
    rfl
  rw [hD3] at H3
  go_loopw [6] (fun x wr => ∃ i : Nat, i ≤ N ∧ x = .int .i64 (i : Int) ∧ DkB (two (w.heap.size + 1) w.heap.size) w.heap.size w wr (w.heap.size + 1) w.heap.size (dkZ [(nF, ⟨xs i, 0⟩)] (-1) ⟨N - i, [cut], 0⟩ (1 + i))) (fun x _ => N - (intOf x).toNat)
  case atStart => exact ⟨0, by omega, rfl, H3.out⟩
  case round =>
    obtain ⟨i, hi, rfl, hd⟩ := hrel
    by_cases hlt : i < N
    · have h4 : DkB (two (w.heap.size + 1) w.heap.size) w.heap.size w wr (w.heap.size + 1) w.heap.size (dkZ [(nF, ⟨xs i, 0⟩)] (-1) ⟨(N - i - 1) + 1, [cut], 0⟩ (1 + i)) := by
        rw [show N - i - 1 + 1 = N - i from by omega]; exact hd
      have hls : (xs i).size + tX.size ≤ 1048576 := by rw [xs_size]; show i + 1 ≤ _; omega
      have hst : setL [(nF, (⟨xs i, 0⟩ : Fl))] nF ⟨xs i ++ tX, 0⟩ = [(nF, ⟨xs (i + 1), 0⟩)] := by rw [set_one, xs_succ]
      have H4 := Lib.hid h4
      clear hd h4
      go_wp2_with (first
        | (go_at_call 14; refine (z_append_none H5.out.d (s := nG) (data := tX) rfl (by decide) rfl (by omega)).mono ?_; rintro e v6 ⟨rfl, h2, t2⟩; have H6 := Lib.hid (H5.out.go h2 t2); clear h2 t2)
        | (go_at_call 14; refine (z_append H4.out.d (s := nF) (data := tX) rfl (by decide) rfl hls (by decide) hst (by omega)).mono ?_; rintro e v5 ⟨rfl, h2, t2⟩; have H5 := Lib.hid (H4.out.go h2 t2); clear h2 t2))
      go_roundw
      case rel =>
        have h7 := H6.out
        rw [show N - i - 1 = N - (i + 1) from by omega, show 1 + i + 1 = 1 + (i + 1) from by omega] at h7
        exact ⟨i + 1, by omega, by go_num, h7⟩
      case measure => simp [intOf]; omega
    · obtain rfl : i = N := by omega
      rw [show i - i = 0 from by omega] at hd
      have hls : (xs i).size + tY.size ≤ 1048576 := by rw [xs_size]; show i + 1 ≤ _; omega
      obtain ⟨v, hv⟩ : ∃ v, (xs i).extract 0 (min (max cut 0) ((xs i).size : Int)).toNat = v := ⟨_, rfl⟩
      have hs : cutF ⟨xs i, 0⟩ cut 0 = ⟨v, v.size⟩ := by
        have h5 := cutF_app ByteArray.empty (xs i) cut
        rw [hv, ByteArray.empty_append, ByteArray.empty_append] at h5
        exact h5
      have hvs : v.size = (min (max cut 0) (i : Int)).toNat := by rw [← hv, ByteArray.size_extract, xs_size]; omega
      have hv1 : (v.size : Int) = min (max cut 0) (i : Int) := by rw [hvs]; omega
      have hvl : v.size + tZ.size ≤ 1048576 := by show v.size + 1 ≤ _; omega
      have hp6 : crashL [cut] 0 (sortB ([(nF, (⟨xs i, 0⟩ : Fl))].map (·.1))) 0 [(nF, ⟨xs i, 0⟩)] = [(nF, ⟨v, v.size⟩)] := by rw [← hs]; rfl
      have hac : (((1 + i + 1 : Nat)) : Int) = (i : Int) + 2 := by omega
      have H4 := Lib.hid hd
      clear hs hvs hv hd
      go_wp2_with (first
        | (go_at_call 27; refine (c_acts H11.out.d hac).mono ?_; rintro e _ ⟨rfl, rfl⟩)
        | (go_at_call 14; refine (c_append H10.out.d (s := nF) (data := tZ) rfl (by omega) (by decide) rfl hvl (.inl (by decide)) rfl).mono ?_; rintro e v11 ⟨rfl, h2, t2⟩; have H11 := Lib.hid (H10.out.go h2 t2); clear h2 t2)
        | (go_at_call 10; refine (alive_any _).mono ?_; rintro e v10 ⟨rfl, b2⟩; have H10 := Lib.hid (H9.out.stay b2); clear b2)
        | (go_at_call 15; refine (c_read H8.out.d rfl (s := nF) rfl rfl).mono ?_; rintro e v9 ⟨rfl, b2⟩; have H9 := Lib.hid (H8.out.stay b2); clear b2)
        | (go_at_call 19; refine (c_restore H7.out.d).mono ?_; rintro e v8 ⟨rfl, h2, t2⟩; have H8 := Lib.hid (H7.out.go h2 t2); clear h2 t2)
        | (go_at_call 20; refine (sync_off (offAt H6.out.d rfl) nF (by decide)).mono ?_; rintro e v7 ⟨rfl, b2⟩; have H7 := Lib.hid (H6.out.stay b2); clear b2)
        | (go_at_call 26; refine (on_any H5.out.d.c1).mono ?_; rintro e v6 ⟨rfl, rfl⟩; have H6 := Lib.hid H5.out)
        | (go_at_call 14; refine (z_append_burn H4.out.d (s := nF) (data := tY) rfl (by decide) rfl hls (by decide) hp6 (by omega)).mono ?_; rintro e v5 ⟨rfl, h2, t2⟩; have H5 := Lib.hid (H4.out.go h2 t2); clear h2 t2))
      go_ret
      exact ⟨rfl, H11.out.b⟩
end Go.Proofs.YtjhajlfkiafhgaaDoor
