/-
  DiskQuota: its walk.
-/
import Derived.Test.YtjhajlfkiafhgaaDoorLSynced
namespace Go.Proofs.YtjhajlfkiafhgaaDoor
open Go.RowKit
theorem empty_of {a : ByteArray} (h : a.size = 0) : a = ByteArray.empty := ByteArray.size_eq_zero_iff.1 h
theorem ne_of {a : ByteArray} (h : a.size ≠ 0) : a.toList.isEmpty = false := by rw [isEmpty_iff]; exact decide_eq_false h

set_option maxRecDepth 100000 in
set_option maxHeartbeats 4000000 in
theorem quota_zzz (n : Int) (hn : 0 ≤ n ∧ n ≤ 9000) (hl : 0 + 0 ≤ 6000) (w : World) :
    Calls Tryd.prog 3 #[.int .i64 n, .string ByteArray.empty, .string ByteArray.empty] w fun e w' => e = .returned (.bool true) ∧ Below w.heap.size w w' := by
  have hn1 : ¬ n < 0 := by omega
  have hn2 : ¬ (9000 : Int) < n := by omega
  have hu1 : (used [(nA, (⟨ByteArray.empty, 0⟩ : Fl)), (nB, ⟨ByteArray.empty, 0⟩)] : Int) = 0 := by simp [used]
  have hu2 : (used [(nB, (⟨ByteArray.empty, 0⟩ : Fl))] : Int) = 0 := by simp [used]
  go_enter Tryd.func3, Tryd.ntmps3
  go_wp2_with (first
    | (go_at_call 14; refine (c_append H13.out.d (s := nC) (data := ByteArray.empty) rfl (by decide) (by decide) rfl (by decide) (.inr (.inl rfl)) (m' := [(nB, ⟨ByteArray.empty, 0⟩), (nC, ⟨ByteArray.empty, 0⟩)]) rfl).mono ?_; rintro e v14 ⟨rfl, h2, t2⟩; have H14 := Lib.hid (H13.out.go h2 t2); clear h2 t2)
    | (go_at_call 10; refine (alive_any _).mono ?_; rintro e v13 ⟨rfl, b2⟩; have H13 := Lib.hid (H12.out.stay b2); clear b2)
    | (go_at_call 12; refine (c_create H11.out.d (s := nC) rfl (by decide) (by simp only [List.length_cons, List.length_nil]; omega) rfl (m' := [(nB, ⟨ByteArray.empty, 0⟩), (nC, ⟨ByteArray.empty, 0⟩)]) rfl).mono ?_; rintro e v12 ⟨rfl, h2, t2⟩; have H12 := Lib.hid (H11.out.go h2 t2); clear h2 t2)
    | (go_at_call 16; refine (c_used H10.out.d (n := 0) hu2).mono ?_; rintro e v11 ⟨rfl, b2⟩; have H11 := Lib.hid (H10.out.stay b2); clear b2)
    | (go_at_call 17; refine (c_remove H9.out.d (s := nA) rfl (by decide) rfl (m' := [(nB, ⟨ByteArray.empty, 0⟩)]) rfl).mono ?_; rintro e v10 ⟨rfl, h2, t2⟩; have H10 := Lib.hid (H9.out.go h2 t2); clear h2 t2)
    | (go_at_call 16; refine (c_used H8.out.d (n := 0) hu1).mono ?_; rintro e v9 ⟨rfl, b2⟩; have H9 := Lib.hid (H8.out.stay b2); clear b2)
    | (go_at_call 15; refine (c_read H7.out.d rfl (s := nB) rfl rfl).mono ?_; rintro e v8 ⟨rfl, b2⟩; have H8 := Lib.hid (H7.out.stay b2); clear b2)
    | (go_at_call 15; refine (c_read H6.out.d rfl (s := nA) rfl rfl).mono ?_; rintro e v7 ⟨rfl, b2⟩; have H7 := Lib.hid (H6.out.stay b2); clear b2)
    | (go_at_call 14; refine (c_append H5.out.d (s := nB) (data := ByteArray.empty) rfl (by decide) (by decide) rfl (by decide) (.inr (.inl rfl)) (m' := [(nA, ⟨ByteArray.empty, 0⟩), (nB, ⟨ByteArray.empty, 0⟩)]) rfl).mono ?_; rintro e v6 ⟨rfl, h2, t2⟩; have H6 := Lib.hid (H5.out.go h2 t2); clear h2 t2)
    | (go_at_call 14; refine (c_append H4.out.d (s := nA) (data := ByteArray.empty) rfl (by decide) (by decide) rfl (by decide) (.inr (.inl rfl)) (m' := [(nA, ⟨ByteArray.empty, 0⟩), (nB, ⟨ByteArray.empty, 0⟩)]) rfl).mono ?_; rintro e v5 ⟨rfl, h2, t2⟩; have H5 := Lib.hid (H4.out.go h2 t2); clear h2 t2)
    | (go_at_call 13; refine (c_quota H3.out.d n (by omega)).mono ?_; rintro e v4 ⟨rfl, h2, t2⟩; have H4 := Lib.hid (H3.out.go h2 t2); clear h2 t2)
    | (go_at_call 12; refine (c_create H2.out.d (s := nB) rfl (by decide) (by simp only [List.length_cons, List.length_nil]; omega) rfl (m' := [(nA, ⟨ByteArray.empty, 0⟩), (nB, ⟨ByteArray.empty, 0⟩)]) rfl).mono ?_; rintro e v3 ⟨rfl, h2, t2⟩; have H3 := Lib.hid (H2.out.go h2 t2); clear h2 t2)
    | (go_at_call 12; refine (c_create H1.out.d (s := nA) rfl (by decide) (by simp only [List.length_cons, List.length_nil]; omega) rfl (m' := [(nA, ⟨ByteArray.empty, 0⟩)]) rfl).mono ?_; rintro e v2 ⟨rfl, h2, t2⟩; have H2 := Lib.hid (H1.out.go h2 t2); clear h2 t2)
    | (go_at_call 11; refine (c_new (w0 := w) (Below.refl _ _)).mono ?_; rintro e v1 ⟨rfl, h1⟩; have H1 := Lib.hid h1; clear h1))

  go_ret
  exact ⟨rfl, H14.out.b⟩

set_option maxRecDepth 100000 in
set_option maxHeartbeats 4000000 in
theorem quota_zfz (b : ByteArray) (n : Int) (hn : 0 ≤ n ∧ n ≤ 9000) (hl : 0 + (b.size : Int) ≤ 6000) (zb : b.size ≠ 0) (fb : 0 + (b.size : Int) ≤ n) (w : World) :
    Calls Tryd.prog 3 #[.int .i64 n, .string ByteArray.empty, .string b] w fun e w' => e = .returned (.bool true) ∧ Below w.heap.size w w' := by
  have hn1 : ¬ n < 0 := by omega
  have hn2 : ¬ (9000 : Int) < n := by omega
  have yb : b.size ≤ 140737488351232 := by omega
  have hl2 : ByteArray.empty.size + b.size ≤ 1048576 := by show 0 + b.size ≤ _; omega
  have eb := ne_of zb
  have hqb : (used [(nA, (⟨ByteArray.empty, 0⟩ : Fl)), (nB, ⟨ByteArray.empty, 0⟩)] : Int) + b.size ≤ n := by
    have hu : (used [(nA, (⟨ByteArray.empty, 0⟩ : Fl)), (nB, ⟨ByteArray.empty, 0⟩)] : Int) = 0 := by simp [used]
    rw [hu]; omega
  have hp2 : setL [(nA, (⟨ByteArray.empty, 0⟩ : Fl)), (nB, ⟨ByteArray.empty, 0⟩)] nB ⟨ByteArray.empty ++ b, 0⟩ = [(nA, ⟨ByteArray.empty, 0⟩), (nB, ⟨b, 0⟩)] := by rw [ByteArray.empty_append]; rfl
  have hu1 : (used [(nA, (⟨ByteArray.empty, 0⟩ : Fl)), (nB, ⟨b, 0⟩)] : Int) = (b.size : Int) := by simp [used]
  have hu2 : (used [(nB, (⟨b, 0⟩ : Fl))] : Int) = (b.size : Int) := by simp [used]
  go_enter Tryd.func3, Tryd.ntmps3
  go_wp2_with (first
    | (go_at_call 14; refine (c_append H13.out.d (s := nC) (data := ByteArray.empty) rfl (by decide) (by decide) rfl (by decide) (.inr (.inl rfl)) (m' := [(nB, ⟨b, 0⟩), (nC, ⟨ByteArray.empty, 0⟩)]) rfl).mono ?_; rintro e v14 ⟨rfl, h2, t2⟩; have H14 := Lib.hid (H13.out.go h2 t2); clear h2 t2)
    | (go_at_call 10; refine (alive_any _).mono ?_; rintro e v13 ⟨rfl, b2⟩; have H13 := Lib.hid (H12.out.stay b2); clear b2)
    | (go_at_call 12; refine (c_create H11.out.d (s := nC) rfl (by decide) (by simp only [List.length_cons, List.length_nil]; omega) rfl (m' := [(nB, ⟨b, 0⟩), (nC, ⟨ByteArray.empty, 0⟩)]) rfl).mono ?_; rintro e v12 ⟨rfl, h2, t2⟩; have H12 := Lib.hid (H11.out.go h2 t2); clear h2 t2)
    | (go_at_call 16; refine (c_used H10.out.d (n := (b.size : Int)) hu2).mono ?_; rintro e v11 ⟨rfl, b2⟩; have H11 := Lib.hid (H10.out.stay b2); clear b2)
    | (go_at_call 17; refine (c_remove H9.out.d (s := nA) rfl (by decide) rfl (m' := [(nB, ⟨b, 0⟩)]) rfl).mono ?_; rintro e v10 ⟨rfl, h2, t2⟩; have H10 := Lib.hid (H9.out.go h2 t2); clear h2 t2)
    | (go_at_call 16; refine (c_used H8.out.d (n := (b.size : Int)) hu1).mono ?_; rintro e v9 ⟨rfl, b2⟩; have H9 := Lib.hid (H8.out.stay b2); clear b2)
    | (go_at_call 15; refine (c_read H7.out.d rfl (s := nB) rfl rfl).mono ?_; rintro e v8 ⟨rfl, b2⟩; have H8 := Lib.hid (H7.out.stay b2); clear b2)
    | (go_at_call 15; refine (c_read H6.out.d rfl (s := nA) rfl rfl).mono ?_; rintro e v7 ⟨rfl, b2⟩; have H7 := Lib.hid (H6.out.stay b2); clear b2)
    | (go_at_call 14; refine (c_append H5.out.d (s := nB) (data := b) rfl (by decide) yb rfl hl2 (.inr (.inr hqb)) hp2).mono ?_; rintro e v6 ⟨rfl, h2, t2⟩; have H6 := Lib.hid (H5.out.go h2 t2); clear h2 t2)
    | (go_at_call 14; refine (c_append H4.out.d (s := nA) (data := ByteArray.empty) rfl (by decide) (by decide) rfl (by decide) (.inr (.inl rfl)) (m' := [(nA, ⟨ByteArray.empty, 0⟩), (nB, ⟨ByteArray.empty, 0⟩)]) rfl).mono ?_; rintro e v5 ⟨rfl, h2, t2⟩; have H5 := Lib.hid (H4.out.go h2 t2); clear h2 t2)
    | (go_at_call 13; refine (c_quota H3.out.d n (by omega)).mono ?_; rintro e v4 ⟨rfl, h2, t2⟩; have H4 := Lib.hid (H3.out.go h2 t2); clear h2 t2)
    | (go_at_call 12; refine (c_create H2.out.d (s := nB) rfl (by decide) (by simp only [List.length_cons, List.length_nil]; omega) rfl (m' := [(nA, ⟨ByteArray.empty, 0⟩), (nB, ⟨ByteArray.empty, 0⟩)]) rfl).mono ?_; rintro e v3 ⟨rfl, h2, t2⟩; have H3 := Lib.hid (H2.out.go h2 t2); clear h2 t2)
    | (go_at_call 12; refine (c_create H1.out.d (s := nA) rfl (by decide) (by simp only [List.length_cons, List.length_nil]; omega) rfl (m' := [(nA, ⟨ByteArray.empty, 0⟩)]) rfl).mono ?_; rintro e v2 ⟨rfl, h2, t2⟩; have H2 := Lib.hid (H1.out.go h2 t2); clear h2 t2)
    | (go_at_call 11; refine (c_new (w0 := w) (Below.refl _ _)).mono ?_; rintro e v1 ⟨rfl, h1⟩; have H1 := Lib.hid h1; clear h1))

  go_ret
  exact ⟨rfl, H14.out.b⟩

set_option maxRecDepth 100000 in
set_option maxHeartbeats 4000000 in
theorem quota_znz (b : ByteArray) (n : Int) (hn : 0 ≤ n ∧ n ≤ 9000) (hl : 0 + (b.size : Int) ≤ 6000) (zb : b.size ≠ 0) (fb : n < 0 + (b.size : Int)) (w : World) :
    Calls Tryd.prog 3 #[.int .i64 n, .string ByteArray.empty, .string b] w fun e w' => e = .returned (.bool true) ∧ Below w.heap.size w w' := by
  have hn1 : ¬ n < 0 := by omega
  have hn2 : ¬ (9000 : Int) < n := by omega
  have yb : b.size ≤ 140737488351232 := by omega
  have hl2 : ByteArray.empty.size + b.size ≤ 1048576 := by show 0 + b.size ≤ _; omega
  have eb := ne_of zb
  have hqb : 0 ≤ n ∧ b.size ≠ 0 ∧ n < (used [(nA, (⟨ByteArray.empty, 0⟩ : Fl)), (nB, ⟨ByteArray.empty, 0⟩)] : Int) + b.size := by
    have hu : (used [(nA, (⟨ByteArray.empty, 0⟩ : Fl)), (nB, ⟨ByteArray.empty, 0⟩)] : Int) = 0 := by simp [used]
    rw [hu]; omega
  have hp2 : setL [(nA, (⟨ByteArray.empty, 0⟩ : Fl)), (nB, ⟨ByteArray.empty, 0⟩)] nB ⟨ByteArray.empty ++ b, 0⟩ = [(nA, ⟨ByteArray.empty, 0⟩), (nB, ⟨b, 0⟩)] := by rw [ByteArray.empty_append]; rfl
  have hu1 : (used [(nA, (⟨ByteArray.empty, 0⟩ : Fl)), (nB, ⟨ByteArray.empty, 0⟩)] : Int) = 0 := by simp [used]
  have hu2 : (used [(nB, (⟨ByteArray.empty, 0⟩ : Fl))] : Int) = 0 := by simp [used]
  go_enter Tryd.func3, Tryd.ntmps3
  go_wp2_with (first
    | (go_at_call 14; refine (c_append H13.out.d (s := nC) (data := ByteArray.empty) rfl (by decide) (by decide) rfl (by decide) (.inr (.inl rfl)) (m' := [(nB, ⟨ByteArray.empty, 0⟩), (nC, ⟨ByteArray.empty, 0⟩)]) rfl).mono ?_; rintro e v14 ⟨rfl, h2, t2⟩; have H14 := Lib.hid (H13.out.go h2 t2); clear h2 t2)
    | (go_at_call 10; refine (alive_any _).mono ?_; rintro e v13 ⟨rfl, b2⟩; have H13 := Lib.hid (H12.out.stay b2); clear b2)
    | (go_at_call 12; refine (c_create H11.out.d (s := nC) rfl (by decide) (by simp only [List.length_cons, List.length_nil]; omega) rfl (m' := [(nB, ⟨ByteArray.empty, 0⟩), (nC, ⟨ByteArray.empty, 0⟩)]) rfl).mono ?_; rintro e v12 ⟨rfl, h2, t2⟩; have H12 := Lib.hid (H11.out.go h2 t2); clear h2 t2)
    | (go_at_call 16; refine (c_used H10.out.d (n := 0) hu2).mono ?_; rintro e v11 ⟨rfl, b2⟩; have H11 := Lib.hid (H10.out.stay b2); clear b2)
    | (go_at_call 17; refine (c_remove H9.out.d (s := nA) rfl (by decide) rfl (m' := [(nB, ⟨ByteArray.empty, 0⟩)]) rfl).mono ?_; rintro e v10 ⟨rfl, h2, t2⟩; have H10 := Lib.hid (H9.out.go h2 t2); clear h2 t2)
    | (go_at_call 16; refine (c_used H8.out.d (n := 0) hu1).mono ?_; rintro e v9 ⟨rfl, b2⟩; have H9 := Lib.hid (H8.out.stay b2); clear b2)
    | (go_at_call 15; refine (c_read H7.out.d rfl (s := nB) rfl rfl).mono ?_; rintro e v8 ⟨rfl, b2⟩; have H8 := Lib.hid (H7.out.stay b2); clear b2)
    | (go_at_call 15; refine (c_read H6.out.d rfl (s := nA) rfl rfl).mono ?_; rintro e v7 ⟨rfl, b2⟩; have H7 := Lib.hid (H6.out.stay b2); clear b2)
    | (go_at_call 14; refine (c_append_full H5.out.d (s := nB) (data := b) rfl (by decide) yb rfl hl2 hqb).mono ?_; rintro e v6 ⟨rfl, h2, t2⟩; have H6 := Lib.hid (H5.out.go h2 t2); clear h2 t2)
    | (go_at_call 14; refine (c_append H4.out.d (s := nA) (data := ByteArray.empty) rfl (by decide) (by decide) rfl (by decide) (.inr (.inl rfl)) (m' := [(nA, ⟨ByteArray.empty, 0⟩), (nB, ⟨ByteArray.empty, 0⟩)]) rfl).mono ?_; rintro e v5 ⟨rfl, h2, t2⟩; have H5 := Lib.hid (H4.out.go h2 t2); clear h2 t2)
    | (go_at_call 13; refine (c_quota H3.out.d n (by omega)).mono ?_; rintro e v4 ⟨rfl, h2, t2⟩; have H4 := Lib.hid (H3.out.go h2 t2); clear h2 t2)
    | (go_at_call 12; refine (c_create H2.out.d (s := nB) rfl (by decide) (by simp only [List.length_cons, List.length_nil]; omega) rfl (m' := [(nA, ⟨ByteArray.empty, 0⟩), (nB, ⟨ByteArray.empty, 0⟩)]) rfl).mono ?_; rintro e v3 ⟨rfl, h2, t2⟩; have H3 := Lib.hid (H2.out.go h2 t2); clear h2 t2)
    | (go_at_call 12; refine (c_create H1.out.d (s := nA) rfl (by decide) (by simp only [List.length_cons, List.length_nil]; omega) rfl (m' := [(nA, ⟨ByteArray.empty, 0⟩)]) rfl).mono ?_; rintro e v2 ⟨rfl, h2, t2⟩; have H2 := Lib.hid (H1.out.go h2 t2); clear h2 t2)
    | (go_at_call 11; refine (c_new (w0 := w) (Below.refl _ _)).mono ?_; rintro e v1 ⟨rfl, h1⟩; have H1 := Lib.hid h1; clear h1))

  go_ret
  exact ⟨rfl, H14.out.b⟩

set_option maxRecDepth 100000 in
set_option maxHeartbeats 4000000 in
theorem quota_fzf (a : ByteArray) (n : Int) (hn : 0 ≤ n ∧ n ≤ 9000) (hl : (a.size : Int) + 0 ≤ 6000) (za : a.size ≠ 0) (fa : (a.size : Int) ≤ n) (fc : 0 + (a.size : Int) ≤ n) (w : World) :
    Calls Tryd.prog 3 #[.int .i64 n, .string a, .string ByteArray.empty] w fun e w' => e = .returned (.bool true) ∧ Below w.heap.size w w' := by
  have hn1 : ¬ n < 0 := by omega
  have hn2 : ¬ (9000 : Int) < n := by omega
  have ya : a.size ≤ 140737488351232 := by omega
  have hl1 : ByteArray.empty.size + a.size ≤ 1048576 := by show 0 + a.size ≤ _; omega
  have ea := ne_of za
  have hqa : (used [(nA, (⟨ByteArray.empty, 0⟩ : Fl)), (nB, ⟨ByteArray.empty, 0⟩)] : Int) + a.size ≤ n := by have hu : (used [(nA, (⟨ByteArray.empty, 0⟩ : Fl)), (nB, ⟨ByteArray.empty, 0⟩)] : Int) = 0 := rfl; rw [hu]; omega
  have hp1 : setL [(nA, (⟨ByteArray.empty, 0⟩ : Fl)), (nB, ⟨ByteArray.empty, 0⟩)] nA ⟨ByteArray.empty ++ a, 0⟩ = [(nA, ⟨a, 0⟩), (nB, ⟨ByteArray.empty, 0⟩)] := by rw [ByteArray.empty_append]; rfl
  have hqc : (used [(nB, (⟨ByteArray.empty, 0⟩ : Fl)), (nC, ⟨ByteArray.empty, 0⟩)] : Int) + a.size ≤ n := by
    have hu : (used [(nB, (⟨ByteArray.empty, 0⟩ : Fl)), (nC, ⟨ByteArray.empty, 0⟩)] : Int) = 0 := by simp [used]
    rw [hu]; omega
  have hp3 : setL [(nB, (⟨ByteArray.empty, 0⟩ : Fl)), (nC, ⟨ByteArray.empty, 0⟩)] nC ⟨ByteArray.empty ++ a, 0⟩ = [(nB, ⟨ByteArray.empty, 0⟩), (nC, ⟨a, 0⟩)] := by rw [ByteArray.empty_append]; rfl
  have hu1 : (used [(nA, (⟨a, 0⟩ : Fl)), (nB, ⟨ByteArray.empty, 0⟩)] : Int) = (a.size : Int) := by simp [used]
  have hu2 : (used [(nB, (⟨ByteArray.empty, 0⟩ : Fl))] : Int) = 0 := by simp [used]
  go_enter Tryd.func3, Tryd.ntmps3
  go_wp2_with (first
    | (go_at_call 14; refine (c_append H13.out.d (s := nC) (data := a) rfl (by decide) ya rfl hl1 (.inr (.inr hqc)) hp3).mono ?_; rintro e v14 ⟨rfl, h2, t2⟩; have H14 := Lib.hid (H13.out.go h2 t2); clear h2 t2)
    | (go_at_call 10; refine (alive_any _).mono ?_; rintro e v13 ⟨rfl, b2⟩; have H13 := Lib.hid (H12.out.stay b2); clear b2)
    | (go_at_call 12; refine (c_create H11.out.d (s := nC) rfl (by decide) (by simp only [List.length_cons, List.length_nil]; omega) rfl (m' := [(nB, ⟨ByteArray.empty, 0⟩), (nC, ⟨ByteArray.empty, 0⟩)]) rfl).mono ?_; rintro e v12 ⟨rfl, h2, t2⟩; have H12 := Lib.hid (H11.out.go h2 t2); clear h2 t2)
    | (go_at_call 16; refine (c_used H10.out.d (n := 0) hu2).mono ?_; rintro e v11 ⟨rfl, b2⟩; have H11 := Lib.hid (H10.out.stay b2); clear b2)
    | (go_at_call 17; refine (c_remove H9.out.d (s := nA) rfl (by decide) rfl (m' := [(nB, ⟨ByteArray.empty, 0⟩)]) rfl).mono ?_; rintro e v10 ⟨rfl, h2, t2⟩; have H10 := Lib.hid (H9.out.go h2 t2); clear h2 t2)
    | (go_at_call 16; refine (c_used H8.out.d (n := (a.size : Int)) hu1).mono ?_; rintro e v9 ⟨rfl, b2⟩; have H9 := Lib.hid (H8.out.stay b2); clear b2)
    | (go_at_call 15; refine (c_read H7.out.d rfl (s := nB) rfl rfl).mono ?_; rintro e v8 ⟨rfl, b2⟩; have H8 := Lib.hid (H7.out.stay b2); clear b2)
    | (go_at_call 15; refine (c_read H6.out.d rfl (s := nA) rfl rfl).mono ?_; rintro e v7 ⟨rfl, b2⟩; have H7 := Lib.hid (H6.out.stay b2); clear b2)
    | (go_at_call 14; refine (c_append H5.out.d (s := nB) (data := ByteArray.empty) rfl (by decide) (by decide) rfl (by decide) (.inr (.inl rfl)) (m' := [(nA, ⟨a, 0⟩), (nB, ⟨ByteArray.empty, 0⟩)]) rfl).mono ?_; rintro e v6 ⟨rfl, h2, t2⟩; have H6 := Lib.hid (H5.out.go h2 t2); clear h2 t2)
    | (go_at_call 14; refine (c_append H4.out.d (s := nA) (data := a) rfl (by decide) ya rfl hl1 (.inr (.inr hqa)) hp1).mono ?_; rintro e v5 ⟨rfl, h2, t2⟩; have H5 := Lib.hid (H4.out.go h2 t2); clear h2 t2)
    | (go_at_call 13; refine (c_quota H3.out.d n (by omega)).mono ?_; rintro e v4 ⟨rfl, h2, t2⟩; have H4 := Lib.hid (H3.out.go h2 t2); clear h2 t2)
    | (go_at_call 12; refine (c_create H2.out.d (s := nB) rfl (by decide) (by simp only [List.length_cons, List.length_nil]; omega) rfl (m' := [(nA, ⟨ByteArray.empty, 0⟩), (nB, ⟨ByteArray.empty, 0⟩)]) rfl).mono ?_; rintro e v3 ⟨rfl, h2, t2⟩; have H3 := Lib.hid (H2.out.go h2 t2); clear h2 t2)
    | (go_at_call 12; refine (c_create H1.out.d (s := nA) rfl (by decide) (by simp only [List.length_cons, List.length_nil]; omega) rfl (m' := [(nA, ⟨ByteArray.empty, 0⟩)]) rfl).mono ?_; rintro e v2 ⟨rfl, h2, t2⟩; have H2 := Lib.hid (H1.out.go h2 t2); clear h2 t2)
    | (go_at_call 11; refine (c_new (w0 := w) (Below.refl _ _)).mono ?_; rintro e v1 ⟨rfl, h1⟩; have H1 := Lib.hid h1; clear h1))

  go_ret
  exact ⟨rfl, H14.out.b⟩

set_option maxRecDepth 100000 in
set_option maxHeartbeats 4000000 in
theorem quota_fff (a : ByteArray) (b : ByteArray) (n : Int) (hn : 0 ≤ n ∧ n ≤ 9000) (hl : (a.size : Int) + (b.size : Int) ≤ 6000) (za : a.size ≠ 0) (zb : b.size ≠ 0) (fa : (a.size : Int) ≤ n) (fb : (a.size : Int) + (b.size : Int) ≤ n) (fc : (b.size : Int) + (a.size : Int) ≤ n) (w : World) :
    Calls Tryd.prog 3 #[.int .i64 n, .string a, .string b] w fun e w' => e = .returned (.bool true) ∧ Below w.heap.size w w' := by
  have hn1 : ¬ n < 0 := by omega
  have hn2 : ¬ (9000 : Int) < n := by omega
  have ya : a.size ≤ 140737488351232 := by omega
  have hl1 : ByteArray.empty.size + a.size ≤ 1048576 := by show 0 + a.size ≤ _; omega
  have ea := ne_of za
  have hqa : (used [(nA, (⟨ByteArray.empty, 0⟩ : Fl)), (nB, ⟨ByteArray.empty, 0⟩)] : Int) + a.size ≤ n := by have hu : (used [(nA, (⟨ByteArray.empty, 0⟩ : Fl)), (nB, ⟨ByteArray.empty, 0⟩)] : Int) = 0 := rfl; rw [hu]; omega
  have hp1 : setL [(nA, (⟨ByteArray.empty, 0⟩ : Fl)), (nB, ⟨ByteArray.empty, 0⟩)] nA ⟨ByteArray.empty ++ a, 0⟩ = [(nA, ⟨a, 0⟩), (nB, ⟨ByteArray.empty, 0⟩)] := by rw [ByteArray.empty_append]; rfl
  have hqc : (used [(nB, (⟨b, 0⟩ : Fl)), (nC, ⟨ByteArray.empty, 0⟩)] : Int) + a.size ≤ n := by
    have hu : (used [(nB, (⟨b, 0⟩ : Fl)), (nC, ⟨ByteArray.empty, 0⟩)] : Int) = (b.size : Int) := by simp [used]
    rw [hu]; omega
  have hp3 : setL [(nB, (⟨b, 0⟩ : Fl)), (nC, ⟨ByteArray.empty, 0⟩)] nC ⟨ByteArray.empty ++ a, 0⟩ = [(nB, ⟨b, 0⟩), (nC, ⟨a, 0⟩)] := by rw [ByteArray.empty_append]; rfl
  have yb : b.size ≤ 140737488351232 := by omega
  have hl2 : ByteArray.empty.size + b.size ≤ 1048576 := by show 0 + b.size ≤ _; omega
  have eb := ne_of zb
  have hqb : (used [(nA, (⟨a, 0⟩ : Fl)), (nB, ⟨ByteArray.empty, 0⟩)] : Int) + b.size ≤ n := by
    have hu : (used [(nA, (⟨a, 0⟩ : Fl)), (nB, ⟨ByteArray.empty, 0⟩)] : Int) = (a.size : Int) := by simp [used]
    rw [hu]; omega
  have hp2 : setL [(nA, (⟨a, 0⟩ : Fl)), (nB, ⟨ByteArray.empty, 0⟩)] nB ⟨ByteArray.empty ++ b, 0⟩ = [(nA, ⟨a, 0⟩), (nB, ⟨b, 0⟩)] := by rw [ByteArray.empty_append]; rfl
  have hu1 : (used [(nA, (⟨a, 0⟩ : Fl)), (nB, ⟨b, 0⟩)] : Int) = (a.size : Int) + (b.size : Int) := by simp [used]
  have hu2 : (used [(nB, (⟨b, 0⟩ : Fl))] : Int) = (b.size : Int) := by simp [used]
  go_enter Tryd.func3, Tryd.ntmps3
  go_wp2_with (first
    | (go_at_call 14; refine (c_append H13.out.d (s := nC) (data := a) rfl (by decide) ya rfl hl1 (.inr (.inr hqc)) hp3).mono ?_; rintro e v14 ⟨rfl, h2, t2⟩; have H14 := Lib.hid (H13.out.go h2 t2); clear h2 t2)
    | (go_at_call 10; refine (alive_any _).mono ?_; rintro e v13 ⟨rfl, b2⟩; have H13 := Lib.hid (H12.out.stay b2); clear b2)
    | (go_at_call 12; refine (c_create H11.out.d (s := nC) rfl (by decide) (by simp only [List.length_cons, List.length_nil]; omega) rfl (m' := [(nB, ⟨b, 0⟩), (nC, ⟨ByteArray.empty, 0⟩)]) rfl).mono ?_; rintro e v12 ⟨rfl, h2, t2⟩; have H12 := Lib.hid (H11.out.go h2 t2); clear h2 t2)
    | (go_at_call 16; refine (c_used H10.out.d (n := (b.size : Int)) hu2).mono ?_; rintro e v11 ⟨rfl, b2⟩; have H11 := Lib.hid (H10.out.stay b2); clear b2)
    | (go_at_call 17; refine (c_remove H9.out.d (s := nA) rfl (by decide) rfl (m' := [(nB, ⟨b, 0⟩)]) rfl).mono ?_; rintro e v10 ⟨rfl, h2, t2⟩; have H10 := Lib.hid (H9.out.go h2 t2); clear h2 t2)
    | (go_at_call 16; refine (c_used H8.out.d (n := (a.size : Int) + (b.size : Int)) hu1).mono ?_; rintro e v9 ⟨rfl, b2⟩; have H9 := Lib.hid (H8.out.stay b2); clear b2)
    | (go_at_call 15; refine (c_read H7.out.d rfl (s := nB) rfl rfl).mono ?_; rintro e v8 ⟨rfl, b2⟩; have H8 := Lib.hid (H7.out.stay b2); clear b2)
    | (go_at_call 15; refine (c_read H6.out.d rfl (s := nA) rfl rfl).mono ?_; rintro e v7 ⟨rfl, b2⟩; have H7 := Lib.hid (H6.out.stay b2); clear b2)
    | (go_at_call 14; refine (c_append H5.out.d (s := nB) (data := b) rfl (by decide) yb rfl hl2 (.inr (.inr hqb)) hp2).mono ?_; rintro e v6 ⟨rfl, h2, t2⟩; have H6 := Lib.hid (H5.out.go h2 t2); clear h2 t2)
    | (go_at_call 14; refine (c_append H4.out.d (s := nA) (data := a) rfl (by decide) ya rfl hl1 (.inr (.inr hqa)) hp1).mono ?_; rintro e v5 ⟨rfl, h2, t2⟩; have H5 := Lib.hid (H4.out.go h2 t2); clear h2 t2)
    | (go_at_call 13; refine (c_quota H3.out.d n (by omega)).mono ?_; rintro e v4 ⟨rfl, h2, t2⟩; have H4 := Lib.hid (H3.out.go h2 t2); clear h2 t2)
    | (go_at_call 12; refine (c_create H2.out.d (s := nB) rfl (by decide) (by simp only [List.length_cons, List.length_nil]; omega) rfl (m' := [(nA, ⟨ByteArray.empty, 0⟩), (nB, ⟨ByteArray.empty, 0⟩)]) rfl).mono ?_; rintro e v3 ⟨rfl, h2, t2⟩; have H3 := Lib.hid (H2.out.go h2 t2); clear h2 t2)
    | (go_at_call 12; refine (c_create H1.out.d (s := nA) rfl (by decide) (by simp only [List.length_cons, List.length_nil]; omega) rfl (m' := [(nA, ⟨ByteArray.empty, 0⟩)]) rfl).mono ?_; rintro e v2 ⟨rfl, h2, t2⟩; have H2 := Lib.hid (H1.out.go h2 t2); clear h2 t2)
    | (go_at_call 11; refine (c_new (w0 := w) (Below.refl _ _)).mono ?_; rintro e v1 ⟨rfl, h1⟩; have H1 := Lib.hid h1; clear h1))

  go_ret
  exact ⟨rfl, H14.out.b⟩

set_option maxRecDepth 100000 in
set_option maxHeartbeats 4000000 in
theorem quota_fnf (a : ByteArray) (b : ByteArray) (n : Int) (hn : 0 ≤ n ∧ n ≤ 9000) (hl : (a.size : Int) + (b.size : Int) ≤ 6000) (za : a.size ≠ 0) (zb : b.size ≠ 0) (fa : (a.size : Int) ≤ n) (fb : n < (a.size : Int) + (b.size : Int)) (fc : 0 + (a.size : Int) ≤ n) (w : World) :
    Calls Tryd.prog 3 #[.int .i64 n, .string a, .string b] w fun e w' => e = .returned (.bool true) ∧ Below w.heap.size w w' := by
  have hn1 : ¬ n < 0 := by omega
  have hn2 : ¬ (9000 : Int) < n := by omega
  have ya : a.size ≤ 140737488351232 := by omega
  have hl1 : ByteArray.empty.size + a.size ≤ 1048576 := by show 0 + a.size ≤ _; omega
  have ea := ne_of za
  have hqa : (used [(nA, (⟨ByteArray.empty, 0⟩ : Fl)), (nB, ⟨ByteArray.empty, 0⟩)] : Int) + a.size ≤ n := by have hu : (used [(nA, (⟨ByteArray.empty, 0⟩ : Fl)), (nB, ⟨ByteArray.empty, 0⟩)] : Int) = 0 := rfl; rw [hu]; omega
  have hp1 : setL [(nA, (⟨ByteArray.empty, 0⟩ : Fl)), (nB, ⟨ByteArray.empty, 0⟩)] nA ⟨ByteArray.empty ++ a, 0⟩ = [(nA, ⟨a, 0⟩), (nB, ⟨ByteArray.empty, 0⟩)] := by rw [ByteArray.empty_append]; rfl
  have hqc : (used [(nB, (⟨ByteArray.empty, 0⟩ : Fl)), (nC, ⟨ByteArray.empty, 0⟩)] : Int) + a.size ≤ n := by
    have hu : (used [(nB, (⟨ByteArray.empty, 0⟩ : Fl)), (nC, ⟨ByteArray.empty, 0⟩)] : Int) = 0 := by simp [used]
    rw [hu]; omega
  have hp3 : setL [(nB, (⟨ByteArray.empty, 0⟩ : Fl)), (nC, ⟨ByteArray.empty, 0⟩)] nC ⟨ByteArray.empty ++ a, 0⟩ = [(nB, ⟨ByteArray.empty, 0⟩), (nC, ⟨a, 0⟩)] := by rw [ByteArray.empty_append]; rfl
  have yb : b.size ≤ 140737488351232 := by omega
  have hl2 : ByteArray.empty.size + b.size ≤ 1048576 := by show 0 + b.size ≤ _; omega
  have eb := ne_of zb
  have hqb : 0 ≤ n ∧ b.size ≠ 0 ∧ n < (used [(nA, (⟨a, 0⟩ : Fl)), (nB, ⟨ByteArray.empty, 0⟩)] : Int) + b.size := by
    have hu : (used [(nA, (⟨a, 0⟩ : Fl)), (nB, ⟨ByteArray.empty, 0⟩)] : Int) = (a.size : Int) := by simp [used]
    rw [hu]; omega
  have hp2 : setL [(nA, (⟨a, 0⟩ : Fl)), (nB, ⟨ByteArray.empty, 0⟩)] nB ⟨ByteArray.empty ++ b, 0⟩ = [(nA, ⟨a, 0⟩), (nB, ⟨b, 0⟩)] := by rw [ByteArray.empty_append]; rfl
  have hu1 : (used [(nA, (⟨a, 0⟩ : Fl)), (nB, ⟨ByteArray.empty, 0⟩)] : Int) = (a.size : Int) := by simp [used]
  have hu2 : (used [(nB, (⟨ByteArray.empty, 0⟩ : Fl))] : Int) = 0 := by simp [used]
  go_enter Tryd.func3, Tryd.ntmps3
  go_wp2_with (first
    | (go_at_call 14; refine (c_append H13.out.d (s := nC) (data := a) rfl (by decide) ya rfl hl1 (.inr (.inr hqc)) hp3).mono ?_; rintro e v14 ⟨rfl, h2, t2⟩; have H14 := Lib.hid (H13.out.go h2 t2); clear h2 t2)
    | (go_at_call 10; refine (alive_any _).mono ?_; rintro e v13 ⟨rfl, b2⟩; have H13 := Lib.hid (H12.out.stay b2); clear b2)
    | (go_at_call 12; refine (c_create H11.out.d (s := nC) rfl (by decide) (by simp only [List.length_cons, List.length_nil]; omega) rfl (m' := [(nB, ⟨ByteArray.empty, 0⟩), (nC, ⟨ByteArray.empty, 0⟩)]) rfl).mono ?_; rintro e v12 ⟨rfl, h2, t2⟩; have H12 := Lib.hid (H11.out.go h2 t2); clear h2 t2)
    | (go_at_call 16; refine (c_used H10.out.d (n := 0) hu2).mono ?_; rintro e v11 ⟨rfl, b2⟩; have H11 := Lib.hid (H10.out.stay b2); clear b2)
    | (go_at_call 17; refine (c_remove H9.out.d (s := nA) rfl (by decide) rfl (m' := [(nB, ⟨ByteArray.empty, 0⟩)]) rfl).mono ?_; rintro e v10 ⟨rfl, h2, t2⟩; have H10 := Lib.hid (H9.out.go h2 t2); clear h2 t2)
    | (go_at_call 16; refine (c_used H8.out.d (n := (a.size : Int)) hu1).mono ?_; rintro e v9 ⟨rfl, b2⟩; have H9 := Lib.hid (H8.out.stay b2); clear b2)
    | (go_at_call 15; refine (c_read H7.out.d rfl (s := nB) rfl rfl).mono ?_; rintro e v8 ⟨rfl, b2⟩; have H8 := Lib.hid (H7.out.stay b2); clear b2)
    | (go_at_call 15; refine (c_read H6.out.d rfl (s := nA) rfl rfl).mono ?_; rintro e v7 ⟨rfl, b2⟩; have H7 := Lib.hid (H6.out.stay b2); clear b2)
    | (go_at_call 14; refine (c_append_full H5.out.d (s := nB) (data := b) rfl (by decide) yb rfl hl2 hqb).mono ?_; rintro e v6 ⟨rfl, h2, t2⟩; have H6 := Lib.hid (H5.out.go h2 t2); clear h2 t2)
    | (go_at_call 14; refine (c_append H4.out.d (s := nA) (data := a) rfl (by decide) ya rfl hl1 (.inr (.inr hqa)) hp1).mono ?_; rintro e v5 ⟨rfl, h2, t2⟩; have H5 := Lib.hid (H4.out.go h2 t2); clear h2 t2)
    | (go_at_call 13; refine (c_quota H3.out.d n (by omega)).mono ?_; rintro e v4 ⟨rfl, h2, t2⟩; have H4 := Lib.hid (H3.out.go h2 t2); clear h2 t2)
    | (go_at_call 12; refine (c_create H2.out.d (s := nB) rfl (by decide) (by simp only [List.length_cons, List.length_nil]; omega) rfl (m' := [(nA, ⟨ByteArray.empty, 0⟩), (nB, ⟨ByteArray.empty, 0⟩)]) rfl).mono ?_; rintro e v3 ⟨rfl, h2, t2⟩; have H3 := Lib.hid (H2.out.go h2 t2); clear h2 t2)
    | (go_at_call 12; refine (c_create H1.out.d (s := nA) rfl (by decide) (by simp only [List.length_cons, List.length_nil]; omega) rfl (m' := [(nA, ⟨ByteArray.empty, 0⟩)]) rfl).mono ?_; rintro e v2 ⟨rfl, h2, t2⟩; have H2 := Lib.hid (H1.out.go h2 t2); clear h2 t2)
    | (go_at_call 11; refine (c_new (w0 := w) (Below.refl _ _)).mono ?_; rintro e v1 ⟨rfl, h1⟩; have H1 := Lib.hid h1; clear h1))

  go_ret
  exact ⟨rfl, H14.out.b⟩

set_option maxRecDepth 100000 in
set_option maxHeartbeats 4000000 in
theorem quota_nzn (a : ByteArray) (n : Int) (hn : 0 ≤ n ∧ n ≤ 9000) (hl : (a.size : Int) + 0 ≤ 6000) (za : a.size ≠ 0) (fa : n < (a.size : Int)) (fc : n < 0 + (a.size : Int)) (w : World) :
    Calls Tryd.prog 3 #[.int .i64 n, .string a, .string ByteArray.empty] w fun e w' => e = .returned (.bool true) ∧ Below w.heap.size w w' := by
  have hn1 : ¬ n < 0 := by omega
  have hn2 : ¬ (9000 : Int) < n := by omega
  have ya : a.size ≤ 140737488351232 := by omega
  have hl1 : ByteArray.empty.size + a.size ≤ 1048576 := by show 0 + a.size ≤ _; omega
  have ea := ne_of za
  have hqa : 0 ≤ n ∧ a.size ≠ 0 ∧ n < (used [(nA, (⟨ByteArray.empty, 0⟩ : Fl)), (nB, ⟨ByteArray.empty, 0⟩)] : Int) + a.size := by have hu : (used [(nA, (⟨ByteArray.empty, 0⟩ : Fl)), (nB, ⟨ByteArray.empty, 0⟩)] : Int) = 0 := rfl; rw [hu]; omega
  have hp1 : setL [(nA, (⟨ByteArray.empty, 0⟩ : Fl)), (nB, ⟨ByteArray.empty, 0⟩)] nA ⟨ByteArray.empty ++ a, 0⟩ = [(nA, ⟨a, 0⟩), (nB, ⟨ByteArray.empty, 0⟩)] := by rw [ByteArray.empty_append]; rfl
  have hqc : 0 ≤ n ∧ a.size ≠ 0 ∧ n < (used [(nB, (⟨ByteArray.empty, 0⟩ : Fl)), (nC, ⟨ByteArray.empty, 0⟩)] : Int) + a.size := by
    have hu : (used [(nB, (⟨ByteArray.empty, 0⟩ : Fl)), (nC, ⟨ByteArray.empty, 0⟩)] : Int) = 0 := by simp [used]
    rw [hu]; omega
  have hp3 : setL [(nB, (⟨ByteArray.empty, 0⟩ : Fl)), (nC, ⟨ByteArray.empty, 0⟩)] nC ⟨ByteArray.empty ++ a, 0⟩ = [(nB, ⟨ByteArray.empty, 0⟩), (nC, ⟨a, 0⟩)] := by rw [ByteArray.empty_append]; rfl
  have hu1 : (used [(nA, (⟨ByteArray.empty, 0⟩ : Fl)), (nB, ⟨ByteArray.empty, 0⟩)] : Int) = 0 := by simp [used]
  have hu2 : (used [(nB, (⟨ByteArray.empty, 0⟩ : Fl))] : Int) = 0 := by simp [used]
  go_enter Tryd.func3, Tryd.ntmps3
  go_wp2_with (first
    | (go_at_call 14; refine (c_append_full H13.out.d (s := nC) (data := a) rfl (by decide) ya rfl hl1 hqc).mono ?_; rintro e v14 ⟨rfl, h2, t2⟩; have H14 := Lib.hid (H13.out.go h2 t2); clear h2 t2)
    | (go_at_call 10; refine (alive_any _).mono ?_; rintro e v13 ⟨rfl, b2⟩; have H13 := Lib.hid (H12.out.stay b2); clear b2)
    | (go_at_call 12; refine (c_create H11.out.d (s := nC) rfl (by decide) (by simp only [List.length_cons, List.length_nil]; omega) rfl (m' := [(nB, ⟨ByteArray.empty, 0⟩), (nC, ⟨ByteArray.empty, 0⟩)]) rfl).mono ?_; rintro e v12 ⟨rfl, h2, t2⟩; have H12 := Lib.hid (H11.out.go h2 t2); clear h2 t2)
    | (go_at_call 16; refine (c_used H10.out.d (n := 0) hu2).mono ?_; rintro e v11 ⟨rfl, b2⟩; have H11 := Lib.hid (H10.out.stay b2); clear b2)
    | (go_at_call 17; refine (c_remove H9.out.d (s := nA) rfl (by decide) rfl (m' := [(nB, ⟨ByteArray.empty, 0⟩)]) rfl).mono ?_; rintro e v10 ⟨rfl, h2, t2⟩; have H10 := Lib.hid (H9.out.go h2 t2); clear h2 t2)
    | (go_at_call 16; refine (c_used H8.out.d (n := 0) hu1).mono ?_; rintro e v9 ⟨rfl, b2⟩; have H9 := Lib.hid (H8.out.stay b2); clear b2)
    | (go_at_call 15; refine (c_read H7.out.d rfl (s := nB) rfl rfl).mono ?_; rintro e v8 ⟨rfl, b2⟩; have H8 := Lib.hid (H7.out.stay b2); clear b2)
    | (go_at_call 15; refine (c_read H6.out.d rfl (s := nA) rfl rfl).mono ?_; rintro e v7 ⟨rfl, b2⟩; have H7 := Lib.hid (H6.out.stay b2); clear b2)
    | (go_at_call 14; refine (c_append H5.out.d (s := nB) (data := ByteArray.empty) rfl (by decide) (by decide) rfl (by decide) (.inr (.inl rfl)) (m' := [(nA, ⟨ByteArray.empty, 0⟩), (nB, ⟨ByteArray.empty, 0⟩)]) rfl).mono ?_; rintro e v6 ⟨rfl, h2, t2⟩; have H6 := Lib.hid (H5.out.go h2 t2); clear h2 t2)
    | (go_at_call 14; refine (c_append_full H4.out.d (s := nA) (data := a) rfl (by decide) ya rfl hl1 hqa).mono ?_; rintro e v5 ⟨rfl, h2, t2⟩; have H5 := Lib.hid (H4.out.go h2 t2); clear h2 t2)
    | (go_at_call 13; refine (c_quota H3.out.d n (by omega)).mono ?_; rintro e v4 ⟨rfl, h2, t2⟩; have H4 := Lib.hid (H3.out.go h2 t2); clear h2 t2)
    | (go_at_call 12; refine (c_create H2.out.d (s := nB) rfl (by decide) (by simp only [List.length_cons, List.length_nil]; omega) rfl (m' := [(nA, ⟨ByteArray.empty, 0⟩), (nB, ⟨ByteArray.empty, 0⟩)]) rfl).mono ?_; rintro e v3 ⟨rfl, h2, t2⟩; have H3 := Lib.hid (H2.out.go h2 t2); clear h2 t2)
    | (go_at_call 12; refine (c_create H1.out.d (s := nA) rfl (by decide) (by simp only [List.length_cons, List.length_nil]; omega) rfl (m' := [(nA, ⟨ByteArray.empty, 0⟩)]) rfl).mono ?_; rintro e v2 ⟨rfl, h2, t2⟩; have H2 := Lib.hid (H1.out.go h2 t2); clear h2 t2)
    | (go_at_call 11; refine (c_new (w0 := w) (Below.refl _ _)).mono ?_; rintro e v1 ⟨rfl, h1⟩; have H1 := Lib.hid h1; clear h1))

  go_ret
  exact ⟨by show Ending.returned (Value.bool (!decide ((a.size : Int) ≤ n))) = Ending.returned (Value.bool true); rw [decide_eq_false (by omega)]; rfl, H14.out.b⟩

set_option maxRecDepth 100000 in
set_option maxHeartbeats 4000000 in
theorem quota_nfn (a : ByteArray) (b : ByteArray) (n : Int) (hn : 0 ≤ n ∧ n ≤ 9000) (hl : (a.size : Int) + (b.size : Int) ≤ 6000) (za : a.size ≠ 0) (zb : b.size ≠ 0) (fa : n < (a.size : Int)) (fb : 0 + (b.size : Int) ≤ n) (fc : n < (b.size : Int) + (a.size : Int)) (w : World) :
    Calls Tryd.prog 3 #[.int .i64 n, .string a, .string b] w fun e w' => e = .returned (.bool true) ∧ Below w.heap.size w w' := by
  have hn1 : ¬ n < 0 := by omega
  have hn2 : ¬ (9000 : Int) < n := by omega
  have ya : a.size ≤ 140737488351232 := by omega
  have hl1 : ByteArray.empty.size + a.size ≤ 1048576 := by show 0 + a.size ≤ _; omega
  have ea := ne_of za
  have hqa : 0 ≤ n ∧ a.size ≠ 0 ∧ n < (used [(nA, (⟨ByteArray.empty, 0⟩ : Fl)), (nB, ⟨ByteArray.empty, 0⟩)] : Int) + a.size := by have hu : (used [(nA, (⟨ByteArray.empty, 0⟩ : Fl)), (nB, ⟨ByteArray.empty, 0⟩)] : Int) = 0 := rfl; rw [hu]; omega
  have hp1 : setL [(nA, (⟨ByteArray.empty, 0⟩ : Fl)), (nB, ⟨ByteArray.empty, 0⟩)] nA ⟨ByteArray.empty ++ a, 0⟩ = [(nA, ⟨a, 0⟩), (nB, ⟨ByteArray.empty, 0⟩)] := by rw [ByteArray.empty_append]; rfl
  have hqc : 0 ≤ n ∧ a.size ≠ 0 ∧ n < (used [(nB, (⟨b, 0⟩ : Fl)), (nC, ⟨ByteArray.empty, 0⟩)] : Int) + a.size := by
    have hu : (used [(nB, (⟨b, 0⟩ : Fl)), (nC, ⟨ByteArray.empty, 0⟩)] : Int) = (b.size : Int) := by simp [used]
    rw [hu]; omega
  have hp3 : setL [(nB, (⟨b, 0⟩ : Fl)), (nC, ⟨ByteArray.empty, 0⟩)] nC ⟨ByteArray.empty ++ a, 0⟩ = [(nB, ⟨b, 0⟩), (nC, ⟨a, 0⟩)] := by rw [ByteArray.empty_append]; rfl
  have yb : b.size ≤ 140737488351232 := by omega
  have hl2 : ByteArray.empty.size + b.size ≤ 1048576 := by show 0 + b.size ≤ _; omega
  have eb := ne_of zb
  have hqb : (used [(nA, (⟨ByteArray.empty, 0⟩ : Fl)), (nB, ⟨ByteArray.empty, 0⟩)] : Int) + b.size ≤ n := by
    have hu : (used [(nA, (⟨ByteArray.empty, 0⟩ : Fl)), (nB, ⟨ByteArray.empty, 0⟩)] : Int) = 0 := by simp [used]
    rw [hu]; omega
  have hp2 : setL [(nA, (⟨ByteArray.empty, 0⟩ : Fl)), (nB, ⟨ByteArray.empty, 0⟩)] nB ⟨ByteArray.empty ++ b, 0⟩ = [(nA, ⟨ByteArray.empty, 0⟩), (nB, ⟨b, 0⟩)] := by rw [ByteArray.empty_append]; rfl
  have hu1 : (used [(nA, (⟨ByteArray.empty, 0⟩ : Fl)), (nB, ⟨b, 0⟩)] : Int) = (b.size : Int) := by simp [used]
  have hu2 : (used [(nB, (⟨b, 0⟩ : Fl))] : Int) = (b.size : Int) := by simp [used]
  go_enter Tryd.func3, Tryd.ntmps3
  go_wp2_with (first
    | (go_at_call 14; refine (c_append_full H13.out.d (s := nC) (data := a) rfl (by decide) ya rfl hl1 hqc).mono ?_; rintro e v14 ⟨rfl, h2, t2⟩; have H14 := Lib.hid (H13.out.go h2 t2); clear h2 t2)
    | (go_at_call 10; refine (alive_any _).mono ?_; rintro e v13 ⟨rfl, b2⟩; have H13 := Lib.hid (H12.out.stay b2); clear b2)
    | (go_at_call 12; refine (c_create H11.out.d (s := nC) rfl (by decide) (by simp only [List.length_cons, List.length_nil]; omega) rfl (m' := [(nB, ⟨b, 0⟩), (nC, ⟨ByteArray.empty, 0⟩)]) rfl).mono ?_; rintro e v12 ⟨rfl, h2, t2⟩; have H12 := Lib.hid (H11.out.go h2 t2); clear h2 t2)
    | (go_at_call 16; refine (c_used H10.out.d (n := (b.size : Int)) hu2).mono ?_; rintro e v11 ⟨rfl, b2⟩; have H11 := Lib.hid (H10.out.stay b2); clear b2)
    | (go_at_call 17; refine (c_remove H9.out.d (s := nA) rfl (by decide) rfl (m' := [(nB, ⟨b, 0⟩)]) rfl).mono ?_; rintro e v10 ⟨rfl, h2, t2⟩; have H10 := Lib.hid (H9.out.go h2 t2); clear h2 t2)
    | (go_at_call 16; refine (c_used H8.out.d (n := (b.size : Int)) hu1).mono ?_; rintro e v9 ⟨rfl, b2⟩; have H9 := Lib.hid (H8.out.stay b2); clear b2)
    | (go_at_call 15; refine (c_read H7.out.d rfl (s := nB) rfl rfl).mono ?_; rintro e v8 ⟨rfl, b2⟩; have H8 := Lib.hid (H7.out.stay b2); clear b2)
    | (go_at_call 15; refine (c_read H6.out.d rfl (s := nA) rfl rfl).mono ?_; rintro e v7 ⟨rfl, b2⟩; have H7 := Lib.hid (H6.out.stay b2); clear b2)
    | (go_at_call 14; refine (c_append H5.out.d (s := nB) (data := b) rfl (by decide) yb rfl hl2 (.inr (.inr hqb)) hp2).mono ?_; rintro e v6 ⟨rfl, h2, t2⟩; have H6 := Lib.hid (H5.out.go h2 t2); clear h2 t2)
    | (go_at_call 14; refine (c_append_full H4.out.d (s := nA) (data := a) rfl (by decide) ya rfl hl1 hqa).mono ?_; rintro e v5 ⟨rfl, h2, t2⟩; have H5 := Lib.hid (H4.out.go h2 t2); clear h2 t2)
    | (go_at_call 13; refine (c_quota H3.out.d n (by omega)).mono ?_; rintro e v4 ⟨rfl, h2, t2⟩; have H4 := Lib.hid (H3.out.go h2 t2); clear h2 t2)
    | (go_at_call 12; refine (c_create H2.out.d (s := nB) rfl (by decide) (by simp only [List.length_cons, List.length_nil]; omega) rfl (m' := [(nA, ⟨ByteArray.empty, 0⟩), (nB, ⟨ByteArray.empty, 0⟩)]) rfl).mono ?_; rintro e v3 ⟨rfl, h2, t2⟩; have H3 := Lib.hid (H2.out.go h2 t2); clear h2 t2)
    | (go_at_call 12; refine (c_create H1.out.d (s := nA) rfl (by decide) (by simp only [List.length_cons, List.length_nil]; omega) rfl (m' := [(nA, ⟨ByteArray.empty, 0⟩)]) rfl).mono ?_; rintro e v2 ⟨rfl, h2, t2⟩; have H2 := Lib.hid (H1.out.go h2 t2); clear h2 t2)
    | (go_at_call 11; refine (c_new (w0 := w) (Below.refl _ _)).mono ?_; rintro e v1 ⟨rfl, h1⟩; have H1 := Lib.hid h1; clear h1))

  go_ret
  exact ⟨by show Ending.returned (Value.bool (!decide ((b.size : Int) + (a.size : Int) ≤ n))) = Ending.returned (Value.bool true); rw [decide_eq_false (by omega)]; rfl, H14.out.b⟩

set_option maxRecDepth 100000 in
set_option maxHeartbeats 4000000 in
theorem quota_nnn (a : ByteArray) (b : ByteArray) (n : Int) (hn : 0 ≤ n ∧ n ≤ 9000) (hl : (a.size : Int) + (b.size : Int) ≤ 6000) (za : a.size ≠ 0) (zb : b.size ≠ 0) (fa : n < (a.size : Int)) (fb : n < 0 + (b.size : Int)) (fc : n < 0 + (a.size : Int)) (w : World) :
    Calls Tryd.prog 3 #[.int .i64 n, .string a, .string b] w fun e w' => e = .returned (.bool true) ∧ Below w.heap.size w w' := by
  have hn1 : ¬ n < 0 := by omega
  have hn2 : ¬ (9000 : Int) < n := by omega
  have ya : a.size ≤ 140737488351232 := by omega
  have hl1 : ByteArray.empty.size + a.size ≤ 1048576 := by show 0 + a.size ≤ _; omega
  have ea := ne_of za
  have hqa : 0 ≤ n ∧ a.size ≠ 0 ∧ n < (used [(nA, (⟨ByteArray.empty, 0⟩ : Fl)), (nB, ⟨ByteArray.empty, 0⟩)] : Int) + a.size := by have hu : (used [(nA, (⟨ByteArray.empty, 0⟩ : Fl)), (nB, ⟨ByteArray.empty, 0⟩)] : Int) = 0 := rfl; rw [hu]; omega
  have hp1 : setL [(nA, (⟨ByteArray.empty, 0⟩ : Fl)), (nB, ⟨ByteArray.empty, 0⟩)] nA ⟨ByteArray.empty ++ a, 0⟩ = [(nA, ⟨a, 0⟩), (nB, ⟨ByteArray.empty, 0⟩)] := by rw [ByteArray.empty_append]; rfl
  have hqc : 0 ≤ n ∧ a.size ≠ 0 ∧ n < (used [(nB, (⟨ByteArray.empty, 0⟩ : Fl)), (nC, ⟨ByteArray.empty, 0⟩)] : Int) + a.size := by
    have hu : (used [(nB, (⟨ByteArray.empty, 0⟩ : Fl)), (nC, ⟨ByteArray.empty, 0⟩)] : Int) = 0 := by simp [used]
    rw [hu]; omega
  have hp3 : setL [(nB, (⟨ByteArray.empty, 0⟩ : Fl)), (nC, ⟨ByteArray.empty, 0⟩)] nC ⟨ByteArray.empty ++ a, 0⟩ = [(nB, ⟨ByteArray.empty, 0⟩), (nC, ⟨a, 0⟩)] := by rw [ByteArray.empty_append]; rfl
  have yb : b.size ≤ 140737488351232 := by omega
  have hl2 : ByteArray.empty.size + b.size ≤ 1048576 := by show 0 + b.size ≤ _; omega
  have eb := ne_of zb
  have hqb : 0 ≤ n ∧ b.size ≠ 0 ∧ n < (used [(nA, (⟨ByteArray.empty, 0⟩ : Fl)), (nB, ⟨ByteArray.empty, 0⟩)] : Int) + b.size := by
    have hu : (used [(nA, (⟨ByteArray.empty, 0⟩ : Fl)), (nB, ⟨ByteArray.empty, 0⟩)] : Int) = 0 := by simp [used]
    rw [hu]; omega
  have hp2 : setL [(nA, (⟨ByteArray.empty, 0⟩ : Fl)), (nB, ⟨ByteArray.empty, 0⟩)] nB ⟨ByteArray.empty ++ b, 0⟩ = [(nA, ⟨ByteArray.empty, 0⟩), (nB, ⟨b, 0⟩)] := by rw [ByteArray.empty_append]; rfl
  have hu1 : (used [(nA, (⟨ByteArray.empty, 0⟩ : Fl)), (nB, ⟨ByteArray.empty, 0⟩)] : Int) = 0 := by simp [used]
  have hu2 : (used [(nB, (⟨ByteArray.empty, 0⟩ : Fl))] : Int) = 0 := by simp [used]
  go_enter Tryd.func3, Tryd.ntmps3
  go_wp2_with (first
    | (go_at_call 14; refine (c_append_full H13.out.d (s := nC) (data := a) rfl (by decide) ya rfl hl1 hqc).mono ?_; rintro e v14 ⟨rfl, h2, t2⟩; have H14 := Lib.hid (H13.out.go h2 t2); clear h2 t2)
    | (go_at_call 10; refine (alive_any _).mono ?_; rintro e v13 ⟨rfl, b2⟩; have H13 := Lib.hid (H12.out.stay b2); clear b2)
    | (go_at_call 12; refine (c_create H11.out.d (s := nC) rfl (by decide) (by simp only [List.length_cons, List.length_nil]; omega) rfl (m' := [(nB, ⟨ByteArray.empty, 0⟩), (nC, ⟨ByteArray.empty, 0⟩)]) rfl).mono ?_; rintro e v12 ⟨rfl, h2, t2⟩; have H12 := Lib.hid (H11.out.go h2 t2); clear h2 t2)
    | (go_at_call 16; refine (c_used H10.out.d (n := 0) hu2).mono ?_; rintro e v11 ⟨rfl, b2⟩; have H11 := Lib.hid (H10.out.stay b2); clear b2)
    | (go_at_call 17; refine (c_remove H9.out.d (s := nA) rfl (by decide) rfl (m' := [(nB, ⟨ByteArray.empty, 0⟩)]) rfl).mono ?_; rintro e v10 ⟨rfl, h2, t2⟩; have H10 := Lib.hid (H9.out.go h2 t2); clear h2 t2)
    | (go_at_call 16; refine (c_used H8.out.d (n := 0) hu1).mono ?_; rintro e v9 ⟨rfl, b2⟩; have H9 := Lib.hid (H8.out.stay b2); clear b2)
    | (go_at_call 15; refine (c_read H7.out.d rfl (s := nB) rfl rfl).mono ?_; rintro e v8 ⟨rfl, b2⟩; have H8 := Lib.hid (H7.out.stay b2); clear b2)
    | (go_at_call 15; refine (c_read H6.out.d rfl (s := nA) rfl rfl).mono ?_; rintro e v7 ⟨rfl, b2⟩; have H7 := Lib.hid (H6.out.stay b2); clear b2)
    | (go_at_call 14; refine (c_append_full H5.out.d (s := nB) (data := b) rfl (by decide) yb rfl hl2 hqb).mono ?_; rintro e v6 ⟨rfl, h2, t2⟩; have H6 := Lib.hid (H5.out.go h2 t2); clear h2 t2)
    | (go_at_call 14; refine (c_append_full H4.out.d (s := nA) (data := a) rfl (by decide) ya rfl hl1 hqa).mono ?_; rintro e v5 ⟨rfl, h2, t2⟩; have H5 := Lib.hid (H4.out.go h2 t2); clear h2 t2)
    | (go_at_call 13; refine (c_quota H3.out.d n (by omega)).mono ?_; rintro e v4 ⟨rfl, h2, t2⟩; have H4 := Lib.hid (H3.out.go h2 t2); clear h2 t2)
    | (go_at_call 12; refine (c_create H2.out.d (s := nB) rfl (by decide) (by simp only [List.length_cons, List.length_nil]; omega) rfl (m' := [(nA, ⟨ByteArray.empty, 0⟩), (nB, ⟨ByteArray.empty, 0⟩)]) rfl).mono ?_; rintro e v3 ⟨rfl, h2, t2⟩; have H3 := Lib.hid (H2.out.go h2 t2); clear h2 t2)
    | (go_at_call 12; refine (c_create H1.out.d (s := nA) rfl (by decide) (by simp only [List.length_cons, List.length_nil]; omega) rfl (m' := [(nA, ⟨ByteArray.empty, 0⟩)]) rfl).mono ?_; rintro e v2 ⟨rfl, h2, t2⟩; have H2 := Lib.hid (H1.out.go h2 t2); clear h2 t2)
    | (go_at_call 11; refine (c_new (w0 := w) (Below.refl _ _)).mono ?_; rintro e v1 ⟨rfl, h1⟩; have H1 := Lib.hid h1; clear h1))

  go_ret
  exact ⟨by show Ending.returned (Value.bool (!decide ((a.size : Int) ≤ n))) = Ending.returned (Value.bool true); rw [decide_eq_false (by omega)]; rfl, H14.out.b⟩

theorem quota_walk (n : Int) (a b : ByteArray) (_ : (Lit.int IntKind.i64 n).wf = true) (ya : a.size ≤ 140737488351232) (yb : b.size ≤ 140737488351232) (w : World) :
    Calls Tryd.prog 3 #[.int .i64 n, .string a, .string b] w fun e w' => e = .returned (.bool true) ∧ Below w.heap.size w w' := by
  by_cases h1 : n < 0
  · go_enter Tryd.func3, Tryd.ntmps3
    go_wp2_with (go_at_call 10; refine (alive_any _).mono ?_; rintro e v1 ⟨rfl, b2⟩)
    go_ret
    exact ⟨rfl, b2⟩
  by_cases h2 : 9000 < n
  · go_enter Tryd.func3, Tryd.ntmps3
    go_wp2_with (go_at_call 10; refine (alive_any _).mono ?_; rintro e v1 ⟨rfl, b2⟩)
    go_ret
    exact ⟨rfl, b2⟩
  by_cases h3 : (6000 : Int) < (a.size : Int) + (b.size : Int)
  · go_enter Tryd.func3, Tryd.ntmps3
    go_wp2_with (go_at_call 10; refine (alive_any _).mono ?_; rintro e v1 ⟨rfl, b2⟩)
    go_ret
    exact ⟨rfl, b2⟩
  have hn : 0 ≤ n ∧ n ≤ 9000 := by omega
  have hl : (a.size : Int) + (b.size : Int) ≤ 6000 := by omega
  clear h1 h2 h3
  by_cases za : a.size = 0
  · obtain rfl := empty_of za
    have hl' : (0 : Int) + (b.size : Int) ≤ 6000 := by have : (ByteArray.empty.size : Int) = 0 := rfl; omega
    by_cases zb : b.size = 0
    · obtain rfl := empty_of zb
      exact quota_zzz n hn (by decide) w
    by_cases fb : (0 : Int) + (b.size : Int) ≤ n
    · exact quota_zfz b n hn hl' zb fb w
    · exact quota_znz b n hn hl' zb (by omega) w
  by_cases fa : (a.size : Int) ≤ n
  · by_cases zb : b.size = 0
    · obtain rfl := empty_of zb
      exact quota_fzf a n hn (by omega) za fa (by omega) w
    by_cases fb : (a.size : Int) + (b.size : Int) ≤ n
    · exact quota_fff a b n hn hl za zb fa fb (by omega) w
    · exact quota_fnf a b n hn hl za zb fa (by omega) (by omega) w
  · by_cases zb : b.size = 0
    · obtain rfl := empty_of zb
      exact quota_nzn a n hn (by omega) za (by omega) (by omega) w
    by_cases fb : (0 : Int) + (b.size : Int) ≤ n
    · exact quota_nfn a b n hn hl za zb (by omega) fb (by omega) w
    · exact quota_nnn a b n hn hl za zb (by omega) (by omega) (by omega) w
end Go.Proofs.YtjhajlfkiafhgaaDoor
