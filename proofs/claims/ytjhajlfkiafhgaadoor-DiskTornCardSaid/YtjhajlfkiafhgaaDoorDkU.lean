/-
  Disk: how many bytes there are.
-/
import Derived.Test.YtjhajlfkiafhgaaDoorDkL
namespace Go.Proofs.YtjhajlfkiafhgaaDoor
open Go.RowKit
variable {F G : Nat → Prop} {w w' : World} {db mb : Nat} {D D' : Dk}

theorem used_app (a b : Fm) : used (a ++ b) = used a + used b := by unfold used; rw [List.map_append, List.sum_append]
theorem used_cons (p : ByteArray × Fl) (b : Fm) : used (p :: b) = p.2.data.size + used b := by unfold used; rw [List.map_cons, List.sum_cons]
theorem used_le (m : Fm) (h : ∀ p ∈ m, p.2.data.size ≤ 1048576) : used m ≤ m.length * 1048576 := by
  induction m with
  | nil => simp [used]
  | cons p m ih =>
    rw [used_cons, List.length_cons, Nat.add_mul]
    have := ih (fun q hq => h q (List.mem_cons_of_mem _ hq))
    have := h p List.mem_cons_self
    omega

set_option maxRecDepth 100000 in
set_option maxHeartbeats 1000000 in
theorem used_any (h : DkAt F w db mb D) : Calls Tryd.prog 16 #[.pointer (some ⟨db, 0, none⟩)] w fun e w' => e = .returned (.int .i64 (used D.m : Int)) ∧ Below w.heap.size w w' := by
  have c0 := h.c0
  have hub : used D.m ≤ 20971520000 := by
    have h1 := used_le D.m (fun p hp => (h.ok.syn p hp).2)
    have h2 := h.ok.few
    have h3 : D.m.length * 1048576 ≤ 20000 * 1048576 := Nat.mul_le_mul_right _ h2
    omega
  have H := Lib.hid h.m
  obtain ⟨m, hm⟩ : ∃ m, D.m = m := ⟨_, rfl⟩
  rw [hm] at H hub ⊢
  clear h hm
  go_enter Tryd.func16, Tryd.ntmps16
  go_wp2_with (at_range; refine wpl_range rfl _ rfl und_map rfl (show MapV ckN cvF _ (some mb) m from H.out) ?_; intro w1 hr hb1 hz1; have H1 := Lib.hid (And.intro hr hb1); clear hr hb1)
  go_frame
  go_loopw [3, 5] (fun nv _ wr => ∃ todo acc, RngV ckN cvF wr (some mb) w.heap.size m todo ∧ used m = acc + used todo ∧ nv = .int .i64 ((acc : Nat) : Int) ∧ Below w.heap.size w wr) (fun _ _ wr => leftN wr (some mb) w.heap.size)
  case atStart => exact ⟨m, 0, H1.out.1, by omega, rfl, H1.out.2⟩
  case round =>
    obtain ⟨todo, acc, hr, hacc, rfl, hb⟩ := hrel
    have HR := Lib.hid (And.intro hr (And.intro hacc hb))
    have hal : acc ≤ 20971520000 := by omega
    have hrl := hr.lt
    clear hr hacc hb
    go_wp2_with (at_next; refine wpl_next rfl _ rfl rfl HR.out.1 ?_ ?_)
    · intro h0
      have HE := Lib.hid h0
      clear h0
      go_wp2
      go_ret
      refine ⟨?_, HR.out.2.2⟩
      have h5 := HR.out.2.1
      rw [HE.out] at h5
      have h6 : acc = used m := by simp [used] at h5 ⊢; omega
      rw [← h6]
      rfl
    · intro pre nm f post w2 htd hr2 ht2 hz2 hen
      obtain ⟨fd, fs⟩ := f
      try simp only [ckN, cvF] at hen
      have hsz : used todo = fd.size + used (pre ++ post) := by rw [htd, used_app, used_cons, used_app]; show used pre + (fd.size + used post) = _; omega
      have hle : fd.size + acc ≤ 20971520000 := by have := HR.out.2.1; omega
      have hb2 : Below w.heap.size w w2 := HR.out.2.2.trans ((ht2.below HR.out.2.2.size (fun k hk => by omega)))
      have H2 := Lib.hid (And.intro hr2 (And.intro hsz (And.intro hb2 htd)))
      clear hr2 hsz hb2 htd ht2
      try simp only [ckN, cvF]
      go_wp2
      go_roundw
      case rel =>
        have hb3 : Below w2.heap.size w2 (w2.alloc (.cells #[.string fd, .int .i64 (fs : Int)] 51)) := (Below.refl _ _).alloc (Nat.le_refl _) _
        refine ⟨pre ++ post, acc + fd.size, H2.out.1.tn (Tn.ofBelow (F := fun _ => False) hb3) (fun _ _ e => e) (fun e => e), ?_, by go_num, H2.out.2.2.1.trans (hb3.mono H2.out.2.2.1.size)⟩
        have := HR.out.2.1
        have := H2.out.2.1
        omega
      case measure =>
        have hb3 : Below w2.heap.size w2 (w2.alloc (.cells #[.string fd, .int .i64 (fs : Int)] 51)) := (Below.refl _ _).alloc (Nat.le_refl _) _
        have h7 := H2.out.1.tn (Tn.ofBelow (F := fun _ => False) hb3) (fun _ _ e => e) (fun e => e)
        rw [h7.left, HR.out.1.left, H2.out.2.2.2]
        simp
end Go.Proofs.YtjhajlfkiafhgaaDoor
