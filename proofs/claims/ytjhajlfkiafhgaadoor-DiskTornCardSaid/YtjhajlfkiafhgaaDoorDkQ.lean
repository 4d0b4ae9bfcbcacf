/-
  Disk: of a disk without power, and of none.
-/
import Derived.Test.YtjhajlfkiafhgaaDoorDkO
namespace Go.Proofs.YtjhajlfkiafhgaaDoor
open Go.RowKit
variable {F G : Nat → Prop} {w w' : World} {db mb : Nat} {D D' : Dk}

set_option maxRecDepth 100000 in
set_option maxHeartbeats 1000000 in
theorem create_off {o : Option Addr} (h : OnAt w o false) (s : ByteArray) (hs : s.size ≤ 140737488351232) :
    Calls Tryd.prog 12 #[.pointer o, .string s] w fun e w' => e = .returned (.int .i64 20) ∧ Below w.heap.size w w' := by
  have hmf : ∀ (fn : Fn) (first cap : Array Value) (w : World), (Instr.makeFunc fn first cap).run Tryd.prog w = .ok (.func fn first cap) w := fun _ _ _ _ => rfl
  obtain ⟨W1, hW1⟩ : ∃ W1, (w.alloc (.cells #[.pointer o] 23)).alloc (.cells #[.string s] 9) = W1 := ⟨_, rfl⟩
  have b1 : Below w.heap.size w W1 := by rw [← hW1]; exact ((Below.refl _ _).alloc (Nat.le_refl _) _).alloc (by simp) _
  have hdD : W1.cell? ⟨w.heap.size, 0, none⟩ = some (.pointer o) := by rw [← hW1]; simp [go_sem]
  have hd0 : W1.cell? ⟨w.heap.size + 1, 0, none⟩ = some (.string s) := by rw [← hW1]; simp [go_sem]
  have hA := asked_any ((h.below b1).below ((Below.refl _ _).alloc (Nat.le_refl _) (.cells #[.string s] 9))) (rdT_one (w := W1.alloc (.cells #[.string s] 9)) (b := W1.heap.size) (s := s) (by simp [go_sem]) 1) (by simp) (fun x hx => by rw [List.mem_singleton] at hx; subst hx; omega)
  have he : askE false [s] = 20 := rfl
  rw [he] at hA
  have HB := Lib.hid b1
  clear h b1 he
  go_enter Tryd.func12, Tryd.ntmps12
  go_wp2_with (go_at_call 28; refine hA.mono ?_; rintro e w2 ⟨rfl, hb2⟩; have H2 := Lib.hid (show Below w.heap.size w w2 from HB.out.trans ((((Below.refl _ _).alloc (Nat.le_refl _) _).trans (hb2.mono (by simp))).mono HB.out.size)); clear hb2)
  go_ret
  exact ⟨rfl, H2.out⟩

set_option maxRecDepth 100000 in
set_option maxHeartbeats 1000000 in
theorem sync_off {o : Option Addr} (h : OnAt w o false) (s : ByteArray) (hs : s.size ≤ 140737488351232) :
    Calls Tryd.prog 20 #[.pointer o, .string s] w fun e w' => e = .returned (.int .i64 20) ∧ Below w.heap.size w w' := by
  have hmf : ∀ (fn : Fn) (first cap : Array Value) (w : World), (Instr.makeFunc fn first cap).run Tryd.prog w = .ok (.func fn first cap) w := fun _ _ _ _ => rfl
  obtain ⟨W1, hW1⟩ : ∃ W1, (w.alloc (.cells #[.pointer o] 23)).alloc (.cells #[.string s] 9) = W1 := ⟨_, rfl⟩
  have b1 : Below w.heap.size w W1 := by rw [← hW1]; exact ((Below.refl _ _).alloc (Nat.le_refl _) _).alloc (by simp) _
  have hdD : W1.cell? ⟨w.heap.size, 0, none⟩ = some (.pointer o) := by rw [← hW1]; simp [go_sem]
  have hd0 : W1.cell? ⟨w.heap.size + 1, 0, none⟩ = some (.string s) := by rw [← hW1]; simp [go_sem]
  have hA := asked_any ((h.below b1).below ((Below.refl _ _).alloc (Nat.le_refl _) (.cells #[.string s] 9))) (rdT_one (w := W1.alloc (.cells #[.string s] 9)) (b := W1.heap.size) (s := s) (by simp [go_sem]) 1) (by simp) (fun x hx => by rw [List.mem_singleton] at hx; subst hx; omega)
  have he : askE false [s] = 20 := rfl
  rw [he] at hA
  have HB := Lib.hid b1
  clear h b1 he
  go_enter Tryd.func20, Tryd.ntmps20
  go_wp2_with (go_at_call 28; refine hA.mono ?_; rintro e w2 ⟨rfl, hb2⟩; have H2 := Lib.hid (show Below w.heap.size w w2 from HB.out.trans ((((Below.refl _ _).alloc (Nat.le_refl _) _).trans (hb2.mono (by simp))).mono HB.out.size)); clear hb2)
  go_ret
  exact ⟨rfl, H2.out⟩

set_option maxRecDepth 100000 in
set_option maxHeartbeats 1000000 in
theorem remove_off {o : Option Addr} (h : OnAt w o false) (s : ByteArray) (hs : s.size ≤ 140737488351232) :
    Calls Tryd.prog 17 #[.pointer o, .string s] w fun e w' => e = .returned (.int .i64 20) ∧ Below w.heap.size w w' := by
  have hmf : ∀ (fn : Fn) (first cap : Array Value) (w : World), (Instr.makeFunc fn first cap).run Tryd.prog w = .ok (.func fn first cap) w := fun _ _ _ _ => rfl
  obtain ⟨W1, hW1⟩ : ∃ W1, (w.alloc (.cells #[.pointer o] 23)).alloc (.cells #[.string s] 9) = W1 := ⟨_, rfl⟩
  have b1 : Below w.heap.size w W1 := by rw [← hW1]; exact ((Below.refl _ _).alloc (Nat.le_refl _) _).alloc (by simp) _
  have hdD : W1.cell? ⟨w.heap.size, 0, none⟩ = some (.pointer o) := by rw [← hW1]; simp [go_sem]
  have hd0 : W1.cell? ⟨w.heap.size + 1, 0, none⟩ = some (.string s) := by rw [← hW1]; simp [go_sem]
  have hA := asked_any ((h.below b1).below ((Below.refl _ _).alloc (Nat.le_refl _) (.cells #[.string s] 9))) (rdT_one (w := W1.alloc (.cells #[.string s] 9)) (b := W1.heap.size) (s := s) (by simp [go_sem]) 1) (by simp) (fun x hx => by rw [List.mem_singleton] at hx; subst hx; omega)
  have he : askE false [s] = 20 := rfl
  rw [he] at hA
  have HB := Lib.hid b1
  clear h b1 he
  go_enter Tryd.func17, Tryd.ntmps17
  go_wp2_with (go_at_call 28; refine hA.mono ?_; rintro e w2 ⟨rfl, hb2⟩; have H2 := Lib.hid (show Below w.heap.size w w2 from HB.out.trans ((((Below.refl _ _).alloc (Nat.le_refl _) _).trans (hb2.mono (by simp))).mono HB.out.size)); clear hb2)
  go_ret
  exact ⟨rfl, H2.out⟩

set_option maxRecDepth 100000 in
set_option maxHeartbeats 1000000 in
theorem rename_off {o : Option Addr} (h : OnAt w o false) (s : ByteArray) (t : ByteArray) (hs : s.size ≤ 140737488351232) (ht : t.size ≤ 140737488351232) :
    Calls Tryd.prog 22 #[.pointer o, .string s, .string t] w fun e w' => e = .returned (.int .i64 20) ∧ Below w.heap.size w w' := by
  have hmf : ∀ (fn : Fn) (first cap : Array Value) (w : World), (Instr.makeFunc fn first cap).run Tryd.prog w = .ok (.func fn first cap) w := fun _ _ _ _ => rfl
  obtain ⟨W1, hW1⟩ : ∃ W1, ((w.alloc (.cells #[.pointer o] 23)).alloc (.cells #[.string s] 9)).alloc (.cells #[.string t] 9) = W1 := ⟨_, rfl⟩
  have b1 : Below w.heap.size w W1 := by rw [← hW1]; exact (((Below.refl _ _).alloc (Nat.le_refl _) _).alloc (by simp) _).alloc (by simp; omega) _
  have hdD : W1.cell? ⟨w.heap.size, 0, none⟩ = some (.pointer o) := by rw [← hW1]; simp [go_sem]
  have hd0 : W1.cell? ⟨w.heap.size + 1, 0, none⟩ = some (.string s) := by rw [← hW1]; simp [go_sem]
  have hd1 : W1.cell? ⟨w.heap.size + 2, 0, none⟩ = some (.string t) := by rw [← hW1]; simp [go_sem]
  have hA := asked_any ((h.below b1).below ((Below.refl _ _).alloc (Nat.le_refl _) (.cells #[.string s, .string t] 9))) (rdT_two (w := W1.alloc (.cells #[.string s, .string t] 9)) (b := W1.heap.size) (s := s) (t := t) (by simp [go_sem]) (by simp [go_sem]) 2) (by simp) (fun x hx => by simp only [List.mem_cons, List.not_mem_nil, or_false] at hx; rcases hx with rfl | rfl <;> omega)
  have he : askE false [s, t] = 20 := rfl
  rw [he] at hA
  have HB := Lib.hid b1
  clear h b1 he
  go_enter Tryd.func22, Tryd.ntmps22
  go_wp2_with (go_at_call 28; refine hA.mono ?_; rintro e w2 ⟨rfl, hb2⟩; have H2 := Lib.hid (show Below w.heap.size w w2 from HB.out.trans ((((Below.refl _ _).alloc (Nat.le_refl _) _).trans (hb2.mono (by simp))).mono HB.out.size)); clear hb2)
  go_ret
  exact ⟨rfl, H2.out⟩

set_option maxRecDepth 100000 in
set_option maxHeartbeats 1000000 in
theorem append_off {o : Option Addr} (h : OnAt w o false) (s : ByteArray) (data : ByteArray) (hs : s.size ≤ 140737488351232) (hdata : data.size ≤ 140737488351232) :
    Calls Tryd.prog 14 #[.pointer o, .string s, .string data] w fun e w' => e = .returned (.int .i64 20) ∧ Below w.heap.size w w' := by
  have hmf : ∀ (fn : Fn) (first cap : Array Value) (w : World), (Instr.makeFunc fn first cap).run Tryd.prog w = .ok (.func fn first cap) w := fun _ _ _ _ => rfl
  obtain ⟨W1, hW1⟩ : ∃ W1, ((w.alloc (.cells #[.pointer o] 23)).alloc (.cells #[.string s] 9)).alloc (.cells #[.string data] 9) = W1 := ⟨_, rfl⟩
  have b1 : Below w.heap.size w W1 := by rw [← hW1]; exact (((Below.refl _ _).alloc (Nat.le_refl _) _).alloc (by simp) _).alloc (by simp; omega) _
  have hdD : W1.cell? ⟨w.heap.size, 0, none⟩ = some (.pointer o) := by rw [← hW1]; simp [go_sem]
  have hd0 : W1.cell? ⟨w.heap.size + 1, 0, none⟩ = some (.string s) := by rw [← hW1]; simp [go_sem]
  have hd1 : W1.cell? ⟨w.heap.size + 2, 0, none⟩ = some (.string data) := by rw [← hW1]; simp [go_sem]
  have hA := asked_any ((h.below b1).below ((Below.refl _ _).alloc (Nat.le_refl _) (.cells #[.string s] 9))) (rdT_one (w := W1.alloc (.cells #[.string s] 9)) (b := W1.heap.size) (s := s) (by simp [go_sem]) 1) (by simp) (fun x hx => by rw [List.mem_singleton] at hx; subst hx; omega)
  have he : askE false [s] = 20 := rfl
  rw [he] at hA
  have HB := Lib.hid b1
  clear h b1 he
  go_enter Tryd.func14, Tryd.ntmps14
  go_wp2_with (go_at_call 28; refine hA.mono ?_; rintro e w2 ⟨rfl, hb2⟩; have H2 := Lib.hid (show Below w.heap.size w w2 from HB.out.trans ((((Below.refl _ _).alloc (Nat.le_refl _) _).trans (hb2.mono (by simp))).mono HB.out.size)); clear hb2)
  go_ret
  exact ⟨rfl, H2.out⟩

set_option maxRecDepth 100000 in
set_option maxHeartbeats 1000000 in
theorem read_off {o : Option Addr} (h : OnAt w o false) (s : ByteArray) (hs : s.size ≤ 140737488351232) :
    Calls Tryd.prog 15 #[.pointer o, .string s] w fun e w' => e = .returned (.tuple #[.string ByteArray.empty, .int .i64 20]) ∧ Below w.heap.size w w' := by
  have hmf : ∀ (fn : Fn) (first cap : Array Value) (w : World), (Instr.makeFunc fn first cap).run Tryd.prog w = .ok (.func fn first cap) w := fun _ _ _ _ => rfl
  have b1 := Below.refl w.heap.size w
  have hA := asked_any ((h.below b1).below ((Below.refl _ _).alloc (Nat.le_refl _) (.cells #[.string s] 9))) (rdT_one (w := w.alloc (.cells #[.string s] 9)) (b := w.heap.size) (s := s) (by simp [go_sem]) 1) (by simp) (fun x hx => by rw [List.mem_singleton] at hx; subst hx; omega)
  have he : askE false [s] = 20 := rfl
  rw [he] at hA
  have HB := Lib.hid b1
  clear h b1 he
  go_enter Tryd.func15, Tryd.ntmps15
  go_wp2_with (go_at_call 28; refine hA.mono ?_; rintro e w2 ⟨rfl, hb2⟩; have H2 := Lib.hid (show Below w.heap.size w w2 from HB.out.trans ((((Below.refl _ _).alloc (Nat.le_refl _) _).trans (hb2.mono (by simp))).mono HB.out.size)); clear hb2)
  go_ret2
  exact ⟨rfl, H2.out⟩

theorem crash_off {o : Option Addr} (h : OnAt w o false) (v : Value) (flip : Int) : Calls Tryd.prog 18 #[.pointer o, v, .int .i64 flip] w fun e w' => e = .returned (.tuple #[]) ∧ w' = w := by
  have hO := on_at h
  clear h
  go_enter Tryd.func18, Tryd.ntmps18
  go_wp2_with (go_at_call 26; refine hO.mono ?_; rintro e w2 ⟨rfl, rfl⟩)
  (try simp only [Exit.inBlock, Exit.then]); exact bodyPost_ret (results_none rfl _ _ _) rfl ⟨rfl, rfl⟩
theorem list_off {o : Option Addr} (h : OnAt w o false) (s : ByteArray) : Calls Tryd.prog 23 #[.pointer o, .string s] w fun e w' => e = .returned (.slice none 0 0) ∧ Below w.heap.size w w' := by
  have hO := on_at (h.below ((Below.refl _ _).alloc (Nat.le_refl _) (.cells #[.string s] 9)))
  clear h
  go_enter Tryd.func23, Tryd.ntmps23
  go_wp2_with (go_at_call 26; refine hO.mono ?_; rintro e w2 ⟨rfl, rfl⟩)
  go_ret
  exact ⟨rfl, (Below.refl _ _).alloc (Nat.le_refl _) _⟩
theorem restore_nil (w : World) : Calls Tryd.prog 19 #[.pointer none] w fun e w' => e = .returned (.tuple #[]) ∧ w' = w := by
  go_enter Tryd.func19, Tryd.ntmps19
  go_wp2
  go_end0
  exact ⟨rfl, rfl⟩
theorem quota_nil (w : World) (n : Int) : Calls Tryd.prog 13 #[.pointer none, .int .i64 n] w fun e w' => e = .returned (.tuple #[]) ∧ w' = w := by
  go_enter Tryd.func13, Tryd.ntmps13
  go_wp2
  go_end0
  exact ⟨rfl, rfl⟩
theorem fuse_nil (w : World) (n : Int) (v : Value) (flip : Int) : Calls Tryd.prog 25 #[.pointer none, .int .i64 n, v, .int .i64 flip] w fun e w' => e = .returned (.tuple #[]) ∧ w' = w := by
  go_enter Tryd.func25, Tryd.ntmps25
  go_wp2
  (try simp only [Exit.inBlock, Exit.then]); exact bodyPost_ret (results_none rfl _ _ _) rfl ⟨rfl, rfl⟩
theorem acts_nil (w : World) : Calls Tryd.prog 27 #[.pointer none] w fun e w' => e = .returned (.int .i64 0) ∧ w' = w := by
  go_enter Tryd.func27, Tryd.ntmps27
  go_wp2
  go_ret
  exact ⟨rfl, rfl⟩
theorem used_nil (w : World) : Calls Tryd.prog 16 #[.pointer none] w fun e w' => e = .returned (.int .i64 0) ∧ w' = w := by
  go_enter Tryd.func16, Tryd.ntmps16
  go_wp2
  go_ret
  exact ⟨rfl, rfl⟩
theorem twin_nil (w : World) : Calls Tryd.prog 24 #[.pointer none] w fun e w' => e = .returned (.pointer none) ∧ w' = w := by
  go_enter Tryd.func24, Tryd.ntmps24
  go_wp2
  go_ret
  exact ⟨rfl, rfl⟩
theorem acts_at {b : Nat} {n : Int} (h : w.cell? ⟨b, 4, none⟩ = some (.int .i64 n)) : Calls Tryd.prog 27 #[.pointer (some ⟨b, 0, none⟩)] w fun e w' => e = .returned (.int .i64 n) ∧ w' = w := by
  go_enter Tryd.func27, Tryd.ntmps27
  go_wp2
  go_ret
  exact ⟨rfl, rfl⟩
end Go.Proofs.YtjhajlfkiafhgaaDoor
