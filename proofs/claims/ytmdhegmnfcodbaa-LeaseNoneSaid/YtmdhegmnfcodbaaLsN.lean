/-
  LeaseHolds: what holds of the leases that are held; its walk.
-/
import Derived.Test.YtmdhegmnfcodbaaOpenOps
namespace Go.Proofs.Ytmdhegmnfcodbaa
open Go.RowKit
variable {w w' w0 w1 w2 w3 w4 : World} {mb lb B : Nat} {ob : Option Nat} {m : Lm} {last now : Int} {H : List Lv} {v v' : Value}

/-- What holds of the leases H that are held. -/
structure HInv (H : List Lv) (m : Lm) (last now : Int) : Prop where
  len : ∀ h ∈ H, h.vs.length = 2
  le : ∀ h ∈ H, h.id ≤ last
  one : ∀ h ∈ H, ∀ p ∈ m, p.1 = h.id → core p.2 = core h
  has : ∀ h ∈ H, now < h.till → ∃ p ∈ m, p.1 = h.id
  two : ∀ p ∈ m, p.2.vs.length = 2
theorem HInv.later (h : HInv H m last now) {n2 : Int} (hn : now ≤ n2) : HInv H m last n2 := ⟨h.len, h.le, h.one, fun x hx ht => h.has x hx (by omega), h.two⟩
theorem live_mem {n2 : Int} {p : Int × Lv} : p ∈ live n2 m ↔ p ∈ m ∧ n2 < p.2.till := by
  unfold live
  rw [List.mem_filter]
  simp
theorem till_eq {x y : Lv} (h : core x = core y) : x.till = y.till := congrArg (fun c => c.2.2) h
theorem HInv.live (h : HInv H m last now) : HInv H (live now m) last now :=
  ⟨h.len, h.le, fun x hx p hp => h.one x hx p (live_mem.1 hp).1, fun x hx ht => by
    obtain ⟨p, hp, he⟩ := h.has x hx ht
    exact ⟨p, live_mem.2 ⟨hp, by rw [till_eq (h.one x hx p hp he)]; exact ht⟩, he⟩, fun p hp => h.two p (live_mem.1 hp).1⟩
/-- One is acquired, got, and held. -/
theorem HInv.add (h : HInv H m last now) (hk : ∀ p ∈ m, p.1 ≤ last) {x y : Lv} (hx : x.vs.length = 2) (hid : x.id = last + 1) (hc : core y = core x) : HInv (H ++ [y]) (m ++ [(last + 1, x)]) (last + 1) now := by
  have hyi : y.id = last + 1 := by rw [← hid]; exact congrArg (fun c => c.1) hc
  have hyv : y.vs = x.vs := congrArg (fun c => c.2.1) hc
  refine ⟨fun z hz => ?_, fun z hz => ?_, fun z hz p hp he => ?_, fun z hz ht => ?_, fun p hp => ?_⟩
  · rcases List.mem_append.1 hz with hz | hz
    · exact h.len z hz
    · rw [List.mem_singleton.1 hz, hyv]; exact hx
  · rcases List.mem_append.1 hz with hz | hz
    · have := h.le z hz; omega
    · rw [List.mem_singleton.1 hz]; omega
  · rcases List.mem_append.1 hz with hz | hz <;> rcases List.mem_append.1 hp with hp | hp
    · exact h.one z hz p hp he
    · rw [List.mem_singleton.1 hp] at he
      have := h.le z hz
      have he' : last + 1 = z.id := he
      omega
    · rw [List.mem_singleton.1 hz] at he
      have := hk p hp
      omega
    · rw [List.mem_singleton.1 hz, List.mem_singleton.1 hp]; exact hc.symm
  · rcases List.mem_append.1 hz with hz | hz
    · obtain ⟨p, hp, he⟩ := h.has z hz ht
      exact ⟨p, List.mem_append_left _ hp, he⟩
    · rw [List.mem_singleton.1 hz]
      exact ⟨_, List.mem_append_right _ (List.mem_singleton.2 rfl), hyi.symm⟩
  · rcases List.mem_append.1 hp with hp | hp
    · exact h.two p hp
    · rw [List.mem_singleton.1 hp]; exact hx
/-- What was over is gone. -/
theorem HInv.gone (h : HInv H m last now) {x : Lv} (hx : x ∈ H) (ht : x.till ≤ now) : getL (Go.Proofs.Ytmdhegmnfcodbaa.live now m) x.id = none := by
  cases hg : getL (Go.Proofs.Ytmdhegmnfcodbaa.live now m) x.id with
  | none => rfl
  | some y =>
    have h1 := live_mem.1 (getL_in hg)
    have h2 := till_eq (h.one x hx _ h1.1 rfl)
    have h3 : now < y.till := h1.2
    have h4 : y.till = x.till := h2
    omega
theorem min_le_fold : ∀ (l : List (List Int)) (a : List Int) (k : Nat), a.length = k → (∀ b ∈ l, b.length = k) → ∀ (i : Nat) (hi : i < k), (l.foldl meetV a).length = k ∧ (∀ x, (l.foldl meetV a)[i]? = some x → (∀ y, a[i]? = some y → x ≤ y) ∧ ∀ b ∈ l, ∀ y, b[i]? = some y → x ≤ y)
  | [], a, k, ha, _, i, hi => ⟨ha, fun x hx => ⟨fun y hy => by rw [List.foldl_nil] at hx; rw [hx] at hy; injection hy with hy; omega, fun b hb => by simp at hb⟩⟩
  | c :: l, a, k, ha, hb, i, hi => by
    have hc := hb c List.mem_cons_self
    have ih := min_le_fold l (meetV a c) k (by rw [meetV_len (by omega)]; exact ha) (fun b h => hb b (List.mem_cons_of_mem _ h)) i hi
    refine ⟨ih.1, fun x hx => ?_⟩
    obtain ⟨h1, h2⟩ := ih.2 x hx
    have hm : (meetV a c)[i]? = some (min (a[i]'(by omega)) (c[i]'(by omega))) := by
      unfold meetV
      rw [List.getElem?_zipWith, List.getElem?_eq_getElem (by omega), List.getElem?_eq_getElem (by omega)]
    have h3 := h1 _ hm
    refine ⟨fun y hy => ?_, fun b hbm y hy => ?_⟩
    · rw [List.getElem?_eq_getElem (by omega)] at hy
      injection hy with hy
      omega
    · rcases List.mem_cons.1 hbm with rfl | hbm
      · rw [List.getElem?_eq_getElem (by omega)] at hy
        injection hy with hy
        omega
      · exact h2 b hbm y hy
theorem meetAll_le {l : List (List Int)} {k : Nat} (hk : ∀ b ∈ l, b.length = k) {a : List Int} (ha : a ∈ l) : leqV (meetAll l) a := by
  cases l with
  | nil => simp at ha
  | cons c l =>
    have hc := hk c List.mem_cons_self
    have hl : ∀ b ∈ l, b.length = k := fun b h => hk b (List.mem_cons_of_mem _ h)
    have hlen : (meetAll (c :: l)).length = k := meetAll_len (by simp) hk
    refine ⟨by rw [hlen, hk a ha], fun i h1 h2 => ?_⟩
    have := (min_le_fold l c k hc hl i (by omega)).2 _ (List.getElem?_eq_getElem h1)
    rcases List.mem_cons.1 ha with rfl | ha
    · exact this.1 _ (List.getElem?_eq_getElem h2)
    · exact this.2 a ha _ (List.getElem?_eq_getElem h2)
theorem HInv.meet (h : HInv H m last now) (hn : (m.map (·.1)).Nodup) {x : Lv} (hx : x ∈ H) (ht : now < x.till) : leqV (meetAll ((sortM m).map (·.vs))) x.vs := by
  obtain ⟨p, hp, he⟩ := h.has x hx ht
  have hc := h.one x hx p hp he
  have hv : p.2.vs = x.vs := congrArg (fun c => c.2.1) hc
  rw [← hv]
  refine meetAll_le (k := 2) (fun b hb => ?_) (List.mem_map.2 ⟨p.2, (sortM_mem hn).2 ⟨p, hp, rfl⟩, rfl⟩)
  obtain ⟨y, hy, rfl⟩ := List.mem_map.1 hb
  obtain ⟨q, hq, rfl⟩ := (sortM_mem hn).1 hy
  exact h.two q hq
theorem HInv.got (h : HInv H m last now) (hn : (m.map (·.1)).Nodup) {x : Lv} (hx : x ∈ H) (ht : now < x.till) : ∃ y, getL m x.id = some y ∧ core y = core x := by
  obtain ⟨p, hp, he⟩ := h.has x hx ht
  exact ⟨p.2, by rw [← he]; exact getL_mem hn hp, h.one x hx p hp he⟩

/-- Blocks of leases, with their vectors'. -/
def full (lb : Nat) (ob : Option Nat) (m : Lm) (q : Nat) : Prop := foot lb ob q ∨ ∃ p ∈ m, ∃ off, p.2.sa = some ⟨q, off, none⟩
def heldF (v : Value) (H : List Lv) (q : Nat) : Prop := v.ownBlock = some q ∨ ∃ x ∈ H, x.sl.ownBlock = some q
theorem full_lt (h : LsAt w lb ob m last) {q : Nat} (hq : full lb ob m q) : q < w.heap.size ∨ ∃ p ∈ m, p.2.vs = [] := by
  rcases hq with (rfl | e) | ⟨p, hp, off, e⟩
  · exact .inl h.ltd
  · exact .inl (h.mp.lt e)
  · rcases h.rd p hp with h1 | ⟨b, off2, e2, _, hlt, _⟩
    · exact .inr ⟨p, hp, h1⟩
    · rw [e] at e2; injection e2 with e2; injection e2 with e2; exact .inl (by omega)
theorem LsAt.tn2 (h : LsAt w lb ob m last) {G : Nat → Prop} (ht : Tn G w w') (hG : ∀ q, full lb ob m q → ¬ G q) : LsAt w' lb ob m last :=
  ⟨ht.cell h.c0 (hG _ (.inl (.inl rfl))), ht.cell h.c1 (hG _ (.inl (.inl rfl))), h.mp.tn ht (fun b hb => hG b (.inl (.inr hb))), fun j => (ht.frozen (p := ⟨lb, j, none⟩) h.ltd (hG _ (.inl (.inl rfl)))).trans (h.fz j), fun p hp => by
    refine (h.rd p hp).imp id ?_
    rintro ⟨b, off, ha, hf, hlt, hc⟩
    exact ⟨b, off, ha, hf, Nat.lt_of_lt_of_le hlt ht.size, fun i hi => ht.cell (hc i hi) (hG b (.inr ⟨p, hp, off, ha⟩))⟩, h.ok, h.ne⟩
/-- The leases that are held, apart from those that are there. -/
structure HeldAt (B : Nat) (w : World) (lb : Nat) (ob : Option Nat) (m : Lm) (v : Value) (H : List Lv) : Prop where
  own : LOwn w B v H
  ap : ∀ q, heldF v H q → ¬ full lb ob m q
theorem heldF_lt (h : LOwn w B v H) {q : Nat} (hq : heldF v H q) : q < w.heap.size := by
  rcases hq with e | ⟨x, hx, e⟩
  · exact (h.1.lt q e).2
  · exact ((h.2 x hx).1.lt q e).2
theorem LOwn.tn2 (h : LOwn w B v H) {F : Nat → Prop} (ht : Tn F w w') (hF : ∀ q, heldF v H q → ¬ F q) : LOwn w' B v H :=
  ⟨ht.row h.1 (fun q hq => hF q (.inl hq)), fun x hx => ⟨ht.row (h.2 x hx).1 (fun q hq => hF q (.inr ⟨x, hx, hq⟩)), (h.2 x hx).2⟩⟩
theorem HeldAt.stay (h : HeldAt B w lb ob m v H) (hb : Below w.heap.size w w') : HeldAt B w' lb ob m v H := ⟨h.own.below hb, h.ap⟩
theorem HeldAt.exp (h : HeldAt B w lb ob m v H) (ht : Tn (fun q => ob = some q) w w') (n2 : Int) : HeldAt B w' lb ob (live n2 m) v H :=
  ⟨h.own.tn2 ht (fun q hq e => h.ap q hq (.inl (.inr e))), fun q hq hf => h.ap q hq (by
    rcases hf with hf | ⟨p, hp, off, e⟩
    · exact .inl hf
    · exact .inr ⟨p, (live_mem.1 hp).1, off, e⟩)⟩
theorem HeldAt.acq (h : HeldAt B w lb ob m v H) (ht : Tn (foot lb ob) w w') (n2 : Int) {mb : Nat} (hmb : ob = some mb ∨ w.heap.size ≤ mb) {k : Int} {x : Lv} (hx : ∀ q off, x.sa = some ⟨q, off, none⟩ → w.heap.size ≤ q) : HeldAt B w' lb (some mb) (live n2 m ++ [(k, x)]) v H := by
  refine ⟨h.own.tn2 ht (fun q hq e => h.ap q hq (.inl e)), fun q hq hf => ?_⟩
  have hlt := heldF_lt h.own hq
  rcases hf with (e | e) | ⟨p, hp, off, e⟩
  · exact h.ap q hq (.inl (.inl e))
  · have e := Option.some.inj e
    rcases hmb with h1 | h1
    · exact h.ap q hq (.inl (.inr (by rw [h1, e])))
    · omega
  · rcases List.mem_append.1 hp with hp | hp
    · exact h.ap q hq (.inr ⟨p, (live_mem.1 hp).1, off, e⟩)
    · rw [List.mem_singleton.1 hp] at e
      have := hx q off e
      omega
/-- One more is held. -/
theorem HeldAt.add (h : HeldAt B w lb ob m v H) (hl : LsAt w lb ob m last) (htw : ∀ p ∈ m, p.2.vs ≠ []) (hB : B ≤ w.heap.size) {x : Lv} (hx : Own eVec w1 w.heap.size x.sl x.vs) (hb : Below w.heap.size w w1) (hb2 : Below w1.heap.size w1 w2)
    (ho : Own eLse w3 B v' (H ++ [x])) (hg : w2.grownBy w3 v.ownBlock) (hv : v'.ownBlock = v.ownBlock ∨ v'.ownBlock = some w2.heap.size) : HeldAt B w3 lb ob m v' (H ++ [x]) := by
  refine ⟨h.own.add hB hx hb hb2 ho hg hv, fun q hq hf => ?_⟩
  have hlt : q < w.heap.size := (full_lt hl hf).resolve_right (fun ⟨p, hp, e⟩ => htw p hp e)
  have := hb.size
  have := hb2.size
  rcases hq with e | ⟨y, hy, e⟩
  · rcases hv with h1 | h1
    · exact h.ap q (.inl (by rw [← h1]; exact e)) hf
    · rw [h1] at e; have := Option.some.inj e; omega
  · rcases List.mem_append.1 hy with hy | hy
    · exact h.ap q (.inr ⟨y, hy, e⟩) hf
    · rw [List.mem_singleton.1 hy] at e
      have := (hx.lt q e).1
      omega
theorem LsW.tn2 (h : LsW B w0 w lb ob m last) {G : Nat → Prop} (ht : Tn G w w') (hG : ∀ q, full lb ob m q → ¬ G q) (hB : ∀ q, G q → B ≤ q) : LsW B w0 w' lb ob m last :=
  ⟨h.a.tn2 ht hG, h.b.trans (ht.below h.hz hB), h.hl, h.hm, Nat.le_trans h.hz ht.size⟩
theorem c_acqF (h : LsW B w0 w lb ob m last) (hl : last < 1000000) {xa : Option Addr} {xc n : Nat} {vs : List Int} (hn : vs.length = n) (hx : RdX (foot lb ob) w ⟨0, xa, xc, vs, 0⟩) (hv : validB vs = true) (ttl nw : Int) (hr : rightB ttl nw = true) :
    Calls Try.prog 8 #[.pointer (some ⟨lb, 0, none⟩), .slice xa n xc, .int .i64 ttl, .int .i64 nw] w fun e w' =>
      (16 ≤ (live nw m).length ∧ e = .returned (.tuple #[.int .i64 0, .int .i64 24]) ∧ Below w.heap.size w w') ∨
      ((live nw m).length < 16 ∧ e = .returned (.tuple #[.int .i64 (last + 1), .int .i64 0]) ∧ AcqOk w w' lb ob m last nw vs (tillZ ttl nw)) := by
  subst hn
  cases ob with
  | none => exact acquire_go_none h.a hl hx hv ttl nw hr
  | some mb => exact acquire_go_some h.a hl hx hv ttl nw hr
theorem c_acq_full (h : LsW B w0 w lb ob m last) (hl : last < 1000000) {xa : Option Addr} {xc n : Nat} {vs : List Int} (hn : vs.length = n) (hx : RdX (foot lb ob) w ⟨0, xa, xc, vs, 0⟩) (hv : validB vs = true) (ttl nw : Int) (hr : rightB ttl nw = true) (hf : 16 ≤ (live nw m).length) :
    Calls Try.prog 8 #[.pointer (some ⟨lb, 0, none⟩), .slice xa n xc, .int .i64 ttl, .int .i64 nw] w fun e w' => e = .returned (.tuple #[.int .i64 0, .int .i64 24]) ∧ Below w.heap.size w w' :=
  (c_acqF h hl hn hx hv ttl nw hr).mono fun e w' h => by
    rcases h with ⟨_, h1, h2⟩ | ⟨h0, _⟩
    · exact ⟨h1, h2⟩
    · omega
/-- One is acquired, beside those that are held. -/
theorem c_acq_held (h : LsW B w0 w lb ob m last) (hh : HeldAt B w lb ob m v H) (hi : HInv H m last now) (hl : last < 1000000) {xa : Option Addr} {xc : Nat} {vs : List Int} (hn : vs.length = 2) (hx : RdX (foot lb ob) w ⟨0, xa, xc, vs, 0⟩) (hv : validB vs = true) (ttl : Int) (hr : rightB ttl now = true) (hf : (live now m).length < 16) :
    Calls Try.prog 8 #[.pointer (some ⟨lb, 0, none⟩), .slice xa 2 xc, .int .i64 ttl, .int .i64 now] w fun e w' => e = .returned (.tuple #[.int .i64 (last + 1), .int .i64 0]) ∧
      ∃ mb x, LsW B w0 w' lb (some mb) (live now m ++ [(last + 1, x)]) (last + 1) ∧ HeldAt B w' lb (some mb) (live now m ++ [(last + 1, x)]) v H ∧ core x = (last + 1, vs, tillZ ttl now) ∧ Tn (foot lb ob) w w' :=
  (c_acqF h hl hn hx hv ttl now hr).mono fun e w' h2 => by
    rcases h2 with ⟨h0, _⟩ | ⟨_, h1, mb, x, h3, h4, h5, h6, h7⟩
    · omega
    · refine ⟨h1, mb, x, ⟨h3, h.b.trans (h6.below h.hz (fun k hk => ?_)), h.hl, fun q hq => ?_, Nat.le_trans h.hz h6.size⟩, hh.acq h6 now h5 h7, h4, h6⟩
      · rcases hk with e | e
        · rw [e]; exact h.hl
        · exact h.hm k e
      · obtain rfl := Option.some.inj hq
        rcases h5 with e | e
        · exact h.hm _ e
        · exact Nat.le_trans h.hz e
theorem leqV_len {a b : List Int} (h : leqV a b) : a.length = b.length := And.left h
/-- What is below all leases, beside those that are held. -/
theorem c_meetB (h : LsW B w0 w lb ob m last) (hi : HInv H m last now) : Calls Try.prog 11 #[.pointer (some ⟨lb, 0, none⟩)] w fun e w' =>
    ∃ a n c ml, e = .returned (.slice a n c) ∧ RdI w' (.slice a n c) ml ∧ (∀ x ∈ H, now < x.till → leqV ml x.vs) ∧ Below w.heap.size w w' := by
  refine (meetAll_any h.a (k := 2) (by omega) (by omega) hi.two).mono ?_
  rintro e w' ⟨v, rfl, h1, h2⟩
  have h3 := h1
  obtain ⟨a, c, rfl, _⟩ := h3
  exact ⟨a, _, c, _, rfl, h1, fun x hx ht => hi.meet h.a.nodup hx ht, h2⟩
theorem c_expH (h : LsW B w0 w lb ob m last) (hh : HeldAt B w lb ob m v H) (hi : HInv H m last now) : Calls Try.prog 10 #[.pointer (some ⟨lb, 0, none⟩), .int .i64 now] w fun e w' =>
    ∃ a n c, e = .returned (.slice a n c) ∧ LsW B w0 w' lb ob (live now m) last ∧ HeldAt B w' lb ob (live now m) v H ∧ HInv H (live now m) last now ∧ Tn (fun q => ob = some q) w w' := by
  refine (expire_any h.a now).mono ?_
  rintro e w' ⟨a, k, c, rfl, _, _, h3, h4⟩
  rw [exp_live h.a.ok h.a.nodup] at h3
  exact ⟨a, k, c, rfl, h.go h3 h4, hh.exp h4 now, hi.live, h4⟩
theorem rdX_ints {W : World} {va : Option Addr} {vn vc : Nat} {vs : List Int} (h : IntsAt W va vn vs) (hw : LsW W.heap.size W w lb ob m last) : RdX (foot lb ob) w ⟨0, va, vc, vs, 0⟩ := by
  rcases h.2.1 with e | ⟨b, off, e, hb, hc⟩
  · exact .inl (List.eq_nil_of_length_eq_zero (h.1.trans e))
  · refine .inr ⟨b, off, e, ?_, Nat.lt_of_lt_of_le hb hw.hz, fun i hi => (hw.b.cell (p := ⟨b, off + i, none⟩) hb).trans (hc i hi)⟩
    rintro (e2 | e2)
    · have := hw.hl; omega
    · have := hw.hm _ e2; omega
theorem idx_ints {W : World} {va : Option Addr} {vn vc : Nat} {vs : List Int} (h : IntsAt W va vn vs) (hw : LsW W.heap.size W w lb ob m last) : RdI w (.slice va vn vc) vs := by
  have := (rdX_ints (vc := vc) h hw).rd
  have e : vs.length = vn := h.1
  rw [← e]
  exact this
end Go.Proofs.Ytmdhegmnfcodbaa
