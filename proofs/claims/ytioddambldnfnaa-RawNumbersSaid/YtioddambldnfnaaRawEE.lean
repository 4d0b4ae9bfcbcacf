/-
  The walk of the law RawNumbers.
-/
import Derived.Test.YtioddambldnfnaaRawP
import Derived.Test.YtioddambldnfnaaRawCC
import Derived.Test.YtioddambldnfnaaRefA
import Derived.Test.YtioddambldnfnaaRefB
import Derived.Test.YtioddambldnfnaaRefC
import Derived.Test.YtioddambldnfnaaRefD
namespace Go.Proofs.Ytioddambldnfnaa
open Go.RowKit

theorem put_tup (v n : Int) : ∃ (s : ByteArray) (e : Int), putAns v n = .tuple #[.string s, .int .i64 e] := by
  unfold putAns; split
  · exact ⟨_, _, rfl⟩
  · exact ⟨_, _, rfl⟩
theorem get_tup (l : List UInt8) : ∃ (x e : Int), getAns l = .tuple #[.int .i64 x, .int .i64 e] := by
  unfold getAns; split
  · exact ⟨_, _, rfl⟩
  · exact ⟨_, _, rfl⟩
theorem num_tup (l : List UInt8) : ∃ (x e : Int), numAns l = .tuple #[.int .i64 x, .int .i64 e] := by
  unfold numAns; split
  · exact ⟨_, _, rfl⟩
  · exact ⟨_, _, rfl⟩
theorem pv_str (v : Int) : ∃ s : ByteArray, pvAns v = .string s := by
  unfold pvAns; split
  · exact ⟨_, rfl⟩
  · exact ⟨_, rfl⟩

set_option maxRecDepth 100000 in
set_option maxHeartbeats 2000000 in
theorem numbers_any (v n : Int) (b s : ByteArray) (hv : (Lit.int .i64 v).wf = true) (_ : (Lit.int .i64 n).wf = true) (hb : b.size ≤ 140737488351232) (hs : s.size ≤ 140737488351232) (w : World) :
    Calls Try.prog 7 #[.int .i64 v, .int .i64 n, .string b, .string s] w fun e w' => e = .returned (.bool true) ∧ Below w.heap.size w w' := by
  obtain ⟨v0, v1⟩ := i64_bounds hv
  have hbl : b.size ≤ maxLen := by unfold maxLen; omega
  have hsl : s.size ≤ maxLen := by unfold maxLen; omega
  obtain ⟨ps, pe, hp⟩ := put_tup v n
  obtain ⟨gx, ge, hg⟩ := get_tup b.data.toList
  obtain ⟨nx, ne, hnum⟩ := num_tup s.data.toList
  obtain ⟨pv, hpv⟩ := pv_str v
  have C1 : ∀ W, Calls Try.prog 14 #[.int .i64 v, .int .i64 n] W fun e w' => e = .returned (.tuple #[.string ps, .int .i64 pe]) ∧ Below W.heap.size W w' := fun W => hp ▸ put_any v n W
  have C2 : ∀ W, Calls Try.prog 17 #[.int .i64 v, .int .i64 n] W fun e w' => e = .returned (.tuple #[.string ps, .int .i64 pe]) ∧ Below W.heap.size W w' := fun W => hp ▸ refput_any v n v1 W
  have C3 : ∀ W, Calls Try.prog 18 #[.string b] W fun e w' => e = .returned (.tuple #[.int .i64 gx, .int .i64 ge]) ∧ W = w' := fun W => hg ▸ get_any b W hbl
  have C4 : ∀ W, Calls Try.prog 19 #[.string b] W fun e w' => e = .returned (.tuple #[.int .i64 gx, .int .i64 ge]) ∧ W = w' := fun W => hg ▸ refget_any b W hbl
  have C7 : ∀ W, Calls Try.prog 21 #[.string s] W fun e w' => e = .returned (.tuple #[.int .i64 nx, .int .i64 ne]) ∧ W = w' := fun W => hnum ▸ number_any s W hsl
  have C8 : ∀ W, Calls Try.prog 22 #[.string s] W fun e w' => e = .returned (.tuple #[.int .i64 nx, .int .i64 ne]) ∧ Below W.heap.size W w' := fun W => hnum ▸ refnumber_any s W hs
  have C9 : ∀ W, Calls Try.prog 15 #[.int .i64 v] W fun e w' => e = .returned (.string pv) ∧ Below W.heap.size W w' := fun W => hpv ▸ putvar_all v v1 W
  have C10 : ∀ W, Calls Try.prog 25 #[.int .i64 v] W fun e w' => e = .returned (.string pv) ∧ Below W.heap.size W w' := fun W => hpv ▸ refputvar_all v v1 W
  have CD : ∀ W, Calls Try.prog 23 #[.int .i64 v] W fun e w' => e = .returned (.string ⟨(Rw.digF v).toArray⟩) ∧ Below W.heap.size W w' := fun W => digits_any v W v0 v1
  have CE : ∀ W, Calls Try.prog 24 #[.int .i64 v] W fun e w' => e = .returned (.string ⟨(Rw.digF v).toArray⟩) ∧ Below W.heap.size W w' := fun W => refdigits_any v W v0 v1
  have C5 : ∀ W, Calls Try.prog 16 #[.string b] W fun e w' => e = .returned (gvAns b.data.toList) ∧ Below W.heap.size W w' := fun W => getvar_any b W hbl
  have C6 : ∀ W, Calls Try.prog 20 #[.string b] W fun e w' => e = .returned (gvAns b.data.toList) ∧ Below W.heap.size W w' := fun W => refgetvar_any b W hb
  obtain ⟨vx, vn, ve, hgv⟩ : ∃ (x y e : Int), gvAns b.data.toList = .tuple #[.int .i64 x, .int .i64 y, .int .i64 e] := ⟨_, _, _, rfl⟩
  rw [hgv] at C5 C6
  obtain ⟨dg, hdg⟩ : ∃ d : ByteArray, d = ⟨(Rw.digF v).toArray⟩ := ⟨_, rfl⟩
  rw [← hdg] at CD CE
  clear hp hg hnum hpv hgv hdg hv hb hs v0 v1 hbl hsl
  go_enter Try.func7, Try.ntmps7
  go_wp2_with fail
  refine (C1 _).mono ?_
  rintro e w1 ⟨rfl, b1⟩
  go_wp2_with fail
  refine (C2 _).mono ?_
  rintro e w2 ⟨rfl, b2⟩
  replace b2 := b1.trans (b2.mono b1.size)
  clear b1
  go_wp2_with fail
  refine (C3 _).mono ?_
  rintro e w' ⟨rfl, rfl⟩
  go_wp2_with fail
  refine (C4 _).mono ?_
  rintro e w' ⟨rfl, rfl⟩
  go_wp2_with fail
  refine (C5 _).mono ?_
  rintro e w3 ⟨rfl, b3⟩
  replace b3 := b2.trans (b3.mono b2.size)
  clear b2
  go_wp2_with fail
  refine (C6 _).mono ?_
  rintro e w4 ⟨rfl, b4⟩
  replace b4 := b3.trans (b4.mono b3.size)
  clear b3
  go_wp2_with fail
  refine (C7 _).mono ?_
  rintro e w' ⟨rfl, rfl⟩
  go_wp2_with fail
  refine (C8 _).mono ?_
  rintro e w5 ⟨rfl, b5⟩
  replace b5 := b4.trans (b5.mono b4.size)
  clear b4
  go_wp2_with fail
  refine (alive_any _).mono ?_
  rintro e w6 ⟨rfl, b6⟩
  replace b6 := b5.trans (b6.mono b5.size)
  clear b5
  go_wp2_with fail
  refine (CD _).mono ?_
  rintro e w7 ⟨rfl, b7⟩
  replace b7 := b6.trans (b7.mono b6.size)
  clear b6
  go_wp2_with fail
  refine (CE _).mono ?_
  rintro e w8 ⟨rfl, b8⟩
  replace b8 := b7.trans (b8.mono b7.size)
  clear b7
  go_wp2_with fail
  refine (C9 _).mono ?_
  rintro e w9 ⟨rfl, b9⟩
  replace b9 := b8.trans (b9.mono b8.size)
  clear b8
  go_wp2_with fail
  refine (C10 _).mono ?_
  rintro e w10 ⟨rfl, b10⟩
  replace b10 := b9.trans (b10.mono b9.size)
  clear b9
  go_wp2
  go_ret
  exact ⟨rfl, b10⟩
end Go.Proofs.Ytioddambldnfnaa
