/-
  The walk of the law RawBytes.
-/
import Derived.Test.YtioddambldnfnaaRawP
import Derived.Test.YtioddambldnfnaaRefE
import Derived.Test.YtioddambldnfnaaRefF
import Derived.Test.YtioddambldnfnaaRefH
namespace Go.Proofs.Ytioddambldnfnaa
open Go.RowKit

theorem unq_tup (l : List UInt8) : ∃ (s : ByteArray) (n e : Int), unqAns l = .tuple #[.string s, .int .i64 n, .int .i64 e] := by
  unfold unqAns; split
  · exact ⟨_, _, _, rfl⟩
  · exact ⟨_, _, _, rfl⟩

set_option maxRecDepth 100000 in
set_option maxHeartbeats 2000000 in
theorem bytes_any (a b : ByteArray) (ha : a.size ≤ 140737488351232) (hb : b.size ≤ 140737488351232) (w : World) :
    Calls Try.prog 9 #[.string a, .string b] w fun e w' => e = .returned (.bool true) ∧ Below w.heap.size w w' := by
  by_cases h9 : 20000 < a.size + b.size
  · go_enter Try.func9, Try.ntmps9
    go_wp2_with fail
    refine (alive_any w).mono ?_
    rintro e w1 ⟨rfl, b1⟩
    go_wp2
    go_ret
    exact ⟨rfl, b1⟩
  · have ha2 : a.size ≤ 20000 := by omega
    have hb2 : b.size ≤ 20000 := by omega
    obtain ⟨us, un, ue, hu⟩ := unq_tup b.data.toList
    have C1 : ∀ W, Calls Try.prog 27 #[.string b] W fun e w' => e = .returned (.tuple #[.string us, .int .i64 un, .int .i64 ue]) ∧ Below W.heap.size W w' := fun W => hu ▸ unquote_any b W hb
    have C2 : ∀ W, Calls Try.prog 28 #[.string b] W fun e w' => e = .returned (.tuple #[.string us, .int .i64 un, .int .i64 ue]) ∧ Below W.heap.size W w' := fun W => hu ▸ refunquote_any b W hb
    obtain ⟨sm, hsm⟩ : ∃ n, n = Rw.sumF a.data.toList := ⟨_, rfl⟩
    have C3 : ∀ W, Calls Try.prog 12 #[.string a] W fun e w' => e = .returned (.int .i64 (sm : Int)) ∧ W = w' := fun W => hsm ▸ sum_any a W (by unfold maxLen; omega)
    have C4 : ∀ W, Calls Try.prog 29 #[.string a] W fun e w' => e = .returned (.int .i64 (sm : Int)) ∧ W = w' := fun W => hsm ▸ refsum_any a W (by unfold maxLen; omega)
    obtain ⟨cm, hcm⟩ : ∃ n, n = Lib.compareBytes a.data.toList b.data.toList := ⟨_, rfl⟩
    have C5 : ∀ W, Calls Try.prog 13 #[.string a, .string b] W fun e w' => e = .returned (.int .i64 cm) ∧ W = w' := fun W => hcm ▸ compare_any a b W
    have C6 : ∀ W, Calls Try.prog 30 #[.string a, .string b] W fun e w' => e = .returned (.int .i64 cm) ∧ Below W.heap.size W w' := fun W => hcm ▸ refcompare_any a b W (by unfold maxLen; omega) (by unfold maxLen; omega)
    obtain ⟨q, hq⟩ : ∃ q : ByteArray, q = ⟨(Rw.quoteF a.data.toList).toArray⟩ := ⟨_, rfl⟩
    have C7 : ∀ W, Calls Try.prog 26 #[.string a] W fun e w' => e = .returned (.string q) ∧ Below W.heap.size W w' := fun W => hq ▸ quote_any a W (by omega)
    have C8 : ∀ W, Calls Try.prog 31 #[.string a] W fun e w' => e = .returned (.string q) ∧ Below W.heap.size W w' := fun W => hq ▸ refquote_any a W (by omega)
    clear hu hsm hcm hq ha hb
    go_enter Try.func9, Try.ntmps9
    go_wp2_with fail
    refine (C1 _).mono ?_
    rintro e w1 ⟨rfl, b1⟩
    go_wp2_with fail
    refine (C2 _).mono ?_
    rintro e w2 ⟨rfl, b2⟩
    replace b2 := b1.trans (b2.mono b1.size)
    clear b1
    go_wp2_with fail
    refine (alive_any _).mono ?_
    rintro e w3 ⟨rfl, b3⟩
    replace b3 := b2.trans (b3.mono b2.size)
    clear b2
    go_wp2_with fail
    refine (C3 _).mono ?_
    rintro e w' ⟨rfl, rfl⟩
    go_wp2_with fail
    refine (C4 _).mono ?_
    rintro e w' ⟨rfl, rfl⟩
    go_wp2_with fail
    refine (C5 _).mono ?_
    rintro e w' ⟨rfl, rfl⟩
    go_wp2_with fail
    refine (C6 _).mono ?_
    rintro e w4 ⟨rfl, b4⟩
    replace b4 := b3.trans (b4.mono b3.size)
    clear b3
    go_wp2_with fail
    refine (C7 _).mono ?_
    rintro e w5 ⟨rfl, b5⟩
    replace b5 := b4.trans (b5.mono b4.size)
    clear b4
    go_wp2_with fail
    refine (C8 _).mono ?_
    rintro e w6 ⟨rfl, b6⟩
    replace b6 := b5.trans (b6.mono b5.size)
    clear b5
    go_wp2
    go_ret
    exact ⟨rfl, b6⟩
end Go.Proofs.Ytioddambldnfnaa
