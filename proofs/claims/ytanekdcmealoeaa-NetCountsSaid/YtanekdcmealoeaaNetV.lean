/-
  The law NetCounts's walk.
-/
import Derived.Test.YtanekdcmealoeaaNetU
namespace Go.Proofs.Ytanekdcmealoeaa
open Go.RowKit Go.Maps

set_option maxRecDepth 100000 in
set_option maxHeartbeats 1000000 in
theorem counts_any (a : Option Addr) (len cap : Nat) (l : List LOp) {W : World} (hl : OpsAt W a len l) (hlen : len ≤ maxLen) (w : World) (hWw : W = w) :
    Calls Try.prog 5 #[.slice a len cap] w fun e w' => e = .returned (.bool true) ∧ Below w.heap.size w w' := by
  subst hWw
  unfold maxLen at hlen
  obtain ⟨hll, hcells, hwf⟩ := hl
  generalize hw : W = w at *
  clear hw
  by_cases h60 : 300 < len
  · clear hcells hwf hll
    go_enter Try.func5, Try.ntmps5
    go_wp2_with fail
    refine (alive_any w).mono ?_
    rintro e w1 ⟨rfl, b1⟩
    go_wp2
    go_ret
    exact ⟨rfl, b1⟩
  · have HC := Lib.hid hcells
    have HLL := Lib.hid hll
    have HW : Hid (∀ o ∈ l, o.wf) := hwf
    have h2 : len ≤ 300 := by omega
    clear hcells hll hwf h60 hlen
    go_enter Try.func5, Try.ntmps5
    go_wp2_with fail
    refine (new_at w 3 (by omega) (by omega)).mono ?_
    rintro _ w0 ⟨nb, rfl, hn0, hb0⟩
    simp only []
    go_wp2
    go_loopw [4, 5, 6] (fun x y z wr => ∃ (i c : Nat) (s : St) (sent came : Int), i ≤ len ∧ x = .int .i64 sent ∧ y = .int .i64 came ∧ z = .int .i64 (i : Int) ∧ NAt w.heap.size wr nb c s ∧ c ≤ i ∧ Cnt s i sent came ∧ Below w.heap.size w wr) (fun _ _ z _ => len - (intOf z).toNat)
    case atStart => exact ⟨0, 0, St.new 3, 0, 0, by omega, rfl, rfl, rfl, hn0, by omega, ⟨rfl, by omega, by omega, by simp [St.new], by simp [St.new], by omega⟩, hb0⟩
    case round =>
      obtain ⟨i, c, s, sent, came, hi, rfl, rfl, rfl, hn, hc, hcnt, hbel⟩ := hrel
      have HN := Lib.hid hn
      have HX := Lib.hid hcnt
      clear hn hn0 hcnt hb0
      by_cases hlt : i < len
      · obtain ⟨b, off, rfl, hb, hcc⟩ : ∃ b off, a = some ⟨b, off, none⟩ ∧ b < w.heap.size ∧ ∀ i (hi : i < l.length), l[i].here w b (off + i * 4) := by
          rcases HC.out with h | h
          · omega
          · exact h
        have hil : i < l.length := by have := HLL.out; omega
        obtain ⟨q0, q1, q2, q3⟩ := hcc i hil
        obtain ⟨hcb0, hcb1, hsb0, hsb1⟩ : 0 ≤ came ∧ came ≤ 300 ∧ 0 ≤ sent ∧ sent ≤ 300 := by obtain ⟨z1, z2, z3, z4, z5, z6⟩ := HX.out; omega
        obtain ⟨ok, hok⟩ : ∃ o, o = l[i] := ⟨_, rfl⟩
        have HO := Lib.hid (HW.out l[i] (List.getElem_mem hil))
        rw [← hok] at q0 q1 q2 q3 HO
        clear hok hcc
        obtain ⟨k, p, q, d⟩ := ok
        simp only [] at q0 q1 q2 q3
        have HQ := Lib.hid (And.intro q0 (And.intro q1 (And.intro q2 q3)))
        have r0 := (hbel.cell (p := ⟨b, off + i * 4, none⟩) hb).trans q0
        have r1 := (hbel.cell (p := ⟨b, off + i * 4 + 1, none⟩) hb).trans q1
        have r2 := (hbel.cell (p := ⟨b, off + i * 4 + 2, none⟩) hb).trans q2
        have r3 := (hbel.cell (p := ⟨b, off + i * 4 + 3, none⟩) hb).trans q3
        clear q0 q1 q2 q3
        by_cases hbig : 1000 < d.size
        · go_wp2_with fail
          refine (alive_any wr).mono ?_
          rintro e w1 ⟨rfl, b1⟩
          go_wp2
          go_ret
          exact ⟨rfl, hbel.trans (b1.mono hbel.size)⟩
        · have hd3 : d.size ≤ 1000 := by omega
          by_cases hk1 : k = 1
          · subst hk1
            go_wp2_with fail
            have rd1 : wr.drew.cell? ⟨b, off + i * 4 + 1, none⟩ = some (.int .i64 p) := r1
            have rd2 : wr.drew.cell? ⟨b, off + i * 4 + 2, none⟩ = some (.int .i64 q) := r2
            have rd3 : wr.drew.cell? ⟨b, off + i * 4 + 3, none⟩ = some (.string d) := r3
            have hn0 := Lib.hid (show NAt w.heap.size wr.drew nb c s from HN.out.drew)
            by_cases h0 : s.sendE p q d = 0
            · go_region_held3 (fun w' => w'.cell? ⟨b, off + i * 4 + 1, none⟩ = some (.int .i64 p) ∧ w'.cell? ⟨b, off + i * 4 + 2, none⟩ = some (.int .i64 q) ∧ w'.cell? ⟨b, off + i * 4 + 3, none⟩ = some (.string d)) (first | exact ⟨rd1, rd2, rd3⟩ | exact ⟨v1, v2, v3⟩)
                (first | (go_at_call 10; refine (send_at hn0.out p q d).mono ?_; rintro _ w1 ⟨rfl, hn1, hb1⟩; rw [h0]; have v1 := (hb1.cell (p := ⟨b, off + i * 4 + 1, none⟩) hb).trans rd1; have v2 := (hb1.cell (p := ⟨b, off + i * 4 + 2, none⟩) hb).trans rd2; have v3 := (hb1.cell (p := ⟨b, off + i * 4 + 3, none⟩) hb).trans rd3))
              clear rd1 rd2 rd3 v1 v2 v3 r0 r1 r2 r3
              have HE := Lib.hid (show NAt w.heap.size w1 nb (c) (s.send p q d) from hn1)
              have HCNT : Hid (Cnt (s.send p q d) (i + 1) (sent + 1) (came)) := cnt_send HX.out (by omega) p q d h0
              have HBEL : Hid (Below w.heap.size w w1) := hbel.drew.trans hb1
              obtain ⟨n1, x1, hne, hxe, hsum, hn400, hcame0, hcame1, hx0, hx1, hs1⟩ := cnt_open HCNT.out
              clear hn1 hb1
              go_wp2_with (first | (go_at_call 12; refine (len_at HE.out).mono ?_; rintro _ _ ⟨rfl, rfl⟩; rw [hne]) | (go_at_call 13; refine (lost_at HE.out).mono ?_; rintro _ _ ⟨rfl, rfl⟩; rw [hxe]))
              go_roundw
              case rel => exact ⟨i + 1, c, (s.send p q d), sent + 1, came, by omega, by first | rfl | rw [hsum], by go_num, by go_num, HE.out, by omega, HCNT.out, HBEL.out⟩
              case measure => simp [intOf]; omega
            · have hsn := cnt_nosend p q d h0
              obtain ⟨er, he, her⟩ : ∃ er, s.sendE p q d = er ∧ (er == 0) = false := ⟨_, rfl, by simpa using h0⟩
              clear h0
              go_region_held3 (fun w' => w'.cell? ⟨b, off + i * 4 + 1, none⟩ = some (.int .i64 p) ∧ w'.cell? ⟨b, off + i * 4 + 2, none⟩ = some (.int .i64 q) ∧ w'.cell? ⟨b, off + i * 4 + 3, none⟩ = some (.string d)) (first | exact ⟨rd1, rd2, rd3⟩ | exact ⟨v1, v2, v3⟩)
                (first | (go_at_call 10; refine (send_at hn0.out p q d).mono ?_; rintro _ w1 ⟨rfl, hn1, hb1⟩; rw [he]; have v1 := (hb1.cell (p := ⟨b, off + i * 4 + 1, none⟩) hb).trans rd1; have v2 := (hb1.cell (p := ⟨b, off + i * 4 + 2, none⟩) hb).trans rd2; have v3 := (hb1.cell (p := ⟨b, off + i * 4 + 3, none⟩) hb).trans rd3))
              clear rd1 rd2 rd3 v1 v2 v3 r0 r1 r2 r3
              rw [hsn] at hn1
              have HE := Lib.hid (show NAt w.heap.size w1 nb (c) s from hn1)
              have HCNT : Hid (Cnt s (i + 1) (sent) (came)) := cnt_same HX.out
              have HBEL : Hid (Below w.heap.size w w1) := hbel.drew.trans hb1
              obtain ⟨n1, x1, hne, hxe, hsum, hn400, hcame0, hcame1, hx0, hx1, hs1⟩ := cnt_open HCNT.out
              clear hn1 hb1
              go_wp2_with (first | (go_at_call 12; refine (len_at HE.out).mono ?_; rintro _ _ ⟨rfl, rfl⟩; rw [hne]) | (go_at_call 13; refine (lost_at HE.out).mono ?_; rintro _ _ ⟨rfl, rfl⟩; rw [hxe]))
              go_roundw
              case rel => exact ⟨i + 1, c, s, sent, came, by omega, by first | rfl | rw [hsum], by go_num, by go_num, HE.out, by omega, HCNT.out, HBEL.out⟩
              case measure => simp [intOf]; omega
          · have e1 : (k == 1) = false := by simpa using hk1
            by_cases hk3 : k = 3
            · subst hk3
              cases h0 : s.has p with
              | true =>
                obtain ⟨ha, hcn⟩ := cnt_deliver HX.out p h0
                have HCN := Lib.hid hcn
                clear hcn
                go_wp2_with (go_at_call 11; refine (deliver_at HN.out p).mono ?_; rintro _ w1 ⟨rfl, hn1, hb1⟩; rw [ha])
                have HE := Lib.hid (show NAt w.heap.size w1 nb (c) (s.deliver p) from hn1)
                have HCNT : Hid (Cnt (s.deliver p) (i + 1) (sent) (came + 1)) := HCN.out
                have HBEL : Hid (Below w.heap.size w w1) := hbel.trans hb1
                obtain ⟨n1, x1, hne, hxe, hsum, hn400, hcame0, hcame1, hx0, hx1, hs1⟩ := cnt_open HCNT.out
                clear hn1 hb1
                go_wp2_with (first | (go_at_call 12; refine (len_at HE.out).mono ?_; rintro _ _ ⟨rfl, rfl⟩; rw [hne]) | (go_at_call 13; refine (lost_at HE.out).mono ?_; rintro _ _ ⟨rfl, rfl⟩; rw [hxe]))
                go_roundw
                case rel => exact ⟨i + 1, c, (s.deliver p), sent, came + 1, by omega, by first | rfl | rw [hsum], by go_num, by go_num, HE.out, by omega, HCNT.out, HBEL.out⟩
                case measure => simp [intOf]; omega
              | false =>
                obtain ⟨ha, hcn⟩ := cnt_nodeliver p h0
                go_wp2_with (go_at_call 11; refine (deliver_at HN.out p).mono ?_; rintro _ w1 ⟨rfl, hn1, hb1⟩; rw [ha])
                rw [hcn] at hn1
                clear hcn
                have HE := Lib.hid (show NAt w.heap.size w1 nb (c) s from hn1)
                have HCNT : Hid (Cnt s (i + 1) (sent) (came)) := cnt_same HX.out
                have HBEL : Hid (Below w.heap.size w w1) := hbel.trans hb1
                obtain ⟨n1, x1, hne, hxe, hsum, hn400, hcame0, hcame1, hx0, hx1, hs1⟩ := cnt_open HCNT.out
                clear hn1 hb1
                go_wp2_with (first | (go_at_call 12; refine (len_at HE.out).mono ?_; rintro _ _ ⟨rfl, rfl⟩; rw [hne]) | (go_at_call 13; refine (lost_at HE.out).mono ?_; rintro _ _ ⟨rfl, rfl⟩; rw [hxe]))
                go_roundw
                case rel => exact ⟨i + 1, c, s, sent, came, by omega, by first | rfl | rw [hsum], by go_num, by go_num, HE.out, by omega, HCNT.out, HBEL.out⟩
                case measure => simp [intOf]; omega
            · have e3 : (k == 3) = false := by simpa using hk3
              by_cases hk4 : k = 4
              · subst hk4
                have HCN := Lib.hid (cnt_drop HX.out (by omega) p)
                go_wp2_with (go_at_call 16; refine (drop_at HN.out p).mono ?_; rintro _ w1 ⟨rfl, hn1, hb1⟩; simp only [])
                have HE := Lib.hid (show NAt w.heap.size w1 nb (c) (s.drop p) from hn1)
                have HCNT : Hid (Cnt (s.drop p) (i + 1) (sent) (came)) := HCN.out
                have HBEL : Hid (Below w.heap.size w w1) := hbel.trans hb1
                obtain ⟨n1, x1, hne, hxe, hsum, hn400, hcame0, hcame1, hx0, hx1, hs1⟩ := cnt_open HCNT.out
                clear hn1 hb1
                go_wp2_with (first | (go_at_call 12; refine (len_at HE.out).mono ?_; rintro _ _ ⟨rfl, rfl⟩; rw [hne]) | (go_at_call 13; refine (lost_at HE.out).mono ?_; rintro _ _ ⟨rfl, rfl⟩; rw [hxe]))
                go_roundw
                case rel => exact ⟨i + 1, c, (s.drop p), sent, came, by omega, by first | rfl | rw [hsum], by go_num, by go_num, HE.out, by omega, HCNT.out, HBEL.out⟩
                case measure => simp [intOf]; omega
              · have e4 : (k == 4) = false := by simpa using hk4
                by_cases hk5 : k = 5
                · subst hk5
                  rcases cnt_twice HX.out p with ⟨ha, hcn⟩ | ⟨ha, hcn⟩
                  · have HCN := Lib.hid hcn
                    clear hcn
                    go_wp2_with (go_at_call 17; refine (twice_at HN.out p).mono ?_; rintro _ w1 ⟨rfl, hn1, hb1⟩; rw [ha])
                    have HE := Lib.hid (show NAt w.heap.size w1 nb (c) (s.twice p) from hn1)
                    have HCNT : Hid (Cnt (s.twice p) (i + 1) (sent + 1) (came)) := HCN.out
                    have HBEL : Hid (Below w.heap.size w w1) := hbel.trans hb1
                    obtain ⟨n1, x1, hne, hxe, hsum, hn400, hcame0, hcame1, hx0, hx1, hs1⟩ := cnt_open HCNT.out
                    clear hn1 hb1
                    go_wp2_with (first | (go_at_call 12; refine (len_at HE.out).mono ?_; rintro _ _ ⟨rfl, rfl⟩; rw [hne]) | (go_at_call 13; refine (lost_at HE.out).mono ?_; rintro _ _ ⟨rfl, rfl⟩; rw [hxe]))
                    go_roundw
                    case rel => exact ⟨i + 1, c, (s.twice p), sent + 1, came, by omega, by first | rfl | rw [hsum], by go_num, by go_num, HE.out, by omega, HCNT.out, HBEL.out⟩
                    case measure => simp [intOf]; omega
                  · have HCN := Lib.hid hcn
                    obtain ⟨er, he, her⟩ : ∃ er, s.twiceE p = er ∧ (er == 0) = false := ⟨_, rfl, by rcases ha with h | h <;> rw [h] <;> rfl⟩
                    clear hcn ha
                    go_wp2_with (go_at_call 17; refine (twice_at HN.out p).mono ?_; rintro _ w1 ⟨rfl, hn1, hb1⟩; rw [he])
                    have HE := Lib.hid (show NAt w.heap.size w1 nb (c) (s.twice p) from hn1)
                    have HCNT : Hid (Cnt (s.twice p) (i + 1) (sent) (came)) := HCN.out
                    have HBEL : Hid (Below w.heap.size w w1) := hbel.trans hb1
                    obtain ⟨n1, x1, hne, hxe, hsum, hn400, hcame0, hcame1, hx0, hx1, hs1⟩ := cnt_open HCNT.out
                    clear hn1 hb1
                    go_wp2_with (first | (go_at_call 12; refine (len_at HE.out).mono ?_; rintro _ _ ⟨rfl, rfl⟩; rw [hne]) | (go_at_call 13; refine (lost_at HE.out).mono ?_; rintro _ _ ⟨rfl, rfl⟩; rw [hxe]))
                    go_roundw
                    case rel => exact ⟨i + 1, c, (s.twice p), sent, came, by omega, by first | rfl | rw [hsum], by go_num, by go_num, HE.out, by omega, HCNT.out, HBEL.out⟩
                    case measure => simp [intOf]; omega
                · have e5 : (k == 5) = false := by simpa using hk5
                  by_cases hk67 : k = 6 ∨ k = 7
                  · rcases hk67 with rfl | rfl
                    · have e6 : (6 == 6) = true := by decide
                      have rd0 : wr.drew.cell? ⟨b, off + i * 4, none⟩ = some (.int .i64 6) := r0
                      have rd1 : wr.drew.cell? ⟨b, off + i * 4 + 1, none⟩ = some (.int .i64 p) := r1
                      have rd2 : wr.drew.cell? ⟨b, off + i * 4 + 2, none⟩ = some (.int .i64 q) := r2
                      have hn0 := Lib.hid (show NAt w.heap.size wr.drew nb c s from HN.out.drew)
                      go_wp2_with fail
                      go_region_held3 (fun w' => w'.cell? ⟨b, off + i * 4 + 1, none⟩ = some (.int .i64 p) ∧ w'.cell? ⟨b, off + i * 4 + 2, none⟩ = some (.int .i64 q) ∧ w'.cell? ⟨b, off + i * 4, none⟩ = some (.int .i64 6)) (first | exact ⟨rd1, rd2, rd0⟩ | exact ⟨v1, v2, v0⟩)
                        (first | (go_at_call 14; refine (cut_at hn0.out p q true (by omega)).mono ?_; rintro _ w1 ⟨rfl, hn1, hb1⟩; simp only []; have v0 := (hb1.cell (p := ⟨b, off + i * 4, none⟩) hb).trans rd0; have v1 := (hb1.cell (p := ⟨b, off + i * 4 + 1, none⟩) hb).trans rd1; have v2 := (hb1.cell (p := ⟨b, off + i * 4 + 2, none⟩) hb).trans rd2))
                      clear rd0 rd1 rd2 v0 v1 v2 r0 r1 r2 r3
                      have HE := Lib.hid (show NAt w.heap.size w1 nb (c + 1) (s.cuts p q true) from hn1)
                      have HCNT : Hid (Cnt (s.cuts p q true) (i + 1) (sent) (came)) := cnt_cuts HX.out p q true
                      have HBEL : Hid (Below w.heap.size w w1) := hbel.drew.trans hb1
                      obtain ⟨n1, x1, hne, hxe, hsum, hn400, hcame0, hcame1, hx0, hx1, hs1⟩ := cnt_open HCNT.out
                      clear hn1 hb1
                      go_wp2_with (first | (go_at_call 12; refine (len_at HE.out).mono ?_; rintro _ _ ⟨rfl, rfl⟩; rw [hne]) | (go_at_call 13; refine (lost_at HE.out).mono ?_; rintro _ _ ⟨rfl, rfl⟩; rw [hxe]))
                      go_roundw
                      case rel => exact ⟨i + 1, c + 1, (s.cuts p q true), sent, came, by omega, by first | rfl | rw [hsum], by go_num, by go_num, HE.out, by omega, HCNT.out, HBEL.out⟩
                      case measure => simp [intOf]; omega
                    · have e6 : (7 == 6) = false := by decide
                      have rd0 : wr.drew.cell? ⟨b, off + i * 4, none⟩ = some (.int .i64 7) := r0
                      have rd1 : wr.drew.cell? ⟨b, off + i * 4 + 1, none⟩ = some (.int .i64 p) := r1
                      have rd2 : wr.drew.cell? ⟨b, off + i * 4 + 2, none⟩ = some (.int .i64 q) := r2
                      have hn0 := Lib.hid (show NAt w.heap.size wr.drew nb c s from HN.out.drew)
                      go_wp2_with fail
                      go_region_held3 (fun w' => w'.cell? ⟨b, off + i * 4 + 1, none⟩ = some (.int .i64 p) ∧ w'.cell? ⟨b, off + i * 4 + 2, none⟩ = some (.int .i64 q) ∧ w'.cell? ⟨b, off + i * 4, none⟩ = some (.int .i64 7)) (first | exact ⟨rd1, rd2, rd0⟩ | exact ⟨v1, v2, v0⟩)
                        (first | (go_at_call 14; refine (cut_at hn0.out p q false (by omega)).mono ?_; rintro _ w1 ⟨rfl, hn1, hb1⟩; simp only []; have v0 := (hb1.cell (p := ⟨b, off + i * 4, none⟩) hb).trans rd0; have v1 := (hb1.cell (p := ⟨b, off + i * 4 + 1, none⟩) hb).trans rd1; have v2 := (hb1.cell (p := ⟨b, off + i * 4 + 2, none⟩) hb).trans rd2))
                      clear rd0 rd1 rd2 v0 v1 v2 r0 r1 r2 r3
                      have HE := Lib.hid (show NAt w.heap.size w1 nb (c + 1) (s.cuts p q false) from hn1)
                      have HCNT : Hid (Cnt (s.cuts p q false) (i + 1) (sent) (came)) := cnt_cuts HX.out p q false
                      have HBEL : Hid (Below w.heap.size w w1) := hbel.drew.trans hb1
                      obtain ⟨n1, x1, hne, hxe, hsum, hn400, hcame0, hcame1, hx0, hx1, hs1⟩ := cnt_open HCNT.out
                      clear hn1 hb1
                      go_wp2_with (first | (go_at_call 12; refine (len_at HE.out).mono ?_; rintro _ _ ⟨rfl, rfl⟩; rw [hne]) | (go_at_call 13; refine (lost_at HE.out).mono ?_; rintro _ _ ⟨rfl, rfl⟩; rw [hxe]))
                      go_roundw
                      case rel => exact ⟨i + 1, c + 1, (s.cuts p q false), sent, came, by omega, by first | rfl | rw [hsum], by go_num, by go_num, HE.out, by omega, HCNT.out, HBEL.out⟩
                      case measure => simp [intOf]; omega
                  · have e6 : (k == 6) = false := by simp; omega
                    have e7 : (k == 7) = false := by simp; omega
                    have hn1 := HN.out
                    have hb1 := hbel
                    clear hk67
                    go_wp2_with fail
                    have HE := Lib.hid (show NAt w.heap.size wr nb (c) s from hn1)
                    have HCNT : Hid (Cnt s (i + 1) (sent) (came)) := cnt_same HX.out
                    have HBEL : Hid (Below w.heap.size w wr) := hb1
                    obtain ⟨n1, x1, hne, hxe, hsum, hn400, hcame0, hcame1, hx0, hx1, hs1⟩ := cnt_open HCNT.out
                    clear hn1 hb1
                    go_wp2_with (first | (go_at_call 12; refine (len_at HE.out).mono ?_; rintro _ _ ⟨rfl, rfl⟩; rw [hne]) | (go_at_call 13; refine (lost_at HE.out).mono ?_; rintro _ _ ⟨rfl, rfl⟩; rw [hxe]))
                    go_roundw
                    case rel => exact ⟨i + 1, c, s, sent, came, by omega, by first | rfl | rw [hsum], by go_num, by go_num, HE.out, by omega, HCNT.out, HBEL.out⟩
                    case measure => simp [intOf]; omega

      · obtain rfl : i = len := by omega
        go_wp2_with fail
        refine (alive_any wr).mono ?_
        rintro e w1 ⟨rfl, b1⟩
        go_wp2
        go_ret
        exact ⟨rfl, hbel.trans (b1.mono hbel.size)⟩
end Go.Proofs.Ytanekdcmealoeaa
