/- Manifest: the walk of write: a file is written beside, and renamed. -/
import Derived.Test.YtpfibkgmfapnjaaGreatDoorS35
import Derived.Test.YtpfibkgmfapnjaaGreatDoorS31
set_option linter.unusedSimpArgs false
set_option linter.unusedVariables false
namespace Go.Proofs.YtpfibkgmfapnjaaGreatDoor
section
open Go.RowKit
variable {G F:Nat→Prop} {w w':World} {db mb bx nm bb mm:Nat} {D:Dk} {s t b dir:ByteArray}
structure Wm (w:World) (bx nm bb mm db mb:Nat) (dir s b:ByteArray):Prop where
 fx:w.cell? ⟨bx,0,none⟩=some (.pointer (some ⟨mm,0,none⟩))
 fd:w.cell? ⟨mm,0,none⟩=some (.pointer (some ⟨db,0,none⟩))
 fr:w.cell? ⟨mm,1,none⟩=some (.string dir)
 fn:w.cell? ⟨nm,0,none⟩=some (.string s)
 fb:w.cell? ⟨bb,0,none⟩=some (.string b)
 gx:¬ aT db mb bx
 gm:¬ aT db mb mm
 gn:¬ aT db mb nm
 gb:¬ aT db mb bb
theorem Wm.tn (h:Wm w bx nm bb mm db mb dir s b) (t:Tn (aT db mb) w w'):Wm w' bx nm bb mm db mb dir s b:=
 ⟨t.cell h.fx h.gx,t.cell h.fd h.gm,t.cell h.fr h.gm,t.cell h.fn h.gn,t.cell h.fb h.gb,h.gx,h.gm,h.gn,h.gb⟩
theorem Wm.below (h:Wm w bx nm bb mm db mb dir s b) (t:Below w.heap.size w w'):Wm w' bx nm bb mm db mb dir s b:=h.tn (Tn.ofBelow t)
set_option maxHeartbeats 1000000 in
theorem w_mw1 (hw:Wm w bx nm bb mm db mb dir s b) (h:aF F w db mb D) (hon:D.on=true) (ha:D.acts<1000000) (hs:s.size≤140737488351232):
 Calls Tryz.prog 160 #[.pointer (some ⟨bx,0,none⟩),.pointer (some ⟨nm,0,none⟩)] w fun e w'=>e= .returned (.int .i64 (D.create s).1)∧aF F w' db mb (D.create s).2∧Tn (aT db mb) w w':=by
 have HW:=aB (aA hw h)
 have kd:w.drew.cell? ⟨bx,0,none⟩=some (.pointer (some ⟨mm,0,none⟩))∧w.drew.cell? ⟨mm,0,none⟩=some (.pointer (some ⟨db,0,none⟩))∧w.drew.cell? ⟨mm,1,none⟩=some (.string dir)∧w.drew.cell? ⟨nm,0,none⟩=some (.string s)∧w.drew.cell? ⟨bb,0,none⟩=some (.string b):=⟨hw.fx,hw.fd,hw.fr,hw.fn,hw.fb⟩
 have hd:=h.below (Below.refl _ _).drew
 have HD:=aB hd
 clear hw h hd
 go_enter Tryz.func160,Tryz.ntmps160
 go_wp2_with fail
 refine dQ (fun w'=>w'.cell? ⟨bx,0,none⟩=some (.pointer (some ⟨mm,0,none⟩))∧w'.cell? ⟨mm,0,none⟩=some (.pointer (some ⟨db,0,none⟩))∧w'.cell? ⟨mm,1,none⟩=some (.string dir)∧w'.cell? ⟨nm,0,none⟩=some (.string s)∧w'.cell? ⟨bb,0,none⟩=some (.string b)) 6 7 kd (fun hH=>?_)
 refine bU [[0],[1],[2],[3],[4]] hH ?_
 refine bM (i:=5) rfl (fun K hK=>?_)
 go_simp
 go_at_call 161
 with_reducible refine(kV HD.out hon ha s hs).mono ?_
 rintro e w3 ⟨rfl,hd3,ht3⟩
 have kd3:w3.cell? ⟨bx,0,none⟩=some (.pointer (some ⟨mm,0,none⟩))∧w3.cell? ⟨mm,0,none⟩=some (.pointer (some ⟨db,0,none⟩))∧w3.cell? ⟨mm,1,none⟩=some (.string dir)∧w3.cell? ⟨nm,0,none⟩=some (.string s)∧w3.cell? ⟨bb,0,none⟩=some (.string b):=⟨ht3.cell kd.1 HW.out.1.gx,ht3.cell kd.2.1 HW.out.1.gm,ht3.cell kd.2.2.1 HW.out.1.gm,ht3.cell kd.2.2.2.1 HW.out.1.gn,ht3.cell kd.2.2.2.2 HW.out.1.gb⟩
 have H3:=aB (aA hd3 ht3)
 clear hd3 ht3
 refine bH hK kd3 ?_
 clear hK K
 intro hH
 refine eU ?_
 clear hH
 clear kd kd3
 go_wp2_with fail
 go_ret
 exact⟨rfl,H3.out.1,(Tn.drew _).trans H3.out.2⟩
set_option maxHeartbeats 1000000 in
theorem w_mw2 (hw:Wm w bx nm bb mm db mb dir s b) (h:aF F w db mb D) (hon:D.on=true) (ha:D.acts<1000000) (hs:s.size≤140737488351232) (hb:b.size≤140737488351232):
 Calls Tryz.prog 162 #[.pointer (some ⟨bx,0,none⟩),.pointer (some ⟨nm,0,none⟩),.pointer (some ⟨bb,0,none⟩)] w fun e w'=>e= .returned (.int .i64 (D.app s b).1)∧aF F w' db mb (D.app s b).2∧Tn (aT db mb) w w':=by
 have HW:=aB (aA hw h)
 have kd:w.drew.cell? ⟨bx,0,none⟩=some (.pointer (some ⟨mm,0,none⟩))∧w.drew.cell? ⟨mm,0,none⟩=some (.pointer (some ⟨db,0,none⟩))∧w.drew.cell? ⟨mm,1,none⟩=some (.string dir)∧w.drew.cell? ⟨nm,0,none⟩=some (.string s)∧w.drew.cell? ⟨bb,0,none⟩=some (.string b):=⟨hw.fx,hw.fd,hw.fr,hw.fn,hw.fb⟩
 have hd:=h.below (Below.refl _ _).drew
 have HD:=aB hd
 clear hw h hd
 go_enter Tryz.func162,Tryz.ntmps162
 go_wp2_with fail
 refine dQ (fun w'=>w'.cell? ⟨bx,0,none⟩=some (.pointer (some ⟨mm,0,none⟩))∧w'.cell? ⟨mm,0,none⟩=some (.pointer (some ⟨db,0,none⟩))∧w'.cell? ⟨mm,1,none⟩=some (.string dir)∧w'.cell? ⟨nm,0,none⟩=some (.string s)∧w'.cell? ⟨bb,0,none⟩=some (.string b)) 7 8 kd (fun hH=>?_)
 refine bU [[0],[1],[2],[3],[4],[5]] hH ?_
 refine bM (i:=6) rfl (fun K hK=>?_)
 go_simp
 go_at_call 163
 with_reducible refine(kX HD.out hon ha s b hs hb).mono ?_
 rintro e w3 ⟨rfl,hd3,ht3⟩
 have kd3:w3.cell? ⟨bx,0,none⟩=some (.pointer (some ⟨mm,0,none⟩))∧w3.cell? ⟨mm,0,none⟩=some (.pointer (some ⟨db,0,none⟩))∧w3.cell? ⟨mm,1,none⟩=some (.string dir)∧w3.cell? ⟨nm,0,none⟩=some (.string s)∧w3.cell? ⟨bb,0,none⟩=some (.string b):=⟨ht3.cell kd.1 HW.out.1.gx,ht3.cell kd.2.1 HW.out.1.gm,ht3.cell kd.2.2.1 HW.out.1.gm,ht3.cell kd.2.2.2.1 HW.out.1.gn,ht3.cell kd.2.2.2.2 HW.out.1.gb⟩
 have H3:=aB (aA hd3 ht3)
 clear hd3 ht3
 refine bH hK kd3 ?_
 clear hK K
 intro hH
 refine eU ?_
 clear hH
 clear kd kd3
 go_wp2_with fail
 go_ret
 exact⟨rfl,H3.out.1,(Tn.drew _).trans H3.out.2⟩
set_option maxHeartbeats 1000000 in
theorem w_mw3 (hw:Wm w bx nm bb mm db mb dir s b) (h:aF F w db mb D) (hon:D.on=true) (ha:D.acts<1000000) (hs:s.size≤140737488351232):
 Calls Tryz.prog 164 #[.pointer (some ⟨bx,0,none⟩),.pointer (some ⟨nm,0,none⟩)] w fun e w'=>e= .returned (.int .i64 (D.sync s).1)∧aF F w' db mb (D.sync s).2∧Tn (aT db mb) w w':=by
 have HW:=aB (aA hw h)
 have kd:w.drew.cell? ⟨bx,0,none⟩=some (.pointer (some ⟨mm,0,none⟩))∧w.drew.cell? ⟨mm,0,none⟩=some (.pointer (some ⟨db,0,none⟩))∧w.drew.cell? ⟨mm,1,none⟩=some (.string dir)∧w.drew.cell? ⟨nm,0,none⟩=some (.string s)∧w.drew.cell? ⟨bb,0,none⟩=some (.string b):=⟨hw.fx,hw.fd,hw.fr,hw.fn,hw.fb⟩
 have hd:=h.below (Below.refl _ _).drew
 have HD:=aB hd
 clear hw h hd
 go_enter Tryz.func164,Tryz.ntmps164
 go_wp2_with fail
 refine dQ (fun w'=>w'.cell? ⟨bx,0,none⟩=some (.pointer (some ⟨mm,0,none⟩))∧w'.cell? ⟨mm,0,none⟩=some (.pointer (some ⟨db,0,none⟩))∧w'.cell? ⟨mm,1,none⟩=some (.string dir)∧w'.cell? ⟨nm,0,none⟩=some (.string s)∧w'.cell? ⟨bb,0,none⟩=some (.string b)) 6 7 kd (fun hH=>?_)
 refine bU [[0],[1],[2],[3],[4]] hH ?_
 refine bM (i:=5) rfl (fun K hK=>?_)
 go_simp
 go_at_call 157
 with_reducible refine(sync_any HD.out hon ha s hs).mono ?_
 rintro e w3 ⟨rfl,hd3,ht3⟩
 have kd3:w3.cell? ⟨bx,0,none⟩=some (.pointer (some ⟨mm,0,none⟩))∧w3.cell? ⟨mm,0,none⟩=some (.pointer (some ⟨db,0,none⟩))∧w3.cell? ⟨mm,1,none⟩=some (.string dir)∧w3.cell? ⟨nm,0,none⟩=some (.string s)∧w3.cell? ⟨bb,0,none⟩=some (.string b):=⟨ht3.cell kd.1 HW.out.1.gx,ht3.cell kd.2.1 HW.out.1.gm,ht3.cell kd.2.2.1 HW.out.1.gm,ht3.cell kd.2.2.2.1 HW.out.1.gn,ht3.cell kd.2.2.2.2 HW.out.1.gb⟩
 have H3:=aB (aA hd3 ht3)
 clear hd3 ht3
 refine bH hK kd3 ?_
 clear hK K
 intro hH
 refine eU ?_
 clear hH
 clear kd kd3
 go_wp2_with fail
 go_ret
 exact⟨rfl,H3.out.1,(Tn.drew _).trans H3.out.2⟩
set_option maxHeartbeats 1000000 in
theorem w_mw4 (hw:Wm w bx nm bb mm db mb dir s b) (h:aF F w db mb D) (hon:D.on=true) (ha:D.acts<1000000) (hs:s.size≤140737488351232) (hd30:dir.size≤30):
 Calls Tryz.prog 165 #[.pointer (some ⟨bx,0,none⟩),.pointer (some ⟨nm,0,none⟩)] w fun e w'=>e= .returned (.int .i64 (D.rename s (bP dir)).1)∧aF F w' db mb (D.rename s (bP dir)).2∧Tn (aT db mb) w w':=by
 have hsz:(dir++tSnap).size≤140737488351232:=by rw[ByteArray.size_append];show dir.size+6≤_;omega
 have b1:¬ 9223372036854775807<dir.size+6:=by omega
 unfold bP
 have HW:=aB (aA hw h)
 have kd:w.drew.cell? ⟨bx,0,none⟩=some (.pointer (some ⟨mm,0,none⟩))∧w.drew.cell? ⟨mm,0,none⟩=some (.pointer (some ⟨db,0,none⟩))∧w.drew.cell? ⟨mm,1,none⟩=some (.string dir)∧w.drew.cell? ⟨nm,0,none⟩=some (.string s)∧w.drew.cell? ⟨bb,0,none⟩=some (.string b):=⟨hw.fx,hw.fd,hw.fr,hw.fn,hw.fb⟩
 have hd:=h.below (Below.refl _ _).drew
 have HD:=aB hd
 clear hw h hd
 go_enter Tryz.func165,Tryz.ntmps165
 go_wp2_with fail
 refine dQ (fun w'=>w'.cell? ⟨bx,0,none⟩=some (.pointer (some ⟨mm,0,none⟩))∧w'.cell? ⟨mm,0,none⟩=some (.pointer (some ⟨db,0,none⟩))∧w'.cell? ⟨mm,1,none⟩=some (.string dir)∧w'.cell? ⟨nm,0,none⟩=some (.string s)∧w'.cell? ⟨bb,0,none⟩=some (.string b)) 11 12 kd (fun hH=>?_)
 refine bU [[0],[1],[2],[3],[4],[5],[6],[7],[8],[9]] hH ?_
 refine bM (i:=10) rfl (fun K hK=>?_)
 go_simp
 go_at_call 166
 with_reducible refine(rename_any HD.out hon ha s (dir++tSnap) hs hsz).mono ?_
 rintro e w3 ⟨rfl,hd3,ht3⟩
 have kd3:w3.cell? ⟨bx,0,none⟩=some (.pointer (some ⟨mm,0,none⟩))∧w3.cell? ⟨mm,0,none⟩=some (.pointer (some ⟨db,0,none⟩))∧w3.cell? ⟨mm,1,none⟩=some (.string dir)∧w3.cell? ⟨nm,0,none⟩=some (.string s)∧w3.cell? ⟨bb,0,none⟩=some (.string b):=⟨ht3.cell kd.1 HW.out.1.gx,ht3.cell kd.2.1 HW.out.1.gm,ht3.cell kd.2.2.1 HW.out.1.gm,ht3.cell kd.2.2.2.1 HW.out.1.gn,ht3.cell kd.2.2.2.2 HW.out.1.gb⟩
 have H3:=aB (aA hd3 ht3)
 clear hd3 ht3
 refine bH hK kd3 ?_
 clear hK K
 intro hH
 refine eU ?_
 clear hH
 clear kd kd3
 go_wp2_with fail
 go_ret
 exact⟨rfl,H3.out.1,(Tn.drew _).trans H3.out.2⟩
abbrev capM (bx nm bb:Nat):Nat→Array Value
 |1=> #[.pointer (some ⟨bx,0,none⟩),.pointer (some ⟨nm,0,none⟩),.pointer (some ⟨bb,0,none⟩)]
 |_=> #[.pointer (some ⟨bx,0,none⟩),.pointer (some ⟨nm,0,none⟩)]
def mwF:Nat→FuncId
 |0=>160
 |1=>162
 |2=>164
 |_=>165
theorem mwF_enters:∀ i,i<4→∀ args w,(callFunc (mwF i) args).run Tryz.prog w= .ok (.enter (mwF i) args) w
 |0,_=>enters_of Tryz.func160 (by kernel_rfl) rfl
 |1,_=>enters_of Tryz.func162 (by kernel_rfl) rfl
 |2,_=>enters_of Tryz.func164 (by kernel_rfl) rfl
 |3,_=>enters_of Tryz.func165 (by kernel_rfl) rfl
 |n+4,h=>by omega
structure MwC (D:Dk) (s t b:ByteArray) (r1 r2 r3 r4 r5:Int×Dk):Prop where
 h1:D.remove s=r1
 h2:r1.2.create s=r2
 h3:r2.2.app s b=r3
 h4:r3.2.sync s=r4
 h5:r4.2.rename s t=r5
 w:mwr D s t b=if r1.1≠0∧r1.1≠22 then r1 else if r2.1≠0 then fQ r2.2 s r2.1 else if r3.1≠0 then fQ r3.2 s r3.1 else if r4.1≠0 then fQ r4.2 s r4.1 else if r5.1≠0 then fQ r5.2 s r5.1 else r5
theorem mwC (D:Dk) (s t b:ByteArray):∃ r1 r2 r3 r4 r5,MwC D s t b r1 r2 r3 r4 r5:=⟨_,_,_,_,_,rfl,rfl,rfl,rfl,rfl,rfl⟩
def okR (k:Int):Prop:=k=0∨k=22
def mwI (F:Nat→Prop) (db mb:Nat) (W:World) (r1 r2 r3 r4 r5:Int×Dk):Nat→World→Prop
 |0,wr=>Tn (aT db mb) W wr∧aF F wr db mb r1.2∧okR r1.1
 |1,wr=>Tn (aT db mb) W wr∧aF F wr db mb r2.2∧okR r1.1∧r2.1=0
 |2,wr=>Tn (aT db mb) W wr∧aF F wr db mb r3.2∧okR r1.1∧r2.1=0∧r3.1=0
 |3,wr=>Tn (aT db mb) W wr∧aF F wr db mb r4.2∧okR r1.1∧r2.1=0∧r3.1=0∧r4.1=0
 |_,wr=>Tn (aT db mb) W wr∧aF F wr db mb r5.2∧okR r1.1∧r2.1=0∧r3.1=0∧r4.1=0∧r5.1=0
theorem mwI_tn {W wr:World} {r1 r2 r3 r4 r5:Int×Dk}:∀ {i},mwI F db mb W r1 r2 r3 r4 r5 i wr→Tn (aT db mb) W wr
 |0,h=>h.1
 |1,h=>h.1
 |2,h=>h.1
 |3,h=>h.1
 |_+4,h=>h.1
def mwJ (F:Nat→Prop) (db mb:Nat) (W:World) (D:Dk) (s t b:ByteArray) (k:Int) (wr:World):Prop:=∃ D1:Dk,Tn (aT db mb) W wr∧aF F wr db mb D1∧k≠0∧(k≠20→D1.on=true∧D1.acts<1000000)∧mwr D s t b=fQ D1 s k
def MwE (I:World→Prop) (J:Int→World→Prop) (e:Ending) (w':World):Prop:=∃ k:Int,e= .returned (.int .i64 k)∧((k=0∧I w')∨(k≠0∧J k w'))
theorem mw_round {W:World} {r1 r2 r3 r4 r5:Int×Dk} (hc:MwC D s (bP dir) b r1 r2 r3 r4 r5) (hw:Wm W bx nm bb mm db mb dir s b) (hon:D.on=true) (ha:D.acts+10≤1000000) (hs:s.size≤140737488351232) (hb:b.size≤140737488351232) (hd30:dir.size≤30) {i:Nat} (hi:i<4) {wr:World} (hI:mwI F db mb W r1 r2 r3 r4 r5 i wr):
 Calls Tryz.prog (mwF i) (capM bx nm bb i) wr (MwE (mwI F db mb W r1 r2 r3 r4 r5 (i+1)) (mwJ F db mb W D s (bP dir) b)):=by
 have g1:=jR D hon s
 rw[hc.h1]at g1
 have p1:okR r1.1→r1.2.on=true∧r1.2.acts≤D.acts+1:=fun h=>g1.go (by rcases h with h|h<;>omega)
 have q1:okR r1.1→¬ (r1.1≠0∧r1.1≠22):=fun h=>by rcases h with h|h<;>omega
 have p2:okR r1.1→r2.1≠20→r2.2.on=true∧r2.2.acts≤D.acts+2:=fun h h2=>by
  have g2:=jZ r1.2 (p1 h).1 s
  rw[hc.h2]at g2
  have hgo:=g2.go h2
  have:=(p1 h).2
  exact⟨hgo.1,by omega⟩
 have p3:okR r1.1→r2.1=0→r3.1≠20→r3.2.on=true∧r3.2.acts≤D.acts+3:=fun h h2 h3=>by
  have g2:=app_on r2.2 (p2 h (by omega)).1 s b
  rw[hc.h3]at g2
  have hgo:=g2.go h3
  have:=(p2 h (by omega)).2
  exact⟨hgo.1,by omega⟩
 have p4:okR r1.1→r2.1=0→r3.1=0→r4.1≠20→r4.2.on=true∧r4.2.acts≤D.acts+4:=fun h h2 h3 h4=>by
  have g2:=sync_on r3.2 (p3 h h2 (by omega)).1 s
  rw[hc.h4]at g2
  have hgo:=g2.go h4
  have:=(p3 h h2 (by omega)).2
  exact⟨hgo.1,by omega⟩
 have p5:okR r1.1→r2.1=0→r3.1=0→r4.1=0→r5.1≠20→r5.2.on=true∧r5.2.acts≤D.acts+5:=fun h h2 h3 h4 h5=>by
  have g2:=rename_on r4.2 (p4 h h2 h3 (by omega)).1 s (bP dir)
  rw[hc.h5]at g2
  have hgo:=g2.go h5
  have:=(p4 h h2 h3 (by omega)).2
  exact⟨hgo.1,by omega⟩
 match i,hi,hI with
 |0,_,hI=>
  obtain⟨t1,d1,k1⟩:=hI
  refine(w_mw1 (hw.tn t1) d1 (p1 k1).1 (by have:=(p1 k1).2;omega) hs).mono ?_
  rintro e w' ⟨rfl,hd',ht'⟩
  rw[hc.h2]at hd' ⊢
  refine⟨_,rfl,?_⟩
  by_cases h:r2.1=0
  · exact .inl ⟨h,t1.trans ht',hd',k1,h⟩
  · exact .inr ⟨h,_,t1.trans ht',hd',h,fun e=>⟨(p2 k1 e).1,by have:=(p2 k1 e).2;omega⟩,by rw[hc.w,if_neg (q1 k1),if_pos h]⟩
 |1,_,hI=>
  obtain⟨t1,d1,k1,k2⟩:=hI
  refine(w_mw2 (hw.tn t1) d1 (p2 k1 (by omega)).1 (by have:=(p2 k1 (by omega)).2;omega) hs hb).mono ?_
  rintro e w' ⟨rfl,hd',ht'⟩
  rw[hc.h3]at hd' ⊢
  refine⟨_,rfl,?_⟩
  by_cases h:r3.1=0
  · exact .inl ⟨h,t1.trans ht',hd',k1,k2,h⟩
  · exact .inr ⟨h,_,t1.trans ht',hd',h,fun e=>⟨(p3 k1 k2 e).1,by have:=(p3 k1 k2 e).2;omega⟩,by rw[hc.w,if_neg (q1 k1),if_neg (by omega),if_pos h]⟩
 |2,_,hI=>
  obtain⟨t1,d1,k1,k2,k3⟩:=hI
  refine(w_mw3 (hw.tn t1) d1 (p3 k1 k2 (by omega)).1 (by have:=(p3 k1 k2 (by omega)).2;omega) hs).mono ?_
  rintro e w' ⟨rfl,hd',ht'⟩
  rw[hc.h4]at hd' ⊢
  refine⟨_,rfl,?_⟩
  by_cases h:r4.1=0
  · exact .inl ⟨h,t1.trans ht',hd',k1,k2,k3,h⟩
  · exact .inr ⟨h,_,t1.trans ht',hd',h,fun e=>⟨(p4 k1 k2 k3 e).1,by have:=(p4 k1 k2 k3 e).2;omega⟩,by rw[hc.w,if_neg (q1 k1),if_neg (by omega),if_neg (by omega),if_pos h]⟩
 |3,_,hI=>
  obtain⟨t1,d1,k1,k2,k3,k4⟩:=hI
  refine(w_mw4 (hw.tn t1) d1 (p4 k1 k2 k3 (by omega)).1 (by have:=(p4 k1 k2 k3 (by omega)).2;omega) hs hd30).mono ?_
  rintro e w' ⟨rfl,hd',ht'⟩
  rw[hc.h5]at hd' ⊢
  refine⟨_,rfl,?_⟩
  by_cases h:r5.1=0
  · exact .inl ⟨h,t1.trans ht',hd',k1,k2,k3,k4,h⟩
  · exact .inr ⟨h,_,t1.trans ht',hd',h,fun e=>⟨(p5 k1 k2 k3 k4 e).1,by have:=(p5 k1 k2 k3 k4 e).2;omega⟩,by rw[hc.w,if_neg (q1 k1),if_neg (by omega),if_neg (by omega),if_neg (by omega),if_pos h]⟩
abbrev mwV (z:Nat) (i:FuncId):Value:= .func (.func i) #[] #[.pointer (some ⟨z,0,none⟩),.pointer (some ⟨z+2,0,none⟩)]
abbrev mwV3 (z:Nat) (i:FuncId):Value:= .func (.func i) #[] #[.pointer (some ⟨z,0,none⟩),.pointer (some ⟨z+2,0,none⟩),.pointer (some ⟨z+1,0,none⟩)]
set_option maxRecDepth 100000 in
set_option maxHeartbeats 4000000 in
theorem w_mwr (c0:w.cell? ⟨mm,0,none⟩=some (.pointer (some ⟨db,0,none⟩))) (c1:w.cell? ⟨mm,1,none⟩=some (.string dir)) (hnm:¬ aT db mb mm) (h:aF F w db mb D) (hon:D.on=true) (ha:D.acts+10≤1000000) (hb:b.size≤140737488351232) (hd30:dir.size≤30):
 Calls Tryz.prog 57 #[.pointer (some ⟨mm,0,none⟩),.string b] w fun e w'=>e= .returned (.int .i64 (mwr D (bY dir) (bP dir) b).1)∧aF F w' db mb (mwr D (bY dir) (bP dir) b).2∧Tn (aT db mb) w w':=by
 have hmf:∀ (fn:Fn) (first cap:Array Value) (w:World),(Instr.makeFunc fn first cap).run Tryz.prog w= .ok (.func fn first cap) w:=fun _ _ _ _=>rfl
 have hdl:=h.ltd
 have hml:=h.m.lt
 have hlb:=World.block_lt_of_cell? _ _ c0
 obtain⟨s,hs⟩:∃ s,bY dir=s:=⟨_,rfl⟩
 have hs':dir++tNew=s:=hs
 have hsz:s.size≤140737488351232:=by rw[← hs'];rw[ByteArray.size_append];show dir.size+5≤_;omega
 have a1:¬ 9223372036854775807<dir.size+5:=by omega
 obtain⟨r1,r2,r3,r4,r5,hc⟩:=mwC D s (bP dir) b
 rw[hs]
 obtain⟨w1,hw1⟩:∃ w1,w.alloc (.cells #[.pointer (some ⟨mm,0,none⟩)] 26)=w1:=⟨_,rfl⟩
 obtain⟨w2,hw2⟩:∃ w2,w1.alloc (.cells #[.string b] 9)=w2:=⟨_,rfl⟩
 obtain⟨w3,hw3⟩:∃ w3,w2.alloc (.cells #[.string s] 9)=w3:=⟨_,rfl⟩
 have hz1:w1.heap.size=w.heap.size+1:=by rw[← hw1];simp
 have hz2:w2.heap.size=w.heap.size+2:=by rw[← hw2,←hw1];simp
 have hz3:w3.heap.size=w.heap.size+3:=by rw[← hw3,←hw2,←hw1];simp
 have hb2:Below w.heap.size w w2:=by rw[← hw2,←hw1];exact((Below.refl _ _).alloc (Nat.le_refl _) _).alloc (by simp) _
 have hb3:Below w.heap.size w w3:=by rw[← hw3];exact hb2.alloc (by omega) _
 have x1:w2.cell? ⟨w.heap.size,0,none⟩=some (.pointer (some ⟨mm,0,none⟩)):=by rw[← hw2,←hw1];simp[go_sem]
 have d1:w2.cell? ⟨mm,1,none⟩=some (.string dir):=(hb2.cell (p:=⟨mm,1,none⟩) hlb).trans c1
 have x2:w3.cell? ⟨w.heap.size,0,none⟩=some (.pointer (some ⟨mm,0,none⟩)):=by rw[← hw3,←hw2,←hw1];simp[go_sem]
 have x3:w3.cell? ⟨w.heap.size+1,0,none⟩=some (.string b):=by rw[← hw3,←hw2,←hz1];simp[go_sem]
 have x4:w3.cell? ⟨w.heap.size+2,0,none⟩=some (.string s):=by rw[← hw3,←hz2];simp[go_sem]
 have nt:∀ k,w.heap.size≤k→¬ aT db mb k:=fun k hk e=>by rcases e with rfl|rfl<;>omega
 have hW:Wm w3 w.heap.size (w.heap.size+2) (w.heap.size+1) mm db mb dir s b:=⟨x2,(hb3.cell (p:=⟨mm,0,none⟩) hlb).trans c0,(hb3.cell (p:=⟨mm,1,none⟩) hlb).trans c1,x4,x3,nt _ (by omega),hnm,nt _ (by omega),nt _ (by omega)⟩
 have HW:=aB (aA hW (aA (h.below hb3) (aA hb3 (aA hc nt))))
 have kd:w3.drew.cell? ⟨w.heap.size,0,none⟩=some (.pointer (some ⟨mm,0,none⟩))∧w3.drew.cell? ⟨mm,0,none⟩=some (.pointer (some ⟨db,0,none⟩))∧w3.drew.cell? ⟨w.heap.size+2,0,none⟩=some (.string s):=⟨hW.fx,hW.fd,hW.fn⟩
 clear hb2 hb3 x2 x3 x4 hW h hc hs
 go_enter Tryz.func57,Tryz.ntmps57
 go_upto_region 2 with fail
 refine dQ (fun w'=>w'.cell? ⟨w.heap.size,0,none⟩=some (.pointer (some ⟨mm,0,none⟩))∧w'.cell? ⟨mm,0,none⟩=some (.pointer (some ⟨db,0,none⟩))∧w'.cell? ⟨w.heap.size+2,0,none⟩=some (.string s)) 6 7 kd (fun hH=>?_)
 refine bU [[0],[1],[2],[3],[4]] hH ?_
 refine bM (i:=5) rfl (fun K hK=>?_)
 go_simp
 go_at_call 159
 with_reducible refine(fP (HW.out.2.1.below (Below.refl _ _).drew) hon (by omega) s hsz).mono ?_
 rw[HW.out.2.2.2.1.h1]
 rintro e w4 ⟨rfl,hd4,ht4'⟩
 have ht4:=(Tn.drew (F:=aT db mb) w3).trans ht4'
 have kd4:w4.cell? ⟨w.heap.size,0,none⟩=some (.pointer (some ⟨mm,0,none⟩))∧w4.cell? ⟨mm,0,none⟩=some (.pointer (some ⟨db,0,none⟩))∧w4.cell? ⟨w.heap.size+2,0,none⟩=some (.string s):=⟨ht4.cell HW.out.1.fx HW.out.1.gx,ht4.cell HW.out.1.fd HW.out.1.gm,ht4.cell HW.out.1.fn HW.out.1.gn⟩
 have H4:=aB (aA hd4 ht4)
 clear hd4 ht4 ht4' kd
 refine bH hK kd4 ?_
 clear hK K
 intro hH
 refine eU ?_
 clear hH kd4 hw1 hw2 hw3 x1 d1
 obtain⟨k,hk⟩:∃ k,r1.1=k:=⟨_,rfl⟩
 rw[hk]
 have HK:=aB hk
 clear hk
 go_upto_region 3 with fail
 go_cut [26] (fun c wx=>c= .bool (decide (k≠0∧k≠22))∧wx=w4)
 case first=>
  by_cases k0:k=0
  · subst k0
    go_wp2
    go_meet
    case rel=>exact⟨rfl,rfl⟩
  · have s1:(k != 0)=true:=by simpa using k0
    by_cases k2:k=22
    · subst k2
      go_wp2
      go_meet
      case rel=>exact⟨rfl,rfl⟩
    · have s2:(k != 22)=true:=by simpa using k2
      have HKK:=aB (aA k0 k2)
      clear k0 k2
      go_wp2
      go_meet
      case rel=>exact⟨by rw[decide_eq_true (p:=k≠0∧k≠22) HKK.out],rfl⟩
 case rest=>
  obtain⟨hc26,hw4⟩:=hcut
  subst hc26
  subst hw4
  rename World=>w4
  by_cases hbad:k≠0∧k≠22
  · rw[decide_eq_true hbad]
    have hbd:=aB hbad
    clear hbad
    go_wp2_with fail
    go_ret
    have hm:mwr D s (bP dir) b=r1:=by rw[HW.out.2.2.2.1.w,if_pos (by rw[HK.out];exact hbd.out)]
    rw[hm]
    exact⟨by rw[HK.out];rfl,H4.out.1,(Tn.ofBelow HW.out.2.2.1).trans H4.out.2⟩
  · rw[decide_eq_false hbad]
    have hok:okR r1.1:=by unfold okR;rw[HK.out];omega
    obtain⟨wa,hwa⟩:∃ wa,w4.alloc (.cells #[mwV w.heap.size 160,mwV3 w.heap.size 162,mwV w.heap.size 164,mwV w.heap.size 165] 64)=wa:=⟨_,rfl⟩
    have hba:Below w4.heap.size w4 wa:=by rw[← hwa];exact(Below.refl _ _).alloc (Nat.le_refl _) _
    have hWa:=(HW.out.1.tn H4.out.2).below hba
    have hI0:mwI F db mb wa r1 r2 r3 r4 r5 0 wa:=⟨Tn.refl _ _,H4.out.1.below hba,hok⟩
    obtain⟨fb,hfb⟩:∃ fb,w4.heap.size=fb:=⟨_,rfl⟩
    have hfun:∀ j,j<4→wa.cell? ⟨fb,j,none⟩=some (.func (.func (mwF j)) #[] (capM w.heap.size (w.heap.size+2) (w.heap.size+1) j)):=by
     intro j hj
     rw[← hwa,←hfb]
     match j,hj with
     |0,_=>(simp[go_sem,mwF];try rfl)
     |1,_=>(simp[go_sem,mwF];try rfl)
     |2,_=>(simp[go_sem,mwF];try rfl)
     |3,_=>(simp[go_sem,mwF];try rfl)
    have hft:¬ aT db mb fb:=HW.out.2.2.2.2 _ (by rw[← hfb];have:=H4.out.2.size;omega)
    have hTa:Tn (aT db mb) w wa:=(((Tn.ofBelow HW.out.2.2.1).trans H4.out.2).trans (Tn.ofBelow hba))
    have HI:=aB (aA hI0 (aA hfun (aA hft (aA hWa hTa))))
    have HC:=aB HW.out.2.2.2.1
    have hms:mm<wa.heap.size:=World.block_lt_of_cell? _ _ hWa.fd
    clear hbad hok hba hI0 hfun hft hWa hTa
    go_wp2_with fail
    clear hwa
    (try rw[hfb])
    go_loopw [8,9,34] (fun _ _ y wr=>∃ i:Nat,i≤4∧y= .int .i64 (i:Int)∧mwI F db mb wa r1 r2 r3 r4 r5 i wr) (fun _ _ y _=>4 - (intOf y).toNat)
    case atStart=>exact⟨0,by omega,rfl,HI.out.1⟩
    case round=>
     obtain⟨i,hi,rfl,hI⟩:=hrel
     by_cases hlt:i<4
     · have hh:=mw_round HC.out HI.out.2.2.2.1 hon ha hsz hb hd30 hlt hI
       have d1:=(mwI_tn hI).cell (HI.out.2.1 i hlt) HI.out.2.2.1
       have eg1:=mwF_enters i hlt
       obtain⟨fi,hfi⟩:∃ fi,mwF i=fi:=⟨_,rfl⟩
       obtain⟨ci,hci⟩:∃ ci,capM w.heap.size (w.heap.size+2) (w.heap.size+1) i=ci:=⟨_,rfl⟩
       rw[hfi,hci]at hh d1
       rw[hfi]at eg1
       have z0:(i:Int)<4:=by omega
       have z1:(0:Int)≤(i:Int):=by omega
       have HH:=aB hh
       clear hh hfi hci hI
       go_wp2_with fail
       refine HH.out.mono ?_
       rintro e w6 ⟨k,rfl,hk⟩
       clear eg1 d1
       rcases hk with⟨rfl,hk⟩|⟨hk0,D1,t6,d6,_,on6,heq⟩
       · have HK6:=aB hk
         clear hk
         go_wp2_with fail
         go_roundw
         case rel=>exact⟨i+1,by omega,by go_num,HK6.out⟩
         case measure=>simp[intOf];omega
       · have s1:(k == 0)=false:=by simpa using hk0
         have hW6:=HI.out.2.2.2.1.tn t6
         have kd:w6.drew.cell? ⟨w.heap.size,0,none⟩=some (.pointer (some ⟨mm,0,none⟩))∧w6.drew.cell? ⟨mm,0,none⟩=some (.pointer (some ⟨db,0,none⟩))∧w6.drew.cell? ⟨w.heap.size+2,0,none⟩=some (.string s):=⟨hW6.fx,hW6.fd,hW6.fn⟩
         have H6:=aB (aA t6 (aA d6 (aA hW6 heq)))
         clear t6 d6 hW6 heq
         by_cases h20:k=20
         · subst h20
           clear on6
           go_upto_region 10 with fail
           refine dQ (fun w'=>w'.cell? ⟨w.heap.size,0,none⟩=some (.pointer (some ⟨mm,0,none⟩))∧w'.cell? ⟨mm,0,none⟩=some (.pointer (some ⟨db,0,none⟩))∧w'.cell? ⟨w.heap.size+2,0,none⟩=some (.string s)) 10 11 kd (fun hH=>?_)
           refine bU [[0,1,2],[1,2],[2],[1003,4,5,6,8,9],[1004,5,6,8,9],[1005,6,8,9],[1006,8,9],[1007,8,9],[1008,9],[1009]] hH ?_
           refine eU ?_
           clear hH kd
           go_wp2_with fail
           go_ret
           have hm:mwr D s (bP dir) b=(20,D1):=by rw[H6.out.2.2.2];rfl
           rw[hm]
           exact⟨rfl,H6.out.2.1.below (Below.refl _ _).drew,(HI.out.2.2.2.2.trans H6.out.1).trans (Tn.drew _)⟩
         · have s2:(k != 20)=true:=by simpa using h20
           obtain⟨on1,ac1⟩:=on6 h20
           have HN20:=aB h20
           clear on6 h20
           go_upto_region 10 with fail
           refine dQ (fun w'=>w'.cell? ⟨w.heap.size,0,none⟩=some (.pointer (some ⟨mm,0,none⟩))∧w'.cell? ⟨mm,0,none⟩=some (.pointer (some ⟨db,0,none⟩))∧w'.cell? ⟨w.heap.size+2,0,none⟩=some (.string s)) 10 11 kd (fun hH=>?_)
           refine bU [[0,1,2],[1,2],[2],[3,4,5,6,8,9],[4,5,6,8,9],[5,6,8,9],[6,8,9],[7,8,9]] hH ?_
           refine bM (i:=8) rfl (fun K hK=>?_)
           go_simp
           go_at_call 159
           with_reducible refine(fP (H6.out.2.1.below (Below.refl _ _).drew) on1 ac1 s hsz).mono ?_
           rintro e w7 ⟨rfl,hd7,ht7'⟩
           have ht7:=(Tn.drew (F:=aT db mb) w6).trans ht7'
           have hW7:=H6.out.2.2.1.tn ht7
           have kd7:w7.cell? ⟨w.heap.size,0,none⟩=some (.pointer (some ⟨mm,0,none⟩))∧w7.cell? ⟨mm,0,none⟩=some (.pointer (some ⟨db,0,none⟩))∧w7.cell? ⟨w.heap.size+2,0,none⟩=some (.string s):=⟨hW7.fx,hW7.fd,hW7.fn⟩
           have H7:=aB (aA hd7 ht7)
           clear hd7 ht7 ht7' kd hW7
           refine bH hK kd7 ?_
           clear hK K
           intro hH
           obtain⟨k2,hk2⟩:∃ k2,(D1.remove s).1=k2:=⟨_,rfl⟩
           rw[hk2]
           have HK2:=aB hk2
           clear hk2
           refine bU [[9]] hH ?_
           refine eU ?_
           clear hH kd7
           by_cases h22:k2=20
           · subst h22
             go_wp2_with fail
             go_ret
             have hm:mwr D s (bP dir) b=(20,(D1.remove s).2):=by rw[H6.out.2.2.2];unfold fQ;rw[if_neg HN20.out,if_pos HK2.out]
             rw[hm]
             exact⟨rfl,H7.out.1,(HI.out.2.2.2.2.trans H6.out.1).trans H7.out.2⟩
           · have s3:(k2 == 20)=false:=by simpa using h22
             have HN2:=aB h22
             clear h22
             go_wp2_with fail
             go_ret
             have hm:mwr D s (bP dir) b=(k,(D1.remove s).2):=by rw[H6.out.2.2.2];unfold fQ;rw[if_neg HN20.out,if_neg (by rw[HK2.out];exact HN2.out)]
             rw[hm]
             exact⟨rfl,H7.out.1,(HI.out.2.2.2.2.trans H6.out.1).trans H7.out.2⟩
     · obtain rfl:i=4:=by omega
       obtain⟨t6,d6,k1,k2,k3,k4,k5⟩:=hI
       have hm:mwr D s (bP dir) b=r5:=by rw[HC.out.w,if_neg (by rcases k1 with h|h<;>omega),if_neg (by omega),if_neg (by omega),if_neg (by omega),if_neg (by omega)]
       have HM:=aB (aA hm (aA t6 (aA d6 k5)))
       clear hm t6 d6 k1 k2 k3 k4 k5
       go_wp2_with fail
       go_ret
       rw[HM.out.1]
       exact⟨by rw[HM.out.2.2.2];rfl,HM.out.2.2.1,HI.out.2.2.2.2.trans HM.out.2.1⟩
end
end Go.Proofs.YtpfibkgmfapnjaaGreatDoor
