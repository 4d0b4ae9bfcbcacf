/- Wal: the walks of write's closures, of firstOf, of write. -/
import Derived.Test.YtpfibkgmfapnjaaGreatDoorS22
set_option linter.unusedSimpArgs false
set_option linter.unusedVariables false
namespace Go.Proofs.YtpfibkgmfapnjaaGreatDoor
section
open Go.RowKit
variable {G F:Nat→Prop} {w w':World} {lb mp db mb bx nm:Nat} {L:Lg} {D:Dk} {s:ByteArray}
theorem act_on (D:Dk) (hon:D.on=true) (f:Fm→Fm):(D.act f).1=20∨((D.act f).1=0∧(D.act f).2.on=true∧(D.act f).2.acts=D.acts+1):=by
 unfold Dk.act
 split
 · exact .inr ⟨rfl,hon,rfl⟩
 · exact .inl rfl
 · exact .inr ⟨rfl,hon,rfl⟩
def Goes (D:Dk) (r:Int×Dk):Prop:=r.1=20∨(r.2.on=true∧r.2.acts≤D.acts+1)
theorem gQ (D:Dk) (hon:D.on=true) (k:Int):Goes D (k,D):= .inr ⟨hon,Nat.le_succ _⟩
theorem jG (D:Dk) (hon:D.on=true) (f:Fm→Fm):Goes D (D.act f):=by
 rcases act_on D hon f with h|⟨_,h2,h3⟩
 · exact .inl h
 · exact .inr ⟨h2,by omega⟩
theorem jZ (D:Dk) (hon:D.on=true) (s:ByteArray):Goes D (D.create s):=by
 unfold Dk.create
 repeat' split
 all_goals first|exact gQ D hon _|exact jG D hon _
theorem app_on (D:Dk) (hon:D.on=true) (s t:ByteArray):Goes D (D.app s t):=by
 unfold Dk.app
 repeat' split
 all_goals first|exact gQ D hon _|exact jG D hon _
theorem sync_on (D:Dk) (hon:D.on=true) (s:ByteArray):Goes D (D.sync s):=by
 unfold Dk.sync
 repeat' split
 all_goals first|exact gQ D hon _|exact jG D hon _
theorem rename_on (D:Dk) (hon:D.on=true) (s t:ByteArray):Goes D (D.rename s t):=by
 unfold Dk.rename
 repeat' split
 all_goals first|exact gQ D hon _|exact jG D hon _
theorem jR (D:Dk) (hon:D.on=true) (s:ByteArray):Goes D (D.remove s):=by
 unfold Dk.remove
 repeat' split
 all_goals first|exact gQ D hon _|exact jG D hon _
theorem Goes.go {D:Dk} {r:Int×Dk} (h:Goes D r) (hr:r.1≠20):r.2.on=true∧r.2.acts≤D.acts+1:=h.resolve_left hr
def eK (k:Int):Int:=if k=22 then 0 else k
structure Wr (w:World) (bx nm lb db mb:Nat) (s left:ByteArray):Prop where
 b:w.cell? ⟨bx,0,none⟩=some (.pointer (some ⟨lb,0,none⟩))
 l:w.cell? ⟨lb,0,none⟩=some (.pointer (some ⟨db,0,none⟩))
 l7:w.cell? ⟨lb,7,none⟩=some (.string left)
 n:w.cell? ⟨nm,0,none⟩=some (.string s)
 nb:¬ aT db mb bx
 nl:¬ aT db mb lb
 nn:¬ aT db mb nm
theorem Wr.tn {left:ByteArray} (h:Wr w bx nm lb db mb s left) (t:Tn (aT db mb) w w'):Wr w' bx nm lb db mb s left:=
 ⟨t.cell h.b h.nb,t.cell h.l h.nl,t.cell h.l7 h.nl,t.cell h.n h.nn,h.nb,h.nl,h.nn⟩
theorem Wr.below {left:ByteArray} (h:Wr w bx nm lb db mb s left) (t:Below w.heap.size w w'):Wr w' bx nm lb db mb s left:=h.tn (Tn.ofBelow t)
set_option maxHeartbeats 1000000 in
theorem w_wr1 {left:ByteArray} (hw:Wr w bx nm lb db mb s left) (h:aF F w db mb D) (hon:D.on=true) (ha:D.acts<1000000) (hs:s.size≤140737488351232):
 Calls Tryz.prog 286 #[.pointer (some ⟨bx,0,none⟩),.pointer (some ⟨nm,0,none⟩)] w fun e w'=>e= .returned (.int .i64 (eK (D.remove s).1))∧aF F w' db mb (D.remove s).2∧Tn (aT db mb) w w':=by
 have HW:=aB (aA hw h)
 have kd:w.drew.cell? ⟨bx,0,none⟩=some (.pointer (some ⟨lb,0,none⟩))∧w.drew.cell? ⟨lb,0,none⟩=some (.pointer (some ⟨db,0,none⟩))∧w.drew.cell? ⟨lb,7,none⟩=some (.string left)∧w.drew.cell? ⟨nm,0,none⟩=some (.string s):=⟨hw.b,hw.l,hw.l7,hw.n⟩
 have hd:=h.below (Below.refl _ _).drew
 have HD:=aB hd
 clear hw h hd
 go_enter Tryz.func286,Tryz.ntmps286
 go_wp2_with fail
 refine dQ (fun w'=>w'.cell? ⟨bx,0,none⟩=some (.pointer (some ⟨lb,0,none⟩))∧w'.cell? ⟨lb,0,none⟩=some (.pointer (some ⟨db,0,none⟩))∧w'.cell? ⟨lb,7,none⟩=some (.string left)∧w'.cell? ⟨nm,0,none⟩=some (.string s)) 6 7 kd (fun hH=>?_)
 refine bU [[0],[1],[2],[3],[4]] hH ?_
 refine bM (i:=5) rfl (fun K hK=>?_)
 go_simp
 go_at_call 159
 with_reducible refine(fP HD.out hon ha s hs).mono ?_
 rintro e w3 ⟨rfl,hd3,ht3⟩
 have kd3:w3.cell? ⟨bx,0,none⟩=some (.pointer (some ⟨lb,0,none⟩))∧w3.cell? ⟨lb,0,none⟩=some (.pointer (some ⟨db,0,none⟩))∧w3.cell? ⟨lb,7,none⟩=some (.string left)∧w3.cell? ⟨nm,0,none⟩=some (.string s):=⟨ht3.cell kd.1 HW.out.1.nb,ht3.cell kd.2.1 HW.out.1.nl,ht3.cell kd.2.2.1 HW.out.1.nl,ht3.cell kd.2.2.2 HW.out.1.nn⟩
 have H3:=aB (aA hd3 ht3)
 clear hd3 ht3
 refine bH hK kd3 ?_
 clear hK K
 intro hH
 refine eU ?_
 clear hH
 clear kd kd3
 obtain⟨k,hk⟩:∃ k,(D.remove s).1=k:=⟨_,rfl⟩
 rw[hk]
 have HK:=aB hk
 clear hk
 by_cases h22:k=22
 · subst h22
   go_wp2
   go_ret
   exact⟨by rw[HK.out];rfl,H3.out.1,(Tn.drew _).trans H3.out.2⟩
 · have t1:(k != 22)=true:=by simpa using h22
   have H22:=aB h22
   clear h22
   go_wp2
   go_ret
   exact⟨by rw[HK.out,show eK k=k from if_neg H22.out];rfl,H3.out.1,(Tn.drew _).trans H3.out.2⟩
set_option maxHeartbeats 1000000 in
theorem w_wr2 {left:ByteArray} (hw:Wr w bx nm lb db mb s left) (h:aF F w db mb D) (hon:D.on=true) (ha:D.acts<1000000) (hs:s.size≤140737488351232):
 Calls Tryz.prog 287 #[.pointer (some ⟨bx,0,none⟩),.pointer (some ⟨nm,0,none⟩)] w fun e w'=>e= .returned (.int .i64 ((D.create s).1))∧aF F w' db mb (D.create s).2∧Tn (aT db mb) w w':=by
 have HW:=aB (aA hw h)
 have kd:w.drew.cell? ⟨bx,0,none⟩=some (.pointer (some ⟨lb,0,none⟩))∧w.drew.cell? ⟨lb,0,none⟩=some (.pointer (some ⟨db,0,none⟩))∧w.drew.cell? ⟨lb,7,none⟩=some (.string left)∧w.drew.cell? ⟨nm,0,none⟩=some (.string s):=⟨hw.b,hw.l,hw.l7,hw.n⟩
 have hd:=h.below (Below.refl _ _).drew
 have HD:=aB hd
 clear hw h hd
 go_enter Tryz.func287,Tryz.ntmps287
 go_wp2_with fail
 refine dQ (fun w'=>w'.cell? ⟨bx,0,none⟩=some (.pointer (some ⟨lb,0,none⟩))∧w'.cell? ⟨lb,0,none⟩=some (.pointer (some ⟨db,0,none⟩))∧w'.cell? ⟨lb,7,none⟩=some (.string left)∧w'.cell? ⟨nm,0,none⟩=some (.string s)) 6 7 kd (fun hH=>?_)
 refine bU [[0],[1],[2],[3],[4]] hH ?_
 refine bM (i:=5) rfl (fun K hK=>?_)
 go_simp
 go_at_call 161
 with_reducible refine(kV HD.out hon ha s hs).mono ?_
 rintro e w3 ⟨rfl,hd3,ht3⟩
 have kd3:w3.cell? ⟨bx,0,none⟩=some (.pointer (some ⟨lb,0,none⟩))∧w3.cell? ⟨lb,0,none⟩=some (.pointer (some ⟨db,0,none⟩))∧w3.cell? ⟨lb,7,none⟩=some (.string left)∧w3.cell? ⟨nm,0,none⟩=some (.string s):=⟨ht3.cell kd.1 HW.out.1.nb,ht3.cell kd.2.1 HW.out.1.nl,ht3.cell kd.2.2.1 HW.out.1.nl,ht3.cell kd.2.2.2 HW.out.1.nn⟩
 have H3:=aB (aA hd3 ht3)
 clear hd3 ht3
 refine bH hK kd3 ?_
 clear hK K
 intro hH
 refine eU ?_
 clear hH
 clear kd kd3
 go_wp2_with fail
 go_ret
 exact⟨rfl,H3.out.1,(Tn.drew _).trans H3.out.2⟩
set_option maxHeartbeats 1000000 in
theorem w_wr3 {left:ByteArray} (hw:Wr w bx nm lb db mb s left) (h:aF F w db mb D) (hon:D.on=true) (ha:D.acts<1000000) (hs:s.size≤140737488351232) (hleft:left.size≤140737488351232):
 Calls Tryz.prog 288 #[.pointer (some ⟨bx,0,none⟩),.pointer (some ⟨nm,0,none⟩)] w fun e w'=>e= .returned (.int .i64 ((D.app s left).1))∧aF F w' db mb (D.app s left).2∧Tn (aT db mb) w w':=by
 have HW:=aB (aA hw h)
 have kd:w.drew.cell? ⟨bx,0,none⟩=some (.pointer (some ⟨lb,0,none⟩))∧w.drew.cell? ⟨lb,0,none⟩=some (.pointer (some ⟨db,0,none⟩))∧w.drew.cell? ⟨lb,7,none⟩=some (.string left)∧w.drew.cell? ⟨nm,0,none⟩=some (.string s):=⟨hw.b,hw.l,hw.l7,hw.n⟩
 have hd:=h.below (Below.refl _ _).drew
 have HD:=aB hd
 clear hw h hd
 go_enter Tryz.func288,Tryz.ntmps288
 go_wp2_with fail
 refine dQ (fun w'=>w'.cell? ⟨bx,0,none⟩=some (.pointer (some ⟨lb,0,none⟩))∧w'.cell? ⟨lb,0,none⟩=some (.pointer (some ⟨db,0,none⟩))∧w'.cell? ⟨lb,7,none⟩=some (.string left)∧w'.cell? ⟨nm,0,none⟩=some (.string s)) 10 11 kd (fun hH=>?_)
 refine bU [[0],[1],[2],[3],[4],[5],[6],[7],[8]] hH ?_
 refine bM (i:=9) rfl (fun K hK=>?_)
 go_simp
 go_at_call 163
 with_reducible refine(kX HD.out hon ha s left hs hleft).mono ?_
 rintro e w3 ⟨rfl,hd3,ht3⟩
 have kd3:w3.cell? ⟨bx,0,none⟩=some (.pointer (some ⟨lb,0,none⟩))∧w3.cell? ⟨lb,0,none⟩=some (.pointer (some ⟨db,0,none⟩))∧w3.cell? ⟨lb,7,none⟩=some (.string left)∧w3.cell? ⟨nm,0,none⟩=some (.string s):=⟨ht3.cell kd.1 HW.out.1.nb,ht3.cell kd.2.1 HW.out.1.nl,ht3.cell kd.2.2.1 HW.out.1.nl,ht3.cell kd.2.2.2 HW.out.1.nn⟩
 have H3:=aB (aA hd3 ht3)
 clear hd3 ht3
 refine bH hK kd3 ?_
 clear hK K
 intro hH
 refine eU ?_
 clear hH
 clear kd kd3
 go_wp2_with fail
 go_ret
 exact⟨rfl,H3.out.1,(Tn.drew _).trans H3.out.2⟩
set_option maxHeartbeats 1000000 in
theorem w_wr4 {left:ByteArray} (hw:Wr w bx nm lb db mb s left) (h:aF F w db mb D) (hon:D.on=true) (ha:D.acts<1000000) (hs:s.size≤140737488351232):
 Calls Tryz.prog 289 #[.pointer (some ⟨bx,0,none⟩),.pointer (some ⟨nm,0,none⟩)] w fun e w'=>e= .returned (.int .i64 ((D.sync s).1))∧aF F w' db mb (D.sync s).2∧Tn (aT db mb) w w':=by
 have HW:=aB (aA hw h)
 have kd:w.drew.cell? ⟨bx,0,none⟩=some (.pointer (some ⟨lb,0,none⟩))∧w.drew.cell? ⟨lb,0,none⟩=some (.pointer (some ⟨db,0,none⟩))∧w.drew.cell? ⟨lb,7,none⟩=some (.string left)∧w.drew.cell? ⟨nm,0,none⟩=some (.string s):=⟨hw.b,hw.l,hw.l7,hw.n⟩
 have hd:=h.below (Below.refl _ _).drew
 have HD:=aB hd
 clear hw h hd
 go_enter Tryz.func289,Tryz.ntmps289
 go_wp2_with fail
 refine dQ (fun w'=>w'.cell? ⟨bx,0,none⟩=some (.pointer (some ⟨lb,0,none⟩))∧w'.cell? ⟨lb,0,none⟩=some (.pointer (some ⟨db,0,none⟩))∧w'.cell? ⟨lb,7,none⟩=some (.string left)∧w'.cell? ⟨nm,0,none⟩=some (.string s)) 6 7 kd (fun hH=>?_)
 refine bU [[0],[1],[2],[3],[4]] hH ?_
 refine bM (i:=5) rfl (fun K hK=>?_)
 go_simp
 go_at_call 157
 with_reducible refine(sync_any HD.out hon ha s hs).mono ?_
 rintro e w3 ⟨rfl,hd3,ht3⟩
 have kd3:w3.cell? ⟨bx,0,none⟩=some (.pointer (some ⟨lb,0,none⟩))∧w3.cell? ⟨lb,0,none⟩=some (.pointer (some ⟨db,0,none⟩))∧w3.cell? ⟨lb,7,none⟩=some (.string left)∧w3.cell? ⟨nm,0,none⟩=some (.string s):=⟨ht3.cell kd.1 HW.out.1.nb,ht3.cell kd.2.1 HW.out.1.nl,ht3.cell kd.2.2.1 HW.out.1.nl,ht3.cell kd.2.2.2 HW.out.1.nn⟩
 have H3:=aB (aA hd3 ht3)
 clear hd3 ht3
 refine bH hK kd3 ?_
 clear hK K
 intro hH
 refine eU ?_
 clear hH
 clear kd kd3
 go_wp2_with fail
 go_ret
 exact⟨rfl,H3.out.1,(Tn.drew _).trans H3.out.2⟩
set_option maxHeartbeats 1000000 in
theorem w_wr5 {left:ByteArray} (hw:Wr w bx nm lb db mb s left) (h:aF F w db mb D) (hon:D.on=true) (ha:D.acts<1000000) (hs:s.size≤140737488351232) (hlo:dO G w lb mp db L) (hd40:L.dir.size≤40) {n:Nat} (hn:n<4294967296) (hlast:L.last=(n:Int)):
 Calls Tryz.prog 290 #[.pointer (some ⟨bx,0,none⟩),.pointer (some ⟨nm,0,none⟩)] w fun e w'=>e= .returned (.int .i64 ((D.rename s (aV L.dir n)).1))∧aF F w' db mb (D.rename s (aV L.dir n)).2∧Tn (aT db mb) w w':=by
 have HW:=aB (aA hw h)
 have kd:w.drew.cell? ⟨bx,0,none⟩=some (.pointer (some ⟨lb,0,none⟩))∧w.drew.cell? ⟨lb,0,none⟩=some (.pointer (some ⟨db,0,none⟩))∧w.drew.cell? ⟨lb,7,none⟩=some (.string left)∧w.drew.cell? ⟨nm,0,none⟩=some (.string s):=⟨hw.b,hw.l,hw.l7,hw.n⟩
 have hd:=h.below (Below.refl _ _).drew
 have HD:=aB hd
 have hl:=hlo.below (Below.refl _ _).drew
 have HL:=aB hl
 clear hl hlo
 clear hw h hd
 go_enter Tryz.func290,Tryz.ntmps290
 go_wp2_with fail
 refine dQ (fun w'=>w'.cell? ⟨bx,0,none⟩=some (.pointer (some ⟨lb,0,none⟩))∧w'.cell? ⟨lb,0,none⟩=some (.pointer (some ⟨db,0,none⟩))∧w'.cell? ⟨lb,7,none⟩=some (.string left)∧w'.cell? ⟨nm,0,none⟩=some (.string s)) 10 11 kd (fun hH=>?_)
 refine bU [[0],[1],[2],[3],[4],[5],[6]] hH ?_
 refine bM (i:=7) rfl (fun K hK=>?_)
 go_simp
 go_at_call 59
 with_reducible refine(last_any HL.out).mono ?_
 rintro e w1 ⟨rfl,hb1⟩
 rw[hlast]
 have hw1:=HW.out.1.below ((Below.refl _ _).drew.trans hb1)
 have hl1:w1.cell? ⟨lb,1,none⟩=some (.string L.dir):=by
  obtain⟨ms,hm⟩:=HL.out
  exact(hb1.cell (p:=⟨lb,1,none⟩) (World.block_lt_of_cell? _ _ hm.c1)).trans hm.c1
 have H1:=aB (aA hw1 hb1)
 have kd1:w1.cell? ⟨bx,0,none⟩=some (.pointer (some ⟨lb,0,none⟩))∧w1.cell? ⟨lb,0,none⟩=some (.pointer (some ⟨db,0,none⟩))∧w1.cell? ⟨lb,7,none⟩=some (.string left)∧w1.cell? ⟨nm,0,none⟩=some (.string s):=⟨hw1.b,hw1.l,hw1.l7,hw1.n⟩
 clear hw1 hb1
 refine bH hK kd1 ?_
 clear hK K
 intro hH
 refine bM (i:=8) rfl (fun K hK=>?_)
 go_simp
 go_at_call 158
 with_reducible refine(w_name hd40 n hn hl1).mono ?_
 rintro e w2 ⟨rfl,hb2⟩
 have hw2:=H1.out.1.below hb2
 have hb02:=(Below.refl w.heap.size w).drew.trans (H1.out.2.trans (hb2.mono H1.out.2.size))
 have hd2:=HD.out.below (H1.out.2.trans (hb2.mono H1.out.2.size))
 have kd2:w2.cell? ⟨bx,0,none⟩=some (.pointer (some ⟨lb,0,none⟩))∧w2.cell? ⟨lb,0,none⟩=some (.pointer (some ⟨db,0,none⟩))∧w2.cell? ⟨lb,7,none⟩=some (.string left)∧w2.cell? ⟨nm,0,none⟩=some (.string s):=⟨hw2.b,hw2.l,hw2.l7,hw2.n⟩
 obtain⟨sg,hsg⟩:∃ sg,aV L.dir n=sg:=⟨_,rfl⟩
 have hsgs:sg.size≤140737488351232:=by rw[← hsg,bC,cN,List.length_append,List.length_append,hexF_len,←bC];simp;omega
 rw[hsg]
 have H2:=aB (aA hb02 hd2)
 clear hw2 hb2 hb02 hd2 kd1 hl1
 refine bH hK kd2 ?_
 clear hK K
 intro hH
 refine bM (i:=9) rfl (fun K hK=>?_)
 go_simp
 go_at_call 166
 with_reducible refine(rename_any H2.out.2 hon ha s sg hs hsgs).mono ?_
 rintro e w3 ⟨rfl,hd3,ht3⟩
 have kd3:w3.cell? ⟨bx,0,none⟩=some (.pointer (some ⟨lb,0,none⟩))∧w3.cell? ⟨lb,0,none⟩=some (.pointer (some ⟨db,0,none⟩))∧w3.cell? ⟨lb,7,none⟩=some (.string left)∧w3.cell? ⟨nm,0,none⟩=some (.string s):=⟨ht3.cell kd2.1 HW.out.1.nb,ht3.cell kd2.2.1 HW.out.1.nl,ht3.cell kd2.2.2.1 HW.out.1.nl,ht3.cell kd2.2.2.2 HW.out.1.nn⟩
 have H3:=aB (aA hd3 ht3)
 clear hd3 ht3
 refine bH hK kd3 ?_
 clear hK K
 intro hH
 refine eU ?_
 clear hH
 clear kd kd3 kd2
 go_wp2_with fail
 go_ret
 rw[hsg]
 exact⟨rfl,H3.out.1,(Tn.ofBelow H2.out.1).trans H3.out.2⟩
def FirstE (I:World→Prop) (J:Int→World→Prop) (e:Ending) (w':World):Prop:=∃ k:Int,e= .returned (.int .i64 k)∧((k=0∧I w')∨(k≠0∧J k w'))
set_option maxHeartbeats 1000000 in
theorem firstOf_any {n b:Nat} {c:Nat} {fk:Nat→FuncId} {caps:Nat→Array Value} (hn:n≤100) (I:Nat→World→Prop) (J:Int→World→Prop)
 (eg:∀ i,i<n→∀ args w,(callFunc (fk i) args).run Tryz.prog w= .ok (.enter (fk i) args) w)
 (hrd:∀ i wr,I i wr→∀ j,j<n→wr.cell? ⟨b,j,none⟩=some (.func (.func (fk j)) #[] (caps j)))
 (hdo:∀ i,i<n→∀ wr,I i wr→Calls Tryz.prog (fk i) (caps i) wr (FirstE (I (i+1)) J)) (h0:I 0 w):
 Calls Tryz.prog 285 #[.slice (some ⟨b,0,none⟩) n c] w (FirstE (I n) J):=by
 have H:=aB (aA eg (aA hrd hdo))
 clear eg hrd hdo
 go_enter Tryz.func285,Tryz.ntmps285
 go_wp2
 go_loopw [4,5,8] (fun _ _ y wr=>∃ i:Nat,i≤n∧y= .int .i64 (i:Int)∧I i wr) (fun _ _ y _=>n - (intOf y).toNat)
 case atStart=>exact⟨0,by omega,rfl,h0⟩
 case round=>
  obtain⟨i,hi,rfl,hI⟩:=hrel
  clear h0
  have HI:=aB hI
  by_cases hlt:i<n
  · have d1:=H.out.2.1 i wr hI i hlt
    have eg1:=H.out.1 i hlt
    obtain⟨fi,hfi⟩:∃ fi,fk i=fi:=⟨_,rfl⟩
    obtain⟨ci,hci⟩:∃ ci,caps i=ci:=⟨_,rfl⟩
    have hc:=H.out.2.2 i hlt wr hI
    rw[hfi,hci]at hc d1
    rw[hfi]at eg1
    have r1:(i:Int)<(n:Int):=by omega
    have HC:=aB hc
    clear hc hfi hci hI
    go_wp2_with fail
    refine HC.out.mono ?_
    rintro e w2 ⟨k,rfl,hk⟩
    rcases hk with⟨rfl,hk⟩|⟨hk0,hk⟩
    · clear eg1 d1
      have HK:=aB hk
      clear hk
      go_wp2
      go_roundw
      case rel=>exact⟨i+1,by omega,by go_num,HK.out⟩
      case measure=>simp[intOf];omega
    · clear eg1 d1
      have t1:(k != 0)=true:=by simpa using hk0
      have HK:=aB (aA hk0 hk)
      clear hk hk0
      go_wp2
      go_ret
      exact⟨k,rfl,.inr HK.out⟩
  · obtain rfl:i=n:=by omega
    clear hI
    go_wp2
    go_ret
    exact⟨0,rfl,.inl ⟨rfl,HI.out⟩⟩
end
section
open Go.RowKit
variable {G F:Nat→Prop} {w w':World} {lb mp db mb bx nm:Nat} {L:Lg} {D:Dk} {s:ByteArray}
def wrF:Nat→FuncId
 |0=>286
 |1=>287
 |2=>288
 |3=>289
 |_=>290
theorem wrF_enters:∀ i,i<5→∀ args w,(callFunc (wrF i) args).run Tryz.prog w= .ok (.enter (wrF i) args) w
 |0,_=>enters_of Tryz.func286 (by kernel_rfl) rfl
 |1,_=>enters_of Tryz.func287 (by kernel_rfl) rfl
 |2,_=>enters_of Tryz.func288 (by kernel_rfl) rfl
 |3,_=>enters_of Tryz.func289 (by kernel_rfl) rfl
 |4,_=>enters_of Tryz.func290 (by kernel_rfl) rfl
 |n+5,h=>by omega
theorem dF {k:Int}:eK k=0↔¬ (k≠0∧k≠22):=by
 unfold eK
 split<;>omega
structure WrC (L:Lg) (D:Dk) (s sg:ByteArray) (r1 r2 r3 r4 r5:Int×Dk):Prop where
 h1:D.remove s=r1
 h2:r1.2.create s=r2
 h3:r2.2.app s L.left=r3
 h4:r3.2.sync s=r4
 h5:r4.2.rename s sg=r5
 w:L.write D=if r1.1≠0∧r1.1≠22 then r1 else if r2.1≠0 then r2 else if r3.1≠0 then r3 else if r4.1≠0 then r4 else r5
theorem wrC (L:Lg) (D:Dk):∃ r1 r2 r3 r4 r5,WrC L D (bR L.dir) (cD L.dir L.last) r1 r2 r3 r4 r5:=⟨_,_,_,_,_,rfl,rfl,rfl,rfl,rfl,rfl⟩
def wrI (F:Nat→Prop) (db mb:Nat) (W:World) (D:Dk) (r1 r2 r3 r4 r5:Int×Dk):Nat→World→Prop
 |0,wr=>Tn (aT db mb) W wr∧aF F wr db mb D
 |1,wr=>Tn (aT db mb) W wr∧aF F wr db mb r1.2∧eK r1.1=0
 |2,wr=>Tn (aT db mb) W wr∧aF F wr db mb r2.2∧eK r1.1=0∧r2.1=0
 |3,wr=>Tn (aT db mb) W wr∧aF F wr db mb r3.2∧eK r1.1=0∧r2.1=0∧r3.1=0
 |4,wr=>Tn (aT db mb) W wr∧aF F wr db mb r4.2∧eK r1.1=0∧r2.1=0∧r3.1=0∧r4.1=0
 |_,wr=>Tn (aT db mb) W wr∧aF F wr db mb r5.2∧eK r1.1=0∧r2.1=0∧r3.1=0∧r4.1=0∧r5.1=0
theorem wrI_tn {W wr:World} {r1 r2 r3 r4 r5:Int×Dk}:∀ {i},wrI F db mb W D r1 r2 r3 r4 r5 i wr→Tn (aT db mb) W wr
 |0,h=>h.1
 |1,h=>h.1
 |2,h=>h.1
 |3,h=>h.1
 |4,h=>h.1
 |_+5,h=>h.1
def wrJ (F:Nat→Prop) (db mb:Nat) (W:World) (L:Lg) (D:Dk) (k:Int) (wr:World):Prop:=k=(L.write D).1∧Tn (aT db mb) W wr∧aF F wr db mb (L.write D).2
set_option maxHeartbeats 1000000 in
theorem w_acts {W:World} {b c:Nat} {n:Nat} {r1 r2 r3 r4 r5:Int×Dk} (hc:WrC L D (bR L.dir) (aV L.dir n) r1 r2 r3 r4 r5) (hw:Wr W bx nm lb db mb (bR L.dir) L.left) (hd:aF F W db mb D) (hlo:dO G W lb mp db L) (hG:∀ q,G q→¬ aT db mb q)
 (hon:D.on=true) (ha:D.acts+10≤1000000) (hn:n<4294967296) (hlast:L.last=(n:Int)) (hd40:L.dir.size≤40) (hleft:L.left.size≤140737488351232)
 (hb:∀ j,j<5→W.cell? ⟨b,j,none⟩=some (.func (.func (wrF j)) #[] #[.pointer (some ⟨bx,0,none⟩),.pointer (some ⟨nm,0,none⟩)])) (hnb:¬ aT db mb b):
 Calls Tryz.prog 285 #[.slice (some ⟨b,0,none⟩) 5 c] W fun e w'=>e= .returned (.int .i64 (L.write D).1)∧aF F w' db mb (L.write D).2∧Tn (aT db mb) W w':=by
 have hs:(bR L.dir).size≤140737488351232:=by rw[bC,kQ,List.length_append,←bC];simp;omega
 have g1:=jR D hon (bR L.dir)
 rw[hc.h1]at g1
 have p1:eK r1.1=0→r1.2.on=true∧r1.2.acts≤D.acts+1:=fun h=>g1.go (by have:=dF.1 h;omega)
 have p2:eK r1.1=0→r2.1=0→r2.2.on=true∧r2.2.acts≤D.acts+2:=fun h h2=>by
  have g2:=jZ r1.2 (p1 h).1 (bR L.dir)
  rw[hc.h2]at g2
  have hgo:=g2.go (by omega)
  have:=(p1 h).2
  exact⟨hgo.1,by omega⟩
 have p3:eK r1.1=0→r2.1=0→r3.1=0→r3.2.on=true∧r3.2.acts≤D.acts+3:=fun h h2 h3=>by
  have g2:=app_on r2.2 (p2 h h2).1 (bR L.dir) L.left
  rw[hc.h3]at g2
  have hgo:=g2.go (by omega)
  have:=(p2 h h2).2
  exact⟨hgo.1,by omega⟩
 have p4:eK r1.1=0→r2.1=0→r3.1=0→r4.1=0→r4.2.on=true∧r4.2.acts≤D.acts+4:=fun h h2 h3 h4=>by
  have g2:=sync_on r3.2 (p3 h h2 h3).1 (bR L.dir)
  rw[hc.h4]at g2
  have hgo:=g2.go (by omega)
  have:=(p3 h h2 h3).2
  exact⟨hgo.1,by omega⟩
 refine(firstOf_any (n:=5) (fk:=wrF) (caps:=fun _=> #[.pointer (some ⟨bx,0,none⟩),.pointer (some ⟨nm,0,none⟩)]) (by omega) (wrI F db mb W D r1 r2 r3 r4 r5) (wrJ F db mb W L D) wrF_enters ?_ ?_ ⟨Tn.refl _ _,hd⟩).mono ?_
 · intro i wr hI j hj
   exact(wrI_tn hI).cell (hb j hj) hnb
 · intro i hi wr hI
   match i,hi,hI with
   |0,_,hI=>
    refine(w_wr1 (hw.tn hI.1) hI.2 hon (by omega) hs).mono ?_
    rintro e w' ⟨rfl,hd',ht'⟩
    rw[hc.h1]at hd' ⊢
    refine⟨_,rfl,?_⟩
    by_cases h:eK r1.1=0
    · exact .inl ⟨h,hI.1.trans ht',hd',h⟩
    · refine .inr ⟨h,?_⟩
      have h2:r1.1≠0∧r1.1≠22:=Decidable.not_not.1 (fun hh=>h (dF.2 hh))
      unfold wrJ
      rw[hc.w,if_pos h2]
      exact⟨if_neg h2.2,hI.1.trans ht',hd'⟩
   |1,_,hI=>
    obtain⟨t1,d1,k1⟩:=hI
    refine(w_wr2 (hw.tn t1) d1 (p1 k1).1 (by have:=(p1 k1).2;omega) hs).mono ?_
    rintro e w' ⟨rfl,hd',ht'⟩
    rw[hc.h2]at hd' ⊢
    refine⟨_,rfl,?_⟩
    by_cases h:r2.1=0
    · exact .inl ⟨h,t1.trans ht',hd',k1,h⟩
    · refine .inr ⟨h,?_⟩
      unfold wrJ
      rw[hc.w,if_neg (dF.1 k1),if_pos h]
      exact⟨rfl,t1.trans ht',hd'⟩
   |2,_,hI=>
    obtain⟨t1,d1,k1,k2⟩:=hI
    refine(w_wr3 (hw.tn t1) d1 (p2 k1 k2).1 (by have:=(p2 k1 k2).2;omega) hs hleft).mono ?_
    rintro e w' ⟨rfl,hd',ht'⟩
    rw[hc.h3]at hd' ⊢
    refine⟨_,rfl,?_⟩
    by_cases h:r3.1=0
    · exact .inl ⟨h,t1.trans ht',hd',k1,k2,h⟩
    · refine .inr ⟨h,?_⟩
      unfold wrJ
      rw[hc.w,if_neg (dF.1 k1),if_neg (by omega),if_pos h]
      exact⟨rfl,t1.trans ht',hd'⟩
   |3,_,hI=>
    obtain⟨t1,d1,k1,k2,k3⟩:=hI
    refine(w_wr4 (hw.tn t1) d1 (p3 k1 k2 k3).1 (by have:=(p3 k1 k2 k3).2;omega) hs).mono ?_
    rintro e w' ⟨rfl,hd',ht'⟩
    rw[hc.h4]at hd' ⊢
    refine⟨_,rfl,?_⟩
    by_cases h:r4.1=0
    · exact .inl ⟨h,t1.trans ht',hd',k1,k2,k3,h⟩
    · refine .inr ⟨h,?_⟩
      unfold wrJ
      rw[hc.w,if_neg (dF.1 k1),if_neg (by omega),if_neg (by omega),if_pos h]
      exact⟨rfl,t1.trans ht',hd'⟩
   |4,_,hI=>
    obtain⟨t1,d1,k1,k2,k3,k4⟩:=hI
    refine(w_wr5 (hw.tn t1) d1 (p4 k1 k2 k3 k4).1 (by have:=(p4 k1 k2 k3 k4).2;omega) hs (hlo.tn t1 hG) hd40 hn hlast).mono ?_
    rintro e w' ⟨rfl,hd',ht'⟩
    rw[hc.h5]at hd' ⊢
    refine⟨_,rfl,?_⟩
    by_cases h:r5.1=0
    · exact .inl ⟨h,t1.trans ht',hd',k1,k2,k3,k4,h⟩
    · refine .inr ⟨h,?_⟩
      unfold wrJ
      rw[hc.w,if_neg (dF.1 k1),if_neg (by omega),if_neg (by omega),if_neg (by omega)]
      exact⟨rfl,t1.trans ht',hd'⟩
 · rintro e w' ⟨k,rfl,h⟩
   rcases h with⟨rfl,t1,d1,k1,k2,k3,k4,k5⟩|⟨_,rfl,t1,d1⟩
   · rw[hc.w,if_neg (dF.1 k1),if_neg (by omega),if_neg (by omega),if_neg (by omega),k5]
     exact⟨rfl,d1,t1⟩
   · exact⟨rfl,d1,t1⟩
abbrev wrV (z:Nat) (i:FuncId):Value:= .func (.func i) #[] #[.pointer (some ⟨z,0,none⟩),.pointer (some ⟨z+1,0,none⟩)]
theorem w_acts_at {W1:World} {z:Nat} {n:Nat} (hlo:dO G w lb mp db L) (hd:aF F w db mb D) (hG:∀ q,G q→¬ aT db mb q) (hon:D.on=true) (ha:D.acts+10≤1000000) (hn:n<4294967296) (hlast:L.last=(n:Int))
 (hz:z=w.heap.size) (hb:Below w.heap.size w W1) (k2:W1.cell? ⟨z,0,none⟩=some (.pointer (some ⟨lb,0,none⟩))) (hz1:W1.heap.size=z+1) {dir:ByteArray} (hdir:L.dir=dir):
 Calls Tryz.prog 285 #[.slice (some ⟨z+1+1,0,none⟩) 5 5] ((W1.alloc (.cells #[.string (dir++tMend)] 9)).alloc (.cells #[wrV z 286,wrV z 287,wrV z 288,wrV z 289,wrV z 290] 64))
  fun e w'=>e= .returned (.int .i64 (L.write D).1)∧aF F w' db mb (L.write D).2∧Tn (aT db mb) w w':=by
 subst hdir
 obtain⟨W3,hW3⟩:∃ W3,(W1.alloc (.cells #[.string (L.dir++tMend)] 9)).alloc (.cells #[wrV z 286,wrV z 287,wrV z 288,wrV z 289,wrV z 290] 64)=W3:=⟨_,rfl⟩
 rw[hW3]
 have hz2:(W1.alloc (.cells #[.string (L.dir++tMend)] 9)).heap.size=z+1+1:=by simp[hz1]
 have b13:Below W1.heap.size W1 W3:=by rw[← hW3];exact((Below.refl _ _).alloc (Nat.le_refl _) _).alloc (by simp) _
 have b3:Below w.heap.size w W3:=hb.trans (b13.mono hb.size)
 have hdl:=hd.ltd
 have hml:=hd.m.lt
 have hm:=hlo
 obtain⟨ms,hm⟩:=hm
 have gl:=hG lb hm.gl
 have hlb:=hm.lt lb hm.gl
 have q1:W3.cell? ⟨z+1,0,none⟩=some (.string (L.dir++tMend)):=by
  have h1:(W1.alloc (.cells #[.string (L.dir++tMend)] 9)).cell? ⟨z+1,0,none⟩=some (.string (L.dir++tMend)):=by rw[← hz1];simp[go_sem]
  rw[← hW3]
  exact(((Below.refl _ _).alloc (Nat.le_refl _) _).cell (p:=⟨z+1,0,none⟩) (World.block_lt_of_cell? _ _ h1)).trans h1
 have q2:∀ j,j<5→W3.cell? ⟨z+1+1,j,none⟩=some (.func (.func (wrF j)) #[] #[.pointer (some ⟨z,0,none⟩),.pointer (some ⟨z+1,0,none⟩)]):=by
  intro j hj
  rw[← hW3,←hz2]
  match j,hj with
  |0,_=>simp[go_sem,wrF]
  |1,_=>simp[go_sem,wrF]
  |2,_=>simp[go_sem,wrF]
  |3,_=>simp[go_sem,wrF]
  |4,_=>simp[go_sem,wrF]
 have nt:∀ k,z≤k→¬ aT db mb k:=fun k hk h=>by rcases h with rfl|rfl<;>omega
 have hW:Wr W3 z (z+1) lb db mb (bR L.dir) L.left:=⟨(b13.cell (p:=⟨z,0,none⟩) (by show z<_;omega)).trans k2,(b3.cell (p:=⟨lb,0,none⟩) hlb).trans hm.c0,(b3.cell (p:=⟨lb,7,none⟩) hlb).trans hm.c7,q1,nt _ (by omega),gl,nt _ (by omega)⟩
 have hs:cD L.dir L.last=aV L.dir n:=by unfold cD;rw[hlast];rfl
 obtain⟨r1,r2,r3,r4,r5,hc⟩:=wrC L D
 rw[hs]at hc
 refine(w_acts hc hW (hd.below b3) (hlo.below b3) hG hon ha hn hlast hm.ok.dir (by have:=hm.ok.left;omega) q2 (nt _ (by omega))).mono ?_
 rintro e w' ⟨he,h1,h2⟩
 exact⟨he,h1,(Tn.ofBelow b3).trans h2⟩
set_option maxRecDepth 100000 in
set_option maxHeartbeats 2000000 in
theorem w_write (hlo:dO G w lb mp db L) (hd:aF F w db mb D) (hG:∀ q,G q→¬ aT db mb q) (hon:D.on=true) (ha:D.acts+10≤1000000) {n:Nat} (hn:n<4294967296) (hlast:L.last=(n:Int)):
 Calls Tryz.prog 231 #[.pointer (some ⟨lb,0,none⟩)] w fun e w'=>e= .returned (.int .i64 (L.write D).1)∧aF F w' db mb (L.write D).2∧Tn (aT db mb) w w':=by
 have hmf:∀ (fn:Fn) (first cap:Array Value) (w:World),(Instr.makeFunc fn first cap).run Tryz.prog w= .ok (.func fn first cap) w:=fun _ _ _ _=>rfl
 have hlo0:=hlo
 obtain⟨ms,hm⟩:=hlo
 have c1:=hm.c1
 have hd40:=hm.ok.dir
 have hleft:=hm.ok.left
 have gl:=hG lb hm.gl
 have HL:=aB (aA hlo0 (aA hd hm))
 have hdl:=hd.ltd
 have hml:=hd.m.lt
 clear hlo0 hd hm
 obtain⟨dir,hdir⟩:∃ dir,L.dir=dir:=⟨_,rfl⟩
 rw[hdir]at c1 hd40
 have HD:=aB hdir
 clear hdir
 have hlb:=World.block_lt_of_cell? _ _ c1
 obtain⟨W1,hW1⟩:∃ W1,w.alloc (.cells #[.pointer (some ⟨lb,0,none⟩)] 85)=W1:=⟨_,rfl⟩
 have b1:Below w.heap.size w W1:=by rw[← hW1];exact(Below.refl _ _).alloc (Nat.le_refl _) _
 have k1:W1.cell? ⟨lb,1,none⟩=some (.string dir):=(b1.cell (p:=⟨lb,1,none⟩) hlb).trans c1
 have k2:W1.cell? ⟨w.heap.size,0,none⟩=some (.pointer (some ⟨lb,0,none⟩)):=by rw[← hW1];simp[go_sem]
 have hz1:W1.heap.size=w.heap.size+1:=by rw[← hW1];simp
 have a1:¬ 9223372036854775807<dir.size+5:=by omega
 have B1:=aB b1
 clear b1 hlb
 go_enter Tryz.func231,Tryz.ntmps231
 go_wp2_with fail
 with_reducible refine(w_acts_at HL.out.1 HL.out.2.1 hG hon ha hn hlast rfl B1.out k2 hz1 HD.out).mono ?_
 rintro e w3 ⟨rfl,hd3,ht3⟩
 have H3:=aB (aA hd3 ht3)
 clear hd3 ht3 hW1 k1 k2
 go_wp2
 go_ret
 exact⟨rfl,H3.out.1,H3.out.2⟩
end
end Go.Proofs.YtpfibkgmfapnjaaGreatDoor
