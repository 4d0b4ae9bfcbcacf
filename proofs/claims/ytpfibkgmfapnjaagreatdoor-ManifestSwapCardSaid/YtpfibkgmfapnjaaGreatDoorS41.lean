/- Manifest: Open in general. -/
import Derived.Test.YtpfibkgmfapnjaaGreatDoorS40
import Derived.Test.YtpfibkgmfapnjaaGreatDoorS35
set_option linter.unusedSimpArgs false
set_option linter.unusedVariables false
namespace Go.Proofs.YtpfibkgmfapnjaaGreatDoor
section
open Go.RowKit
variable {w w' w0:World} {F F' G G' H:Nat→Prop} {B db mb lb mp mm k n:Nat} {D D':Dk} {L L':Lg} {S:List (Nat×Fl)} {dir dr bb:ByteArray} {s s0 t:PS} {e:PE} {q seq q0 p:Int} {stuck:Bool} {v:Value} {R:List (Int×PE)}
theorem set_self {b j:Nat} (h:w.cell? ⟨b,j,none⟩=some v):w.setCell ⟨b,j,none⟩ v=w:=by
 unfold World.cell? at h
 cases hb:w.heap[b]? with
 |none=>rw[show w.heap[(⟨b,j,none⟩:Addr).block]?=none from hb]at h;cases h
 |some o=>
  rw[show w.heap[(⟨b,j,none⟩:Addr).block]?=some o from hb]at h
  cases o with
  |cells c ty fr=>
   have h2:c[j]?=some v:=h
   have h3:c.setIfInBounds j v=c:=by
    apply Array.ext_getElem?
    intro i
    rw[Array.getElem?_setIfInBounds]
    split
    · rename_i hij
      subst hij
      split
      · exact h2.symm
      · rename_i hlt
        rw[Array.getElem?_eq_none (by omega)]at h2
        cases h2
    · rfl
   rw[Go.Sort.setCell_eq]
   unfold Go.Sort.mapBlock
   have:w.heap.modify b (Go.Sort.onCells (·.setIfInBounds j v))=w.heap:=by
    apply Array.ext_getElem?
    intro i
    rw[Array.getElem?_modify]
    split
    · rename_i hi
      subst hi
      rw[hb]
      simp[Go.Sort.onCells,h3]
    · rfl
   rw[this]
  |_=>cases h
set_option maxRecDepth 100000 in
set_option maxHeartbeats 2000000 in
theorem mloaded_any (h:MS B w0 w F G db mb lb mp mm D L dir s00 0 false) {b:ByteArray} (hb:BaseS b s0 q0) (hrec:L.records 0=R.map (fun x=>eJ x.1 x.2)) (hfl:(L.m.flatMap (·.2)).length≤1000000) (hRn:R.length≤100000) (hR:∀ x∈R,RecOk x) (hL:LoadsR s0 q0 R t p):
 Calls Tryz.prog 33 #[.pointer (some ⟨mm,0,none⟩),.string b] w fun r w'=>r= .returned (.int .i64 0)∧MS B w0 w' F G db mb lb mp mm D L dir t p false∧Tn (fun q=>q=mm) w w':=by
 have hmf:∀ (fn:Fn) (first cap:Array Value) (w:World),(Instr.makeFunc fn first cap).run Tryz.prog w= .ok (.func fn first cap) w:=fun _ _ _ _=>rfl
 obtain⟨w1,hw1⟩:∃ w1,w.alloc (.cells #[.int .i64 0] 27)=w1:=⟨_,rfl⟩
 have hb1:Below w.heap.size w w1:=by rw[← hw1];exact(Below.refl _ _).alloc (Nat.le_refl _) _
 have c0:w1.cell? ⟨w.heap.size,0,none⟩=some (.int .i64 0):=by rw[← hw1];simp[go_sem]
 have f0:w1.frozen? ⟨w.heap.size,0,none⟩=false:=by rw[← hw1];simp[go_sem]
 have hL:=mload_any (h.stay hb1) hb hrec hfl hRn hR hL
 have hml:=h.lt
 have HL:=aB (aA hL hb1)
 clear hL hb1 h hrec hfl hb hRn hR
 go_enter_defers Tryz.func33,Tryz.ntmps33
 go_wp2_with (go_at_call 146;refine HL.out.1.mono ?_;rintro r w2 ⟨rfl,h2,t2⟩;have T2:=aB ((Tn.ofBelow (F:=fun q=>q=mm) HL.out.2).andThen t2 (fun q e=> .inl e));have c2:=t2.cell c0 (show ¬ w.heap.size=mm by omega);have f2:=(t2.frozen (p:=⟨w.heap.size,0,none⟩) (World.block_lt_of_cell? _ _ c0) (show ¬ w.heap.size=mm by omega)).trans f0;have H2:=aB h2;clear h2 t2)
 refine leaves_cons (f:=145) (args:= #[.pointer (some ⟨w.heap.size,0,none⟩)]) (by simp) (by simp[go_sem]) ?_
 refine(mloaded_idle _ _).mono ?_
 rintro e u' w'' ⟨rfl,rfl,rfl⟩
 have hs:=set_self c2
 simp[Leaves,settle,results,Tryz.results33,go_sem,World.cell?_setCell_same _ _ _ c2]
 rw[hs]
 exact⟨H2.out,T2.out⟩
def OpenG (B:Nat) (w0:World) (F:Nat→Prop) (w:World) (db mb:Nat) (dir:ByteArray) (D:Dk) (S:List (Nat×Fl)) (t:PS) (p:Int) (r:Ending) (w':World):Prop:=
 ∃ F' G lb mp mm,r= .returned (.tuple #[.pointer (some ⟨mm,0,none⟩),.int .i64 0])∧MS B w0 w' F' G db mb lb mp mm D (opened (dir++tM) 4096 S) dir t p false∧Tn F w w'∧(∀ q,F' q→F q∨w.heap.size≤q)∧w.heap.size≤mm
set_option maxRecDepth 100000 in
set_option maxHeartbeats 4000000 in
theorem mopen_any (h:DS B w0 w F db mb D) (hd:dG dir=true) (hs:dir.size≤30) (hfz:D.fuse=none) (hq:D.quota<0∨(used (bX (dir++tM) D.m):Int)≤D.quota) (hon:D.on=true) (hlg:D.logP (dir++tM)=dE (aY (dir++tM) S none) q none k) (hr:cL S) (hg:∀ x∈S,cE x.2.data) (hsy:∀ x∈S,iL x.2) (hl:S.length<20000) (hk:k+20≤1000000)
 {b:ByteArray} {c:Int} (hread:D.read (bP dir)=(b,c)) (hc:c=22∨(c=0∧b.size≠0)) (hb:BaseS b s0 q0) (hall:cZ S=R.map (fun x=>eJ x.1 x.2)) (hRn:R.length≤100000) (hR:∀ x∈R,RecOk x) (hL:LoadsR s0 q0 R t p):
 Calls Tryz.prog 9 #[.pointer (some ⟨db,0,none⟩),.string dir] w (OpenG B w0 F w db mb dir D S t p):=by
 have hdr:dG (dir++tM)=true:=dirN_nm hd hs (by decide) (by decide)
 have hd40:(dir++tM).size≤40:=by rw[ByteArray.size_append];show dir.size+2≤40;omega
 have hn:=name_any dir w (by omega)
 rw[hd]at hn
 have b0:¬ (30:Int)<(dir.size:Int):=by omega
 have b1:¬ 9223372036854775807<dir.size+2:=by omega
 have b2:¬ 9223372036854775807<dir.size+6:=by omega
 have hrec:(opened (dir++tM) 4096 S).records 0=R.map (fun x=>eJ x.1 x.2):=by rw[records_all hr rfl];exact hall
 have hfl:((opened (dir++tM) 4096 S).m.flatMap (·.2)).length≤1000000:=by
  rw[flat_m (S:=S) rfl,hall,List.length_map]
  omega
 have hz6:(dir++tSnap).size≤140737488351232:=by rw[ByteArray.size_append];show dir.size+6≤_;omega
 have hop:=fun w2 (h2:DS B w0 w2 F db mb D)=>lg_open h2 hdr hd40 hfz hq hon hlg hr hg hsy hl hk
 have hread':D.read (dir++tSnap)=(b,c):=hread
 have HH:=aB (aA h (aA hn (aA hop (aA hread' (aA hrec (aA hfl (aA hz6 (aA hb (aA hR hL)))))))))
 clear h hn hdr hd40 hread hread' hrec hfl hz6 hd hop hq hlg hr hg hsy hb hR hL hall
 rcases hc with rfl|⟨rfl,hne⟩
 · go_enter Tryz.func9,Tryz.ntmps9
   go_wp2_with (first
    |(go_at_call 33;refine(mloaded_any H6.out HH.out.2.2.2.2.2.2.2.1 HH.out.2.2.2.2.1 HH.out.2.2.2.2.2.1 hRn HH.out.2.2.2.2.2.2.2.2.1 HH.out.2.2.2.2.2.2.2.2.2).mono ?_;rintro r w7 ⟨rfl,h7,t7⟩;have H7:=aB h7;have T7:=aB (T6.out.andThen t7 (fun q e=> .inr (by rw[e];exact T5.out.2)));clear h7 t7)
    |(go_at_call 32;refine(read_any H5.out.ws.d.d hon (dir++tSnap) HH.out.2.2.2.2.2.2.1).mono ?_;rw[HH.out.2.2.2.1];rintro r w6 ⟨rfl,hb6⟩;have H6:=aB (H5.out.stay hb6);have T6:=aB (T5.out.1.andThen (Tn.ofBelow (F:=fun _=>False) hb6) (fun _ e=>e.elim));clear hb6)
    |(go_at_call 31;refine(cB _ dir (by omega)).mono ?_;rintro r w4 ⟨rfl,hb4⟩;obtain⟨w5,hw5⟩:∃ w5,w4.alloc (.cells #[.pointer (some ⟨db,0,none⟩),.string dir,.pointer (some ⟨lb,0,none⟩),.slice none 0 0,.int .i64 0,.int .i64 0,.slice none 0 0,.slice none 0 0,.int .i64 0,.bool false] 90)=w5:=⟨_,rfl⟩;have h5:=MS.made (H3.out.stay hb4) dir;rw[hw5]at h5;have H5:=aB h5;have hb5:Below w4.heap.size w4 w5:=(by rw[← hw5];exact(Below.refl _ _).alloc (Nat.le_refl _) _);have T5:=aB (aA ((T3.out.1.andThen (Tn.ofBelow (F:=fun _=>False) hb4) (fun _ e=>e.elim)).andThen (Tn.ofBelow (F:=fun _=>False) hb5) (fun _ e=>e.elim)) (Nat.le_trans T3.out.1.size hb4.size));clear h5 hb4 hb5)
    |(go_at_call 30;refine(HH.out.2.2.1 _ H2.out).mono ?_;rintro r w3 ⟨F3,lb,mp,G3,rfl,h3,s3,_⟩;have H3:=aB h3;have T3:=aB (aA (T2.out.andThen s3.t (fun q e=> .inl e)) (fun q (e:F3 q)=>(s3.n q e).imp id (Nat.le_trans T2.out.size)));clear h3 s3)
    |(go_at_call 29;refine HH.out.2.1.mono ?_;rintro r w2 ⟨rfl,hb2⟩;have h2:=HH.out.1.stay hb2;have H2:=aB h2;have T2:=aB (Tn.ofBelow (F:=F) hb2);clear h2 hb2))
   go_ret2
   exact⟨F3,G3,lb,mp,w4.heap.size,rfl,H7.out,T7.out,T3.out.2,T5.out.2⟩
 · have t0:b.toList.isEmpty=false:=emp_no hne
   clear hne
   go_enter Tryz.func9,Tryz.ntmps9
   go_wp2_with (first
    |(go_at_call 33;refine(mloaded_any H6.out HH.out.2.2.2.2.2.2.2.1 HH.out.2.2.2.2.1 HH.out.2.2.2.2.2.1 hRn HH.out.2.2.2.2.2.2.2.2.1 HH.out.2.2.2.2.2.2.2.2.2).mono ?_;rintro r w7 ⟨rfl,h7,t7⟩;have H7:=aB h7;have T7:=aB (T6.out.andThen t7 (fun q e=> .inr (by rw[e];exact T5.out.2)));clear h7 t7)
    |(go_at_call 32;refine(read_any H5.out.ws.d.d hon (dir++tSnap) HH.out.2.2.2.2.2.2.1).mono ?_;rw[HH.out.2.2.2.1];rintro r w6 ⟨rfl,hb6⟩;have H6:=aB (H5.out.stay hb6);have T6:=aB (T5.out.1.andThen (Tn.ofBelow (F:=fun _=>False) hb6) (fun _ e=>e.elim));clear hb6)
    |(go_at_call 31;refine(cB _ dir (by omega)).mono ?_;rintro r w4 ⟨rfl,hb4⟩;obtain⟨w5,hw5⟩:∃ w5,w4.alloc (.cells #[.pointer (some ⟨db,0,none⟩),.string dir,.pointer (some ⟨lb,0,none⟩),.slice none 0 0,.int .i64 0,.int .i64 0,.slice none 0 0,.slice none 0 0,.int .i64 0,.bool false] 90)=w5:=⟨_,rfl⟩;have h5:=MS.made (H3.out.stay hb4) dir;rw[hw5]at h5;have H5:=aB h5;have hb5:Below w4.heap.size w4 w5:=(by rw[← hw5];exact(Below.refl _ _).alloc (Nat.le_refl _) _);have T5:=aB (aA ((T3.out.1.andThen (Tn.ofBelow (F:=fun _=>False) hb4) (fun _ e=>e.elim)).andThen (Tn.ofBelow (F:=fun _=>False) hb5) (fun _ e=>e.elim)) (Nat.le_trans T3.out.1.size hb4.size));clear h5 hb4 hb5)
    |(go_at_call 30;refine(HH.out.2.2.1 _ H2.out).mono ?_;rintro r w3 ⟨F3,lb,mp,G3,rfl,h3,s3,_⟩;have H3:=aB h3;have T3:=aB (aA (T2.out.andThen s3.t (fun q e=> .inl e)) (fun q (e:F3 q)=>(s3.n q e).imp id (Nat.le_trans T2.out.size)));clear h3 s3)
    |(go_at_call 29;refine HH.out.2.1.mono ?_;rintro r w2 ⟨rfl,hb2⟩;have h2:=HH.out.1.stay hb2;have H2:=aB h2;have T2:=aB (Tn.ofBelow (F:=F) hb2);clear h2 hb2))
   go_ret2
   exact⟨F3,G3,lb,mp,w4.heap.size,rfl,H7.out,T7.out,T3.out.2,T5.out.2⟩
end
section
open Go.Lib
variable {dir r b:ByteArray} {D D':Dk} {L L':Lg} {S S':List (Nat×Fl)} {q p q0:Int} {k c:Nat} {bo zo:Option Fl} {s s0 t:PS} {e:PE} {R:List (Int×PE)}
section
variable (hd:dG dir=true) (hd30:dir.size≤30)
include hd hd30
theorem dm_nm:dG (dir++tM)=true:=dirN_nm hd hd30 (by decide) (by decide)
omit hd in
theorem dm_40:(dir++tM).size≤40:=by rw[ByteArray.size_append];show dir.size+2≤40;omega
theorem mwr_free (h:Rs dir D S k bo zo) (hq:D.quota<0) (hS:S.length+10<20000) (hb:b.size≤1048576):
 (mwr D (bY dir) (bP dir) b).1=0∧(mwr D (bY dir) (bP dir) b).2.quota=D.quota∧∃ k',k'≤k+5∧Rs dir (mwr D (bY dir) (bP dir) b).2 S k' (some ⟨b,b.size⟩) none:=by
 obtain⟨h0,_,hq1,_,k1,hk1,r1⟩:=h.remove hd hd30
 obtain⟨D1,hD1⟩:∃ D1,(D.remove (bY dir)).2=D1:=⟨_,rfl⟩
 rw[hD1]at hq1 r1
 obtain⟨c2,r2⟩:=r1.create hd hd30 (by omega)
 obtain⟨D2,hD2⟩:∃ D2,({D1 with m:=aG D1.m (bY dir) ⟨ByteArray.empty,0⟩,acts:=D1.acts+1}:Dk)=D2:=⟨_,rfl⟩
 have hq2:D2.quota=D.quota:=by rw[← hD2];exact hq1
 rw[hD2]at c2 r2
 rcases r2.app (b:=b) hd hd30 (show 0+b.size≤_ by omega)with⟨_,h3⟩|⟨c3,r3,_⟩
 · omega
 rw[ByteArray.empty_append]at c3 r3
 obtain⟨D3,hD3⟩:∃ D3,({D2 with m:=aG D2.m (bY dir) ⟨b,0⟩,acts:=D2.acts+1}:Dk)=D3:=⟨_,rfl⟩
 have hq3:D3.quota=D.quota:=by rw[← hD3];exact hq2
 rw[hD3]at c3 r3
 obtain⟨c4,r4⟩:=r3.sync hd hd30
 obtain⟨D4,hD4⟩:∃ D4,({D3 with m:=aG D3.m (bY dir) ⟨b,b.size⟩,acts:=D3.acts+1}:Dk)=D4:=⟨_,rfl⟩
 have hq4:D4.quota=D.quota:=by rw[← hD4];exact hq3
 rw[hD4]at c4 r4
 obtain⟨c5,r5⟩:=r4.rename hd hd30
 obtain⟨D5,hD5⟩:∃ D5,({D4 with m:=aG (aW D4.m (bY dir)) (bP dir) ⟨b,b.size⟩,acts:=D4.acts+1}:Dk)=D5:=⟨_,rfl⟩
 have hq5:D5.quota=D.quota:=by rw[← hD5];exact hq4
 rw[hD5]at c5 r5
 have hw:mwr D (bY dir) (bP dir) b=(0,D5):=by
  unfold mwr
  simp only
  rw[if_neg (by omega),hD1,c2]
  simp only[ne_eq,not_true_eq_false,if_false]
  rw[c3]
  simp only[ne_eq,not_true_eq_false,if_false]
  rw[c4]
  simp only[ne_eq,not_true_eq_false,if_false]
  rw[c5]
  simp
 rw[hw]
 exact⟨rfl,hq5,k1+1+1+1+1,by omega,r5⟩
theorem swap_free (o:eG (dir++tM) D L S q k) (hro:dV dir (bX (dir++tM) D.m) bo zo) (hq:D.quota<0) (hS:S.length+60≤20000) (hl:aP S+1<4294967296) (hk:k+30000≤1000000) (hb:b.size≤1048576):
 (dC dir D L b).1=0∧SwPre dir D L b∧(dC dir D L b).2.1.quota=D.quota∧(dC dir D L b).2.2.long=0∧dV dir (bX (dir++tM) (dC dir D L b).2.1.m) (some ⟨b,b.size⟩) none∧∃ k',k'≤k+S.length+6∧eG (dir++tM) (dC dir D L b).2.1 (dC dir D L b).2.2 [] D.quota k':=by
 have hdm:=dm_nm hd hd30
 have hdz:=dm_40 hd30
 have hl2:=hro.len
 obtain⟨h1,S1,k1,o1,t1,op1,hk1,_,hS1,hl1,sy1⟩:=lg_rotate hdm hdz o (by omega)
 have hro1:dV dir (bX (dir++tM) (L.rotate D).2.1.m) bo zo:=by rw[t1.rst];exact hro
 have hq1:(L.rotate D).2.1.quota<0:=by rw[t1.quo];exact hq
 obtain⟨h2,hq2,k2,hk2,r2⟩:=mwr_free hd hd30 (b:=b) (o1.rs hro1) hq1 (by omega) hb
 obtain⟨D2,hD2⟩:∃ D2,(mwr (L.rotate D).2.1 (bY dir) (bP dir) b).2=D2:=⟨_,rfl⟩
 rw[hD2]at hq2 r2
 have o2:=r2.lg o1.run (.inl (by omega))
 rw[if_pos (by omega)]at o2
 have hl3:=r2.ok.len
 have hlast:(L.rotate D).2.2.last+1=(aP S1:Int)+1:=by rw[o1.run.last]
 obtain⟨h3,k3,o3,t3,op3,hk3⟩:=lg_drop hdm hdz o2 (by omega) op1 sy1 ((aP S1:Int)+1)
 rw[keep_none o1.run.rise]at o3
 have hm:dC dir D L b=(L.rotate D).2.2.drop D2 ((L.rotate D).2.2.last+1):=by
  unfold dC
  simp only
  rw[if_neg (by rw[h1];simp),if_neg (by rw[h2];simp),hD2]
 rw[hm,hlast]
 have hqq:D2.quota=D.quota:=hq2.trans t1.quo
 refine⟨h3,⟨o.on,by rw[o.acts];omega,⟨aP S,by omega,o.run.last⟩,fun _=>⟨o1.on,by rw[o1.acts];omega⟩,fun _ _=>?_⟩,t3.quo.trans hqq,?_,by rw[t3.rst];exact r2.ok,k3,by omega,by rw[← hqq];exact o3⟩
 · rw[hD2]
   exact⟨o2.on,by rw[o2.acts];omega⟩
 · rcases o3.run.op with⟨_,h,_⟩|⟨A,n,f,e,_⟩
   · exact h
   · simp at e
theorem lay_free (o:eG (dir++tM) D L S q k) (hl2:(bX (dir++tM) D.m).length≤2) (hq:q<0) (hS:S.length+60≤20000) (hl:aP S+1<4294967296) (hk:k+100≤1000000) (hlong:L.long≤200000) (hrec:(cZ S).length+1≤1000000) (hr:r.size≤131072):
 (jE D L r).1=0∧mB D L r∧(jE D L r).2.2.long≤200000∧Oth (dir++tM) D (jE D L r).2.1∧∃ S' k',k'≤k+4∧eG (dir++tM) (jE D L r).2.1 (jE D L r).2.2 S' q k'∧cZ S'=cZ S++[r]∧S'.length≤S.length+1∧aP S'≤aP S+1∧∀ x∈S',iL x.2:=by
 have hdm:=dm_nm hd hd30
 have hdz:=dm_40 hd30
 rcases lg_append hdm hdz o (by omega) hl r hr with⟨h0,S1,k1,o1,t1,ha,hk1,_⟩|⟨_,h2,_⟩
 · obtain⟨f1,_,_,f4,_,f6⟩:=app_facts o.run ha hr
   obtain⟨h2,S2,k2,o2,t2,hk2,hA2,hS2,hl2',sy2,_⟩:=lg_sync hdm hdz o1 (by rw[t1.rst];omega)
   have hm:jE D L r=(((L.append D r).2.2.sync (L.append D r).2.1).1,((L.append D r).2.2.sync (L.append D r).2.1).2,(L.append D r).2.2):=by
    unfold jE
    simp only
    rw[if_neg (by rw[h0];simp)]
   rw[hm]
   refine⟨h2,⟨lg_pre o (by omega) (by omega) hrec (by omega) hlong,fun _=>⟨o1.on,by rw[o1.acts];omega⟩⟩,append_short o.run.torn hr o.run.pos.1 o.run.pos.2 (by rw[o.run.size];decide) hlong,t1.trans t2,S2,k2,by omega,o2,by rw[hA2,f1],by omega,by omega,sy2⟩
 · omega
end
structure Mn (dir:ByteArray) (D:Dk) (L:Lg) (S:List (Nat×Fl)) (k:Nat) (bo:Option Fl) (s0:PS) (q0:Int) (R:List (Int×PE)) (s:PS) (p:Int):Prop where
 o:eG (dir++tM) D L S D.quota k
 qn:D.quota<0
 rst:dV dir (bX (dir++tM) D.m) bo none
 syn:∀ x∈S,iL x.2
 long:L.long≤200000
 base:(bo=none∧s0=s01∧q0=0)∨(cR s0∧1≤s0.next∧0≤q0∧bo=some ⟨cT s0 q0,(cT s0 q0).size⟩)
 all:cZ S=R.map (fun x=>eJ x.1 x.2)
 rok:∀ x∈R,RecOk x
 ld:LoadsR s0 q0 R s p
 gs:cR s
 nx:1≤s.next
 q0p:q0≤p
 p0:0≤p
structure Cn (S:List (Nat×Fl)) (k:Nat) (R:List (Int×PE)) (p:Int) (c:Nat):Prop where
 s:S.length≤c
 l:aP S≤c
 r:R.length≤c
 p:p≤c
 k:k≤300*c
theorem Cn.mono {c':Nat} (h:Cn S k R p c) (hc:c≤c'):Cn S k R p c':=⟨by have:=h.s;omega,by have:=h.l;omega,by have:=h.r;omega,by have:=h.p;omega,by have:=h.k;omega⟩
theorem kR {t u:PS} (ha:aO t e=(0,u)):∀ (R:List (Int×PE)) (s:PS) (q p:Int),LoadsR s q R t p→LoadsR s q (R++[(p+1,e)]) u (p+1)
 |[],s,q,p,h=>by
  obtain⟨rfl,rfl⟩:=h
  exact .inr ⟨rfl,u,ha,rfl,rfl⟩
 |x::R,s,q,p,h=>by
  rcases h with⟨h1,h2⟩|⟨h1,s1,h2,h3⟩
  · exact .inl ⟨h1,kR ha R s q p h2⟩
  · exact .inr ⟨h1,s1,h2,kR ha R s1 _ p h3⟩
theorem recB_size (x:Int) (e:PE):(eJ x e).size=1+(recL x e).length:=by
 unfold eJ
 rw[ByteArray.size_append,bQ]
 rfl
section
variable (hd:dG dir=true) (hd30:dir.size≤30)
include hd hd30
theorem Mn.swap (h:Mn dir D L S k bo s0 q0 R s p) (hc:Cn S k R p c) (hcc:c≤200):
 (dC dir D L (cT s p)).1=0∧SwPre dir D L (cT s p)∧∃ k',Mn dir (dC dir D L (cT s p)).2.1 (dC dir D L (cT s p)).2.2 [] k' (some ⟨cT s p,(cT s p).size⟩) s p [] s p∧Cn [] k' [] p (c+1):=by
 have hs:=hc.s
 have hl:=hc.l
 have hk:=hc.k
 have hp:=hc.p
 obtain⟨h1,h2,h3,h4,h5,k',h6,h7⟩:=swap_free hd hd30 (b:=cT s p) h.o h.rst h.qn (by omega) (by omega) (by omega) (by have:=kM h.gs p;omega)
 refine⟨h1,h2,k',⟨by rw[h3];exact h7,by rw[h3];exact h.qn,h5,fun x hx=>by simp at hx,by rw[h4];omega,.inr ⟨h.gs,h.nx,h.p0,rfl⟩,rfl,fun x hx=>by simp at hx,⟨rfl,rfl⟩,h.gs,h.nx,Int.le_refl _,h.p0⟩,⟨by simp,by simp[aP],by simp,by omega,by omega⟩⟩
theorem Mn.lay (h:Mn dir D L S k bo s0 q0 R s p) (hc:Cn S k R p c) (hcc:c≤200) (hok:RecOk (p+1,e)) (hz:(recL (p+1) e).length≤100000) (ha:aO s e=(0,t)):
 (jE D L (eJ (p+1) e)).1=0∧mB D L (eJ (p+1) e)∧∃ S' k',Mn dir (jE D L (eJ (p+1) e)).2.1 (jE D L (eJ (p+1) e)).2.2 S' k' bo s0 q0 (R++[(p+1,e)]) t (p+1)∧Cn S' k' (R++[(p+1,e)]) (p+1) (c+1):=by
 have hs:=hc.s
 have hl:=hc.l
 have hk:=hc.k
 have hp:=hc.p
 have hr:=hc.r
 obtain⟨h1,h2,h3,h4,S',k',h5,h6,h7,h8,h9,h10⟩:=lay_free hd hd30 (r:=eJ (p+1) e) h.o h.rst.len h.qn (by omega) (by omega) (by omega) h.long (by rw[h.all,List.length_map];omega) (by rw[recB_size];omega)
 obtain⟨g1,g2,_⟩:=kS h.gs ha
 have hp0:=h.p0
 have hq0:=h.q0p
 refine⟨h1,h2,S',k',⟨by rw[h4.quo];exact h6,by rw[h4.quo];exact h.qn,by rw[h4.rst];exact h.rst,h10,h3,h.base,by rw[h7,h.all,List.map_append];rfl,fun x hx=>?_,kR ha R s0 q0 p h.ld,g1,by omega,by omega,by omega⟩,⟨by omega,by omega,by rw[List.length_append];simp;omega,by omega,by omega⟩⟩
 rcases List.mem_append.1 hx with hx|hx
 · exact h.rok x hx
 · rw[List.mem_singleton]at hx;rw[hx];exact hok
theorem Mn.commit (h:Mn dir D L S k bo s0 q0 R s p) (hc:Cn S k R p c) (hcc:c≤190) (hok:RecOk (p+1,e)) (hz:(recL (p+1) e).length≤100000) (ha:aO s e=(0,t)):
 (dK dir D L (cT s p) (eJ (p+1) e)).1=0∧(¬ 17≤(D.list (dir++tM)).length→mB D L (eJ (p+1) e))∧(17≤(D.list (dir++tM)).length→(dC dir D L (cT s p)).1=0→mB (dC dir D L (cT s p)).2.1 (dC dir D L (cT s p)).2.2 (eJ (p+1) e))∧
 ∃ S' k' bo' s0' q0' R',Mn dir (dK dir D L (cT s p) (eJ (p+1) e)).2.1 (dK dir D L (cT s p) (eJ (p+1) e)).2.2 S' k' bo' s0' q0' R' t (p+1)∧Cn S' k' R' (p+1) (c+2):=by
 obtain⟨h1,_,k1,hm1,hc1⟩:=h.swap hd hd30 hc (by omega)
 obtain⟨l1,l2,S2,k2,hm2,hc2⟩:=hm1.lay hd hd30 hc1 (by omega) hok hz ha
 obtain⟨l3,l4,S3,k3,hm3,hc3⟩:=h.lay hd hd30 hc (by omega) hok hz ha
 unfold dK
 by_cases h17:17≤(D.list (dir++tM)).length
 · rw[if_pos h17]
   simp only
   rw[if_neg (by rw[h1];simp)]
   exact⟨l1,fun e=>absurd h17 e,fun _ _=>l2,S2,k2,_,_,_,_,hm2,hc2⟩
 · rw[if_neg h17]
   exact⟨l3,fun _=>l4,fun e=>absurd e h17,S3,k3,_,_,_,_,hm3,hc3.mono (by omega)⟩
end
end
section
open Go.RowKit
def addW (l:List Fi):Nat:=(l.map (fun u=>u.f.size+u.l.size)).sum
theorem addW_app (a b:List Fi):addW (a++b)=addW a+addW b:=by unfold addW;rw[List.map_append,List.sum_append]
def lightW (e:PE):Nat:=lightN e+addW e.add+aJ e.ns
def LwAns (e:PE) (w:World) (r:Ending) (w':World):Prop:=∃ b,r= .returned (.bool b)∧Below w.heap.size w w'∧(b=true→lightW e<40000)
set_option maxRecDepth 100000 in
set_option maxHeartbeats 4000000 in
theorem lightw_any {w:World} {ev:Value} {e:PE} (he:EdV w ev e) (hw:e.wf):Calls Tryz.prog 11 #[ev] w (LwAns e w):=by
 obtain⟨xv,yv,mv,ov,rfl,he1,he2,he3,he4⟩:=he
 obtain⟨⟨q1,q1s⟩,q2,q3,q4,q4s⟩:=hw
 obtain⟨xa,xc,rfl,_,_⟩:=he1.form
 obtain⟨ya,yc,rfl,_,_⟩:=he2.form
 obtain⟨ma,mc,rfl,_,_⟩:=he3.form
 obtain⟨oa,oc,rfl,_,_⟩:=he4.form
 obtain⟨xn,hxn⟩:∃ n,e.add.length=n:=⟨_,rfl⟩
 obtain⟨yn,hyn⟩:∃ n,e.rem.length=n:=⟨_,rfl⟩
 obtain⟨mn,hmn⟩:∃ n,e.fl.length=n:=⟨_,rfl⟩
 obtain⟨on,hon⟩:∃ n,e.ns.length=n:=⟨_,rfl⟩
 rw[hxn]at he1 q1 ⊢
 rw[hyn]at q2 ⊢
 rw[hmn]at q3 ⊢
 rw[hon]at he4 q4 ⊢
 have hbase:lightN e=xn*20+yn+on*20+mn:=by unfold lightN;rw[hxn,hyn,hmn,hon]
 obtain⟨base,hbs⟩:∃ b:Nat,xn*20+yn+on*20+mn=b:=⟨_,rfl⟩
 have hb1:base≤6000000000000000:=by omega
 have HX:=aB (aA he1 (aA hxn q1s))
 have HO:=aB (aA he4 (aA hon q4s))
 have HB:=aB (hbase.trans hbs)
 clear he1 he2 he3 he4 q1s q4s hxn hyn hmn hon hbase
 obtain⟨w1,hw1⟩:∃ w1,w.alloc (.cells #[.slice xa xn xc,.slice ya yn yc,.int .i64 e.log,.slice ma mn mc,.slice oa on oc] 56)=w1:=⟨_,rfl⟩
 have h1:Lb w w1 (.slice xa xn xc) (.slice ya yn yc) (.int .i64 e.log) (.slice ma mn mc) (.slice oa on oc):=by
  rw[← hw1]
  refine⟨?_,?_,?_,?_,?_,(Below.refl _ _).alloc (Nat.le_refl _) _,by simp⟩
  all_goals simp[go_sem]
 have H1:=aB h1
 clear h1
 have a0:=H1.out.a0
 have a1:=H1.out.a1
 have a2:=H1.out.a2
 have a3:=H1.out.a3
 have a4:=H1.out.a4
 have hbz:(xn:Int)*20+(yn:Int)+(on:Int)*20+(mn:Int)=(base:Int):=by omega
 go_enter Tryz.func11,Tryz.ntmps11
 go_wp2
 clear a0 a1 a2 a3 a4 hw1
 go_loopw [3,4] (fun nv iv wr=>∃ (i:Nat) (m:Int),i≤xn∧iv= .int .i64 (i:Int)∧nv= .int .i64 m∧(base:Int)+(addW (e.add.take i):Int)≤m∧m≤7000000000000000∧Lb w wr (.slice xa xn xc) (.slice ya yn yc) (.int .i64 e.log) (.slice ma mn mc) (.slice oa on oc)) (fun _ iv _=>xn - (intOf iv).toNat)
 case atStart=>exact⟨0,base,by omega,rfl,by first|rfl|go_num,by rw[List.take_zero];show(base:Int)+((0:Nat):Int)≤_;omega,by omega,H1.out⟩
 case round=>
  obtain⟨i,m,hi,rfl,rfl,hm1,hm2,hb⟩:=hrel
  have HL:=aB hb
  have a0:=hb.a0
  have a4:=hb.a4
  clear hb
  by_cases hlt:i<xn
  · have z0:(i:Int)<(xn:Int):=by omega
    by_cases hm:m<40000
    · have hil:i<e.add.length:=by rw[HX.out.2.1];exact hlt
      obtain⟨b,off,rfl,hbl,c0,c1,c2,c3,c4,c5⟩:=eD (HX.out.1.below HL.out.bel) hil
      have hs:=HX.out.2.2 _ (List.getElem_mem hil)
      obtain⟨u,hu⟩:∃ u,e.add[i]=u:=⟨_,rfl⟩
      rw[hu]at c0 c1 c2 c3 c4 c5 hs
      have htk:(addW (e.add.take (i+1)):Int)=(addW (e.add.take i):Int)+((u.f.size:Int)+(u.l.size:Int)):=by rw[List.take_succ_eq_append_getElem hil,hu,addW_app];show((_+(u.f.size+u.l.size+0):Nat):Int)=_;omega
      have HTK:=aB htk
      obtain⟨hs1,hs2⟩:=hs
      have z1:(0:Int)≤(i:Int):=by omega
      clear hu c0 c1 c2 c3 htk
      go_wp2
      go_quiet (fail)
      go_wp2
      go_roundw
      case rel=>exact⟨i+1,m+(u.f.size:Int)+(u.l.size:Int),by omega,by go_num,by go_num,by rw[HTK.out];omega,by omega,HL.out.drewN _⟩
      case measure=>simp[intOf];omega
    · go_wp2
      have HM:=aB hm1
      clear a0 a4
      go_loopw [3,5] (fun nv jv wr=>∃ (j:Nat) (q:Int),j≤on∧jv= .int .i64 (j:Int)∧nv= .int .i64 q∧(40000:Int)≤q∧q≤7000000000000000∧Lb w wr (.slice xa xn xc) (.slice ya yn yc) (.int .i64 e.log) (.slice ma mn mc) (.slice oa on oc)) (fun _ jv _=>on - (intOf jv).toNat)
      case atStart=>exact⟨0,m,by omega,rfl,by first|rfl|go_num,by omega,by omega,HL.out⟩
      case round=>
       obtain⟨j,q,hj,rfl,rfl,hq1,hq2,hb⟩:=hrel
       have HK:=aB hb
       have a0:=hb.a0
       have a4:=hb.a4
       clear hb
       by_cases hlj:j<on
       · have z0:(j:Int)<(on:Int):=by omega
         have hq:¬ q<40000:=by omega
         go_wp2
         go_ret
         exact⟨_,rfl,HK.out.bel,fun h9=>by simp at h9⟩
       · obtain rfl:j=on:=by omega
         have hq:¬ q<40000:=by omega
         go_wp2
         go_ret
         exact⟨_,rfl,HK.out.bel,fun h9=>by simp at h9⟩
  · obtain rfl:i=xn:=by omega
    have hfull:e.add.take i=e.add:=by rw[← HX.out.2.1];exact List.take_length
    rw[hfull]at hm1
    clear hfull
    go_wp2
    have HM:=aB hm1
    clear a0 a4
    go_loopw [3,5] (fun nv jv wr=>∃ (j:Nat) (q:Int),j≤on∧jv= .int .i64 (j:Int)∧nv= .int .i64 q∧(base:Int)+(addW e.add:Int)+(aJ (e.ns.take j):Int)≤q∧q≤7000000000000000∧Lb w wr (.slice xa i xc) (.slice ya yn yc) (.int .i64 e.log) (.slice ma mn mc) (.slice oa on oc)) (fun _ jv _=>on - (intOf jv).toNat)
    case atStart=>exact⟨0,m,by omega,rfl,by first|rfl|go_num,by rw[List.take_zero];show(base:Int)+(addW e.add:Int)+((0:Nat):Int)≤_;have:=HM.out;omega,by omega,HL.out⟩
    case round=>
     obtain⟨j,q,hj,rfl,rfl,hq1,hq2,hb⟩:=hrel
     have HK:=aB hb
     have a0:=hb.a0
     have a4:=hb.a4
     clear hb
     by_cases hlj:j<on
     · have z0:(j:Int)<(on:Int):=by omega
       by_cases hq:q<40000
       · have hjl:j<e.ns.length:=by rw[HO.out.2.1];exact hlj
         obtain⟨b,off,rfl,hbl,c0,c1⟩:=cY (HO.out.1.below HK.out.bel) hjl
         have hs:=HO.out.2.2 _ (List.getElem_mem hjl)
         obtain⟨u,hu⟩:∃ u,e.ns[j]=u:=⟨_,rfl⟩
         rw[hu]at c0 c1 hs
         have htk:(aJ (e.ns.take (j+1)):Int)=(aJ (e.ns.take j):Int)+(u.2.size:Int):=by rw[List.take_succ_eq_append_getElem hjl,hu,kK];show((_+(u.2.size+0):Nat):Int)=_;omega
         have HTK:=aB htk
         obtain⟨hs1,hs2⟩:=hs
         have z1:(0:Int)≤(j:Int):=by omega
         clear hu c0 htk
         go_wp2
         go_roundw
         case rel=>exact⟨j+1,q+(u.2.size:Int),by omega,by go_num,by go_num,by rw[HTK.out];omega,by omega,HK.out⟩
         case measure=>simp[intOf];omega
       · go_wp2
         go_ret
         exact⟨_,rfl,HK.out.bel,fun h9=>by simp at h9⟩
     · obtain rfl:j=on:=by omega
       have hfull:e.ns.take j=e.ns:=by rw[← HO.out.2.1];exact List.take_length
       rw[hfull]at hq1
       clear hfull
       by_cases hq:q<40000
       · go_wp2
         go_ret
         exact⟨_,rfl,HK.out.bel,fun h9=>by unfold lightW;rw[HB.out];omega⟩
       · go_wp2
         go_ret
         exact⟨_,rfl,HK.out.bel,fun h9=>by simp at h9⟩
theorem numL_lt {v:Int} {k:Nat} (hk:k≤8) (h:v.toNat<128 ^ (k+1)):(aS v).length≤k+1:=by
 have:∀ (k m v:Nat),k≤m→v<128 ^ (k+1)→(Rw.putK m v).length≤k+1:=by
  intro k
  induction k with
  |zero=>
   intro m v _ hv
   rw[Rw.putK_small m (by simpa using hv)]
   simp
  |succ k ih=>
   intro m v hm hv
   by_cases hs:v<128
   · rw[Rw.putK_small m hs];simp
   · obtain⟨m',rfl⟩:∃ m',m=m'+1:=⟨m - 1,by omega⟩
     rw[Rw.putK_big m' (by omega),List.length_cons]
     have:=ih m' (v/128) (by omega) (by rw[Nat.div_lt_iff_lt_mul (by omega)];rw[Nat.pow_succ]at hv;exact hv)
     omega
 exact this k 8 v.toNat hk h
theorem n5 {v:Int} (h:v≤2147483648):(aS v).length≤5:=numL_lt (k:=4) (by omega) (by have:(128:Nat) ^ 5=34359738368:=rfl;omega)
theorem n3 {v:Int} (h:v≤2000000):(aS v).length≤3:=numL_lt (k:=2) (by omega) (by have:(128:Nat) ^ 3=2097152:=rfl;omega)
theorem n2 {v:Int} (h:v≤16000):(aS v).length≤2:=numL_lt (k:=1) (by omega) (by have:(128:Nat) ^ 2=16384:=rfl;omega)
theorem n1 {v:Int} (h:v≤127):(aS v).length≤1:=numL_lt (k:=0) (by omega) (by have:(128:Nat) ^ 1=128:=rfl;omega)
theorem txt_eq (s:ByteArray):(dY s).length=(aS s.size).length+s.size:=by unfold dY;rw[List.length_append,ba_len]
theorem fiL_w {u:Fi} (h:bB u=true):(fiL u).length≤20+(u.f.size+u.l.size):=by
 have:=gI h
 have e:fiL u=aS u.lv++aS u.nu++aS u.ct++aS u.sz++dY u.f++dY u.l:=rfl
 rw[e]
 simp only[List.length_append]
 rw[txt_eq,txt_eq]
 have h1:=n1 (v:=u.lv) (by omega)
 have h2:=n5 (v:=u.nu) (by omega)
 have h3:=n5 (v:=u.ct) (by omega)
 have h4:=n5 (v:=u.sz) (by omega)
 have h5:=n2 (v:=(u.f.size:Int)) (by omega)
 have h6:=n2 (v:=(u.l.size:Int)) (by omega)
 omega
theorem ntL_w {p:KV} (h1:p.1.size≤32) (h2:p.2.size≤20000):(ntL p).length≤36+p.2.size:=by
 have e:ntL p=dY p.1++dY p.2:=rfl
 rw[e,List.length_append,txt_eq,txt_eq]
 have h3:=n1 (v:=(p.1.size:Int)) (by omega)
 have h4:=n3 (v:=(p.2.size:Int)) (by omega)
 omega
theorem fiL_all:∀ l:List Fi,(∀ u∈l,bB u=true)→(l.flatMap fiL).length≤20*l.length+addW l
 |[],_=>Nat.zero_le _
 |u::l,h=>by
  have h1:=fiL_all l (fun x hx=>h x (List.mem_cons_of_mem _ hx))
  have h2:=fiL_w (h u (by simp))
  have h3:addW (u::l)=(u.f.size+u.l.size)+addW l:=rfl
  rw[List.flatMap_cons,List.length_append,List.length_cons,h3]
  omega
theorem ntL_all:∀ l:List KV,(∀ p∈l,p.1.size≤32∧p.2.size≤20000)→(l.flatMap ntL).length≤36*l.length+aJ l
 |[],_=>Nat.zero_le _
 |p::l,h=>by
  have h1:=ntL_all l (fun x hx=>h x (List.mem_cons_of_mem _ hx))
  have h2:=ntL_w (h p (by simp)).1 (h p (by simp)).2
  have h3:aJ (p::l)=p.2.size+aJ l:=rfl
  rw[List.flatMap_cons,List.length_append,List.length_cons,h3]
  omega
theorem remF_in:∀ (r:List Int) (m m2:List (Int×Fi)),(m.map (·.1)).Nodup→remF m r=some m2→r.length+m2.length≤m.length∧∀ n∈r,∃ q∈m,q.1=n
 |[],m,m2,_,h=>by simp only[remF,Option.some.injEq]at h;subst h;exact⟨by simp,fun n hn=>by simp at hn⟩
 |n::r,m,m2,hn,h=>by
  unfold remF at h
  split at h
  · rename_i hs
    obtain⟨h1,h2⟩:=remF_in r _ m2 (delL_nd hn n) h
    have hin:∃ q∈m,q.1=n:=by
     unfold aH at hs
     rw[Option.isSome_map,List.find?_isSome]at hs
     obtain⟨q,hq,e⟩:=hs
     exact⟨q,hq,by simpa using e⟩
    have hlt:(aW m n).length<m.length:=by
     obtain⟨q,hq,e⟩:=hin
     unfold aW
     exact List.length_filter_lt_length_iff_exists.2 ⟨q,hq,by simp[e]⟩
    refine⟨by rw[List.length_cons];omega,fun x hx=>?_⟩
    rcases List.mem_cons.1 hx with rfl|hx
    · exact hin
    · obtain⟨q,hq,e⟩:=h2 x hx
      exact⟨q,gW hq,e⟩
  · cases h
variable {s t:PS} {e:PE} {M:List KV} {p:Int}
theorem rec_ok (hg:cR s) (ha:aO s e=(0,t)) (hw:lightW e<40000) (hM:M.Perm (eR s.ns e.ns)) (hp:0≤p∧p+1≤1000000):RecOk (p+1,{e with ns:=M})∧(recL (p+1) {e with ns:=M}).length≤90000:=by
 have haa:=ha
 unfold aO at haa
 split at haa
 · injection haa with h1;omega
 rename_i hright
 split at haa
 · rename_i h1;injection haa with h2;exact absurd h2 h1
 rename_i htab
 have hright:bO e=true:=by simpa using hright
 unfold bO at hright
 simp only[Bool.and_eq_true]at hright
 obtain⟨⟨⟨hv,hf⟩,hlg⟩,hns⟩:=hright
 have hlg:=of_decide_eq_true hlg
 have hv2:∀ f∈e.add,bB f=true:=fun f h=>List.all_eq_true.1 hv f h
 obtain⟨m,m2,last,hr,hd,_⟩:=tabF_zero (Classical.not_not.1 htab)
 obtain⟨hr1,hr2⟩:=remF_in e.rem _ m (by have:=(lU hg.nums).nd;exact this) hr
 have hbl:(dU s.fs).length=s.fs.length:=by unfold dU;rw[List.length_map]
 have hfew:=hg.few
 have hrem:∀ n∈e.rem,0≤n∧n≤2147483647:=fun n hn=>by
  obtain⟨q,hq,rfl⟩:=hr2 n hn
  obtain⟨f,hf2,rfl⟩:=List.mem_map.1 hq
  have:=gI (hg.val f hf2)
  show 0≤f.nu∧f.nu≤_
  omega
 have hMn:∀ q∈M,q.1.size≤32∧q.2.size≤20000:=fun q hq=>by
  have:=List.all_eq_true.1 hns q (few_mem hM hq)
  unfold dB at this
  simp only[Bool.and_eq_true,decide_eq_true_eq]at this
  omega
 have hMl:=few_len hM
 have hMt:=few_texts hM
 unfold lightW lightN at hw
 have hfl:e.fl=[]∨iS e.fl=true:=by
  simp only[Bool.or_eq_true,decide_eq_true_eq]at hf
  exact hf
 have hLlen:(eE {e with ns:=M}).length≤80000:=by
  have h1:=fiL_all e.add hv2
  have h2:=ntL_all M hMn
  have h3:=fZ (f:=aS) (K:=5) e.rem (fun n hn=>n5 (by have:=hrem n hn;omega))
  have h4:=flL_len hfl
  have e1:=(aR (e.add.length:Int)).2
  have e2:=(aR (e.rem.length:Int)).2
  have e3:=(aR e.log).2
  have e4:=(aR ((flL e.fl).length:Int)).2
  have e5:=(aR (M.length:Int)).2
  have e6:eE {e with ns:=M}=aS e.add.length++e.add.flatMap fiL++aS e.rem.length++e.rem.flatMap aS++(aS e.log++(aS (flL e.fl).length++flL e.fl)++aS M.length)++M.flatMap ntL:=rfl
  rw[e6]
  simp only[List.length_append]
  omega
 have hRl:(recL (p+1) {e with ns:=M}).length≤90000:=by
  unfold recL
  rw[List.length_append]
  have:=(aR (p+1)).2
  omega
 refine⟨⟨⟨hv2,by show e.add.length≤_;omega,hrem,by show e.rem.length≤_;omega,hlg,hfl,fun q hq=>by have:=hMn q hq;omega,by show M.length≤_;omega⟩,⟨by show 0≤p+1;omega,hp.2⟩,Nat.le_trans hRl (by omega)⟩,hRl⟩
end
end Go.Proofs.YtpfibkgmfapnjaaGreatDoor
